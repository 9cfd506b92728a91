/-
  ResidenceOneStep's walk.
-/
import Derived.Test.YtfpepiabpadjdaaOneA
set_option linter.unusedSimpArgs false
set_option linter.unusedVariables false
namespace Go.Proofs.Ytfpepiabpadjdaa
open Go.RowKit Go.Maps
theorem grown_drew {a b : World} {row : Option Nat} (h : a.grownBy b row) : a.grownBy b.drew row := ⟨h.os, h.tape, h.output, h.size, h.block⟩
theorem pbox_drew {w : World} {b : Nat} {p : PM} (h : PBox w b p) : PBox w.drew b p := h.below ((Below.refl w.heap.size w).drew) h.lt
set_option maxRecDepth 10000 in
set_option maxHeartbeats 8000000 in
theorem onestep_any (c s stay sync follow : Int) (hc : 0 ≤ c ∧ c ≤ 18446744073709551615) (hs : 0 ≤ s ∧ s ≤ 65535) (ht : 0 ≤ stay ∧ stay ≤ 4294967295) (hy : -2147483648 ≤ sync ∧ sync ≤ 2147483647) (hf : -2147483648 ≤ follow ∧ follow ≤ 2147483647) (w : World) :
    Calls Try.prog 6 #[.int .u64 c, .int .u16 s, .int .u32 stay, .int .i32 sync, .int .i32 follow] w fun x w' => x = .returned (.bool true) ∧ Below w.heap.size w w' := by
  have e1 : wrap64 s = s := by unfold wrap64; omega
  have e2 : wrap64 stay = stay := by unfold wrap64; omega
  have e3 : wrap64 sync = sync := by unfold wrap64; omega
  have e4 : wrap64 follow = follow := by unfold wrap64; omega
  have c1 := fun w => add_any (SP c s sync) (show (Lit.int .i64 0).wf = true by decide) (show -9223372036854775808 ≤ sync ∧ sync ≤ 9223372036854775807 by omega) stay 0 w
  rw [o1 hs hy ht] at c1
  have c2 := fun w => new_any 2 (by decide) (by decide) w
  have c3 : ∀ {w tb m}, TabAt w tb (some m) 2 DE → _ := fun {w tb m} h => hold_any h (by simp) (SP c s sync) (show (Lit.int .i64 0).wf = true by decide) (pwS hc hs) stay
  rw [o2' hs ht, o2 hs ht] at c3
  have c4 : ∀ {w tb m}, TabAt w tb (some m) 2 (D1 c s sync stay) → _ := fun {w tb m} h => hold_any h (by simp) (SP c s sync) (show (Lit.int .i64 0).wf = true by decide) (pwS hc hs) 0
  rw [o4' hc hs, o4 hc hs] at c4
  have c5 : ∀ {w tb m}, TabAt w tb (some m) 2 (D1 c s sync stay) → _ := fun {w tb m} h => release_any h (FP c s follow) (show (Lit.int .i64 8).wf = true by decide) (pwF hc hs) (show -9223372036854775808 ≤ follow ∧ follow ≤ 9223372036854775807 by omega) (fun _ => by rw [o5 hc hs]; omega)
  rw [o6' hc hs hf ht, o6 hc hs hf ht] at c5
  have c6 : ∀ {w tb m}, TabAt w tb (some m) 2 (D2 c s sync stay) → _ := fun {w tb m} h => release_any h (FP c s follow) (show (Lit.int .i64 8).wf = true by decide) (pwF hc hs) (show -9223372036854775808 ≤ follow ∧ follow ≤ 9223372036854775807 by omega) (fun h => by rw [show Maps.has (D2 c s sync stay) (keyL (FP c s follow).kind (FP c s follow)) = false from o7 hs] at h; cases h)
  rw [o8' hs, o8 hs] at c6
  have c7 : ∀ {w tb m}, TabAt w tb (some m) 2 (D2 c s sync stay) → _ := fun {w tb m} h => len_any h
  rw [o9 hc hs] at c7
  have aw := fun w => awake_any w
  have HL : Kp (wrap64 (sync + stay * 65536 + follow) = sync + stay * 65536 + follow ∧ wrap64 (sync + (follow + stay * 65536)) = sync + stay * 65536 + follow ∧ wrap64 (follow + stay * 65536 - follow) = stay * 65536 ∧ wrap64 (65536 * stay) = stay * 65536 ∧ True) := Kp.mk ⟨by unfold wrap64; omega, by unfold wrap64; omega, by unfold wrap64; omega, by unfold wrap64; omega, trivial⟩
  clear hc hs ht hy hf
  go_enter Try.func6, Try.ntmps6
  have hth := there_new w #[.int .i64 0, .int .i64 0, .int .i64 0, .int .i64 0, .int .u64 0, .int .i64 0, .int .i64 0, .int .i64 0, .int .i64 0, .int .i64 0, .int .u64 0, .int .i64 0, .int .i64 0, .int .i64 0, .int .i64 0, .int .i64 0, .int .i64 0, .int .i64 0, .int .u64 0, .int .i64 0, .int .i64 0] 33
  go_upto_region 2 with (first | ((with_reducible show wpList _ _ _ ({ dst := _, op := Op.store _ _ _, type := _, pos := _, after := _, guard := _ } :: _) _ _); refine wpList_store_mid rfl 33 _ _ rfl w.heap.size 0 (SP c s sync).vals rfl rfl hth (by kernel_rfl) (by kernel_rfl) ?_; obtain ⟨w1, hn⟩ : ∃ W, W = (w.alloc (.cells #[.int .i64 0, .int .i64 0, .int .i64 0, .int .i64 0, .int .u64 0, .int .i64 0, .int .i64 0, .int .i64 0, .int .i64 0, .int .i64 0, .int .u64 0, .int .i64 0, .int .i64 0, .int .i64 0, .int .i64 0, .int .i64 0, .int .i64 0, .int .i64 0, .int .u64 0, .int .i64 0, .int .i64 0] 33)).setCells w.heap.size 0 (SP c s sync).vals.toList := ⟨_, rfl⟩; rw [← hn]; have hX := Below.setCells w.heap.size (Nat.le_refl _) (SP c s sync).vals.toList 0 _ ((Below.refl w.heap.size w).alloc (Nat.le_refl _) (.cells #[.int .i64 0, .int .i64 0, .int .i64 0, .int .i64 0, .int .u64 0, .int .i64 0, .int .i64 0, .int .i64 0, .int .i64 0, .int .i64 0, .int .u64 0, .int .i64 0, .int .i64 0, .int .i64 0, .int .i64 0, .int .i64 0, .int .i64 0, .int .i64 0, .int .u64 0, .int .i64 0, .int .i64 0] 33)); have hS := PBox.stored (SP c s sync) (by simp) hth; rw [← hn] at hX hS; clear hn hth) | fail)
  have hB := hX
  clear hX
  have H := Kp.mk (And.intro hS hB)
  clear hS hB
  have hth := there_new w1 #[.int .i64 0, .int .i64 0, .int .i64 0, .int .i64 0, .int .u64 0, .int .i64 0, .int .i64 0, .int .i64 0, .int .i64 0, .int .i64 0, .int .u64 0, .int .i64 0, .int .i64 0, .int .i64 0, .int .i64 0, .int .i64 0, .int .i64 0, .int .i64 0, .int .u64 0, .int .i64 0, .int .i64 0] 33
  go_upto_region 3 with (first | ((with_reducible show wpList _ _ _ ({ dst := _, op := Op.store _ _ _, type := _, pos := _, after := _, guard := _ } :: _) _ _); refine wpList_store_mid rfl 33 _ _ rfl w1.heap.size 0 (FP c s follow).vals rfl rfl hth (by kernel_rfl) (by kernel_rfl) ?_; obtain ⟨w2, hn⟩ : ∃ W, W = (w1.alloc (.cells #[.int .i64 0, .int .i64 0, .int .i64 0, .int .i64 0, .int .u64 0, .int .i64 0, .int .i64 0, .int .i64 0, .int .i64 0, .int .i64 0, .int .u64 0, .int .i64 0, .int .i64 0, .int .i64 0, .int .i64 0, .int .i64 0, .int .i64 0, .int .i64 0, .int .u64 0, .int .i64 0, .int .i64 0] 33)).setCells w1.heap.size 0 (FP c s follow).vals.toList := ⟨_, rfl⟩; rw [← hn]; have hX := Below.setCells w1.heap.size (Nat.le_refl _) (FP c s follow).vals.toList 0 _ ((Below.refl w1.heap.size w1).alloc (Nat.le_refl _) (.cells #[.int .i64 0, .int .i64 0, .int .i64 0, .int .i64 0, .int .u64 0, .int .i64 0, .int .i64 0, .int .i64 0, .int .i64 0, .int .i64 0, .int .u64 0, .int .i64 0, .int .i64 0, .int .i64 0, .int .i64 0, .int .i64 0, .int .i64 0, .int .i64 0, .int .u64 0, .int .i64 0, .int .i64 0] 33)); have hF := PBox.stored (FP c s follow) (by simp) hth; rw [← hn] at hX hF; clear hn hth) | fail)
  obtain ⟨hS, hB⟩ := H.out
  clear H
  have hS := hS.below hX hS.lt
  have hB := Below.then hB hB.size hX
  clear hX
  have H := Kp.mk (And.intro hF (And.intro hS hB))
  clear hF hS hB
  go_wp2_with (first | ((with_reducible show wpList _ _ _ ({ dst := _, op := Op.load 33 (Operand.tmp 11), type := _, pos := _, after := _, guard := _ } :: _) _ _); refine wpList_load_ptp _ rfl (w.heap.size) (SP c s sync) (H.out.2.1) rfl (by kernel_rfl) ?_) | fail)
  refine (c1 _).mono ?_
  rintro e w3 ⟨rfl, hX⟩
  obtain ⟨hF, hS, hB⟩ := H.out
  clear H
  have hF := hF.below hX hF.lt
  have hS := hS.below hX hS.lt
  have hB := Below.then hB hB.size hX
  clear hX
  have H := Kp.mk (And.intro hF (And.intro hS hB))
  clear hF hS hB
  have HM3 : Kp (w1.heap.size < w3.heap.size ∧ w.heap.size < w3.heap.size) := Kp.mk ⟨H.out.1.lt, H.out.2.1.lt⟩
  have hth := there_new w3 #[.int .i64 0, .int .i64 0, .int .i64 0, .int .i64 0, .int .u64 0, .int .i64 0, .int .i64 0, .int .i64 0, .int .i64 0, .int .i64 0, .int .u64 0, .int .i64 0, .int .i64 0, .int .i64 0, .int .i64 0, .int .i64 0, .int .i64 0, .int .i64 0, .int .u64 0, .int .i64 0, .int .i64 0] 33
  go_upto_region 4 with (first | ((with_reducible show wpList _ _ _ ({ dst := _, op := Op.store _ _ _, type := _, pos := _, after := _, guard := _ } :: _) _ _); refine wpList_store_mid rfl 33 _ _ rfl w3.heap.size 0 (OneP c s sync stay).vals rfl rfl hth (by kernel_rfl) (by kernel_rfl) ?_; obtain ⟨w4, hn⟩ : ∃ W, W = (w3.alloc (.cells #[.int .i64 0, .int .i64 0, .int .i64 0, .int .i64 0, .int .u64 0, .int .i64 0, .int .i64 0, .int .i64 0, .int .i64 0, .int .i64 0, .int .u64 0, .int .i64 0, .int .i64 0, .int .i64 0, .int .i64 0, .int .i64 0, .int .i64 0, .int .i64 0, .int .u64 0, .int .i64 0, .int .i64 0] 33)).setCells w3.heap.size 0 (OneP c s sync stay).vals.toList := ⟨_, rfl⟩; rw [← hn]; have hX := Below.setCells w3.heap.size (Nat.le_refl _) (OneP c s sync stay).vals.toList 0 _ ((Below.refl w3.heap.size w3).alloc (Nat.le_refl _) (.cells #[.int .i64 0, .int .i64 0, .int .i64 0, .int .i64 0, .int .u64 0, .int .i64 0, .int .i64 0, .int .i64 0, .int .i64 0, .int .i64 0, .int .u64 0, .int .i64 0, .int .i64 0, .int .i64 0, .int .i64 0, .int .i64 0, .int .i64 0, .int .i64 0, .int .u64 0, .int .i64 0, .int .i64 0] 33)); have hO := PBox.stored (OneP c s sync stay) (by simp) hth; have hOt := World.there_setCells hth w3.heap.size 0 (OneP c s sync stay).vals.toList; rw [← hn] at hX hO hOt; clear hn hth) | fail)
  obtain ⟨hF, hS, hB⟩ := H.out
  clear H
  have hF := hF.below hX hF.lt
  have hS := hS.below hX hS.lt
  have hB := Below.then hB hB.size hX
  clear hX
  have H := Kp.mk (And.intro hO (And.intro hOt (And.intro hF (And.intro hS hB))))
  clear hO hOt hF hS hB
  go_wp2_with fail
  refine (c2 _).mono ?_
  rintro e w5 ⟨rfl, hT, hX⟩
  obtain ⟨hO, hOt, hF, hS, hB⟩ := H.out
  clear H
  have n1 : some w.heap.size ≠ some w4.heap.size := by intro e; simp at e; have := hS.lt; omega
  have n2 : some w1.heap.size ≠ some w4.heap.size := by intro e; simp at e; have := hF.lt; omega
  have n3 : some w3.heap.size ≠ some w4.heap.size := by intro e; simp at e; have := hO.lt; omega
  have n4 : ∀ k, some w4.heap.size = some k → w.heap.size ≤ k := by intro k e; simp at e; have := hB.size; omega
  have n5 : w3.heap.size < w4.heap.size := hO.lt
  have m1 : w1.heap.size < w3.heap.size := HM3.out.1
  have m0 : w.heap.size < w3.heap.size := HM3.out.2
  clear HM3
  have hOt := there_below hOt hX hO.lt
  have hO := hO.below hX hO.lt
  have hF := hF.below hX hF.lt
  have hS := hS.below hX hS.lt
  have hB := Below.then hB hB.size hX
  clear hX
  have H := Kp.mk (And.intro hO (And.intro hOt (And.intro hF (And.intro hS hB))))
  clear hO hOt hF hS hB
  have HN := Kp.mk (And.intro n1 (And.intro n2 (And.intro n3 (And.intro n4 n5))))
  have HN3 := Kp.mk (And.intro m1 m0)
  clear n1 n2 n3 n4 n5 m1 m0
  go_wp2_with (first | ((with_reducible show wpList _ _ _ ({ dst := _, op := Op.load 33 (Operand.tmp 11), type := _, pos := _, after := _, guard := _ } :: _) _ _); refine wpList_load_ptp _ rfl (w.heap.size) (SP c s sync) (H.out.2.2.2.1) rfl (by kernel_rfl) ?_) | fail)
  refine (c3 hT).mono ?_
  rintro e w6 ⟨rfl, hT6, hG⟩
  clear hT
  obtain ⟨hO, hOt, hF, hS, hB⟩ := H.out
  clear H
  obtain ⟨n1, n2, n3, n4, n5⟩ := HN.out
  have hOt := there_grown hOt hO.lt hG n3
  have hO := hO.grown hG n3
  have hF := hF.grown hG n2
  have hS := hS.grown hG n1
  have hB := hB.grown hG hB.size n4
  clear hG n1 n2 n3 n4 n5
  have H := Kp.mk (And.intro hO (And.intro hOt (And.intro hF (And.intro hS hB))))
  clear hO hOt hF hS hB
  go_wp2_with (first | ((with_reducible show wpList _ _ _ ({ dst := _, op := Op.load 33 (Operand.tmp 11), type := _, pos := _, after := _, guard := _ } :: _) _ _); refine wpList_load_ptp _ rfl (w.heap.size) (SP c s sync) (H.out.2.2.2.1) rfl (by kernel_rfl) ?_) | fail)
  refine (c4 hT6).mono ?_
  rintro e w7 ⟨rfl, hT7, hG⟩
  clear hT6
  obtain ⟨hO, hOt, hF, hS, hB⟩ := H.out
  clear H
  obtain ⟨n1, n2, n3, n4, n5⟩ := HN.out
  have hOt := there_grown hOt hO.lt hG n3
  have hO := hO.grown hG n3
  have hF := hF.grown hG n2
  have hS := hS.grown hG n1
  have hB := hB.grown hG hB.size n4
  clear hG n1 n2 n3 n4 n5
  have H := Kp.mk (And.intro hO (And.intro hOt (And.intro hF (And.intro hS hB))))
  clear hO hOt hF hS hB
  go_wp2_with (first | ((with_reducible show wpList _ _ _ ({ dst := _, op := Op.load 33 (Operand.tmp 12), type := _, pos := _, after := _, guard := _ } :: _) _ _); refine wpList_load_ptp _ rfl (w1.heap.size) (FP c s follow) (H.out.2.2.1) rfl (by kernel_rfl) ?_) | fail)
  refine (c5 hT7).mono ?_
  rintro e w8 ⟨rfl, hT8, hG⟩
  clear hT7
  obtain ⟨hO, hOt, hF, hS, hB⟩ := H.out
  clear H
  obtain ⟨n1, n2, n3, n4, n5⟩ := HN.out
  have hOt := there_grown hOt hO.lt hG n3
  have hO := hO.grown hG n3
  have hF := hF.grown hG n2
  have hS := hS.grown hG n1
  have hB := hB.grown hG hB.size n4
  clear hG n1 n2 n3 n4 n5
  have H := Kp.mk (And.intro hO (And.intro hOt (And.intro hF (And.intro hS hB))))
  clear hO hOt hF hS hB
  have hth := there_new w8 #[.int .i64 0, .int .i64 0, .int .i64 0, .int .i64 0, .int .u64 0, .int .i64 0, .int .i64 0, .int .i64 0, .int .i64 0, .int .i64 0, .int .u64 0, .int .i64 0, .int .i64 0, .int .i64 0, .int .i64 0, .int .i64 0, .int .i64 0, .int .i64 0, .int .u64 0, .int .i64 0, .int .i64 0] 33
  go_upto_region 8 with (first | ((with_reducible show wpList _ _ _ ({ dst := _, op := Op.store _ _ _, type := _, pos := _, after := _, guard := _ } :: _) _ _); refine wpList_store_mid rfl 33 _ _ rfl w8.heap.size 0 (TwoP c s follow stay).vals rfl rfl hth (by kernel_rfl) (by kernel_rfl) ?_; obtain ⟨w9, hn⟩ : ∃ W, W = (w8.alloc (.cells #[.int .i64 0, .int .i64 0, .int .i64 0, .int .i64 0, .int .u64 0, .int .i64 0, .int .i64 0, .int .i64 0, .int .i64 0, .int .i64 0, .int .u64 0, .int .i64 0, .int .i64 0, .int .i64 0, .int .i64 0, .int .i64 0, .int .i64 0, .int .i64 0, .int .u64 0, .int .i64 0, .int .i64 0] 33)).setCells w8.heap.size 0 (TwoP c s follow stay).vals.toList := ⟨_, rfl⟩; rw [← hn]; have hX := Below.setCells w8.heap.size (Nat.le_refl _) (TwoP c s follow stay).vals.toList 0 _ ((Below.refl w8.heap.size w8).alloc (Nat.le_refl _) (.cells #[.int .i64 0, .int .i64 0, .int .i64 0, .int .i64 0, .int .u64 0, .int .i64 0, .int .i64 0, .int .i64 0, .int .i64 0, .int .i64 0, .int .u64 0, .int .i64 0, .int .i64 0, .int .i64 0, .int .i64 0, .int .i64 0, .int .i64 0, .int .i64 0, .int .u64 0, .int .i64 0, .int .i64 0] 33)); have hTw := PBox.stored (TwoP c s follow stay) (by simp) hth; have hTwt := World.there_setCells hth w8.heap.size 0 (TwoP c s follow stay).vals.toList; rw [← hn] at hX hTw hTwt; clear hn hth) | fail)
  have h8 : w4.heap.size < w8.heap.size := hT8.mlt _ rfl
  have hT9 := hT8.below hX
  obtain ⟨hO, hOt, hF, hS, hB⟩ := H.out
  clear H
  have n7 : w3.heap.size < w8.heap.size := hO.lt
  have n8 : w.heap.size < w8.heap.size := hS.lt
  have n9 : w1.heap.size < w8.heap.size := hF.lt
  have hOt := there_below hOt hX hO.lt
  have hO := hO.below hX hO.lt
  have hF := hF.below hX hF.lt
  have hS := hS.below hX hS.lt
  have hB := Below.then hB hB.size hX
  clear hX hT8
  have H := Kp.mk (And.intro hTw (And.intro hTwt (And.intro hO (And.intro hOt (And.intro hF (And.intro hS hB))))))
  clear hTw hTwt hO hOt hF hS hB
  have n6 : some w8.heap.size ≠ some w4.heap.size := by intro e; simp at e; omega
  have HN2 := Kp.mk (And.intro n6 (And.intro n7 (And.intro n8 n9)))
  clear n6 n7 n8 n9 h8
  go_wp2_with (first | ((with_reducible show wpList _ _ _ ({ dst := _, op := Op.load 33 (Operand.tmp 12), type := _, pos := _, after := _, guard := _ } :: _) _ _); refine wpList_load_ptp _ rfl (w1.heap.size) (FP c s follow) (H.out.2.2.2.2.1) rfl (by kernel_rfl) ?_) | fail)
  refine (c6 hT9).mono ?_
  rintro e w10 ⟨rfl, hT10, hG⟩
  clear hT9
  obtain ⟨hTw, hTwt, hO, hOt, hF, hS, hB⟩ := H.out
  clear H
  obtain ⟨n1, n2, n3, n4, n5⟩ := HN.out
  obtain ⟨n6, _⟩ := HN2.out
  have hOt := there_grown hOt hO.lt hG n3
  have hTwt := there_grown hTwt hTw.lt hG n6
  have hTw := hTw.grown hG n6
  have hO := hO.grown hG n3
  have hF := hF.grown hG n2
  have hS := hS.grown hG n1
  have hB := hB.grown hG hB.size n4
  clear hG n1 n2 n3 n4 n5 n6
  have H := Kp.mk (And.intro hTw (And.intro hTwt (And.intro hO (And.intro hOt (And.intro hF (And.intro hS hB))))))
  clear hTw hTwt hO hOt hF hS hB
  have hth := there_new w10 #[.int .i64 0, .int .i64 0, .int .i64 0, .int .i64 0, .int .u64 0, .int .i64 0, .int .i64 0, .int .i64 0, .int .i64 0, .int .i64 0, .int .u64 0, .int .i64 0, .int .i64 0, .int .i64 0, .int .i64 0, .int .i64 0, .int .i64 0, .int .i64 0, .int .u64 0, .int .i64 0, .int .i64 0] 33
  go_upto_region 9 with (first | ((with_reducible show wpList _ _ _ ({ dst := _, op := Op.store _ _ _, type := _, pos := _, after := _, guard := _ } :: _) _ _); refine wpList_store_mid rfl 33 _ _ rfl w10.heap.size 0 (QZ).vals rfl rfl hth (by kernel_rfl) (by kernel_rfl) ?_; obtain ⟨w11, hn⟩ : ∃ W, W = (w10.alloc (.cells #[.int .i64 0, .int .i64 0, .int .i64 0, .int .i64 0, .int .u64 0, .int .i64 0, .int .i64 0, .int .i64 0, .int .i64 0, .int .i64 0, .int .u64 0, .int .i64 0, .int .i64 0, .int .i64 0, .int .i64 0, .int .i64 0, .int .i64 0, .int .i64 0, .int .u64 0, .int .i64 0, .int .i64 0] 33)).setCells w10.heap.size 0 (QZ).vals.toList := ⟨_, rfl⟩; rw [← hn]; have hX := Below.setCells w10.heap.size (Nat.le_refl _) (QZ).vals.toList 0 _ ((Below.refl w10.heap.size w10).alloc (Nat.le_refl _) (.cells #[.int .i64 0, .int .i64 0, .int .i64 0, .int .i64 0, .int .u64 0, .int .i64 0, .int .i64 0, .int .i64 0, .int .i64 0, .int .i64 0, .int .u64 0, .int .i64 0, .int .i64 0, .int .i64 0, .int .i64 0, .int .i64 0, .int .i64 0, .int .i64 0, .int .u64 0, .int .i64 0, .int .i64 0] 33)); have hz := PBox.stored (QZ) (by simp) hth; rw [← hn] at hX hz; clear hn hth) | fail)
  have hT11 := hT10.below hX
  obtain ⟨hTw, hTwt, hO, hOt, hF, hS, hB⟩ := H.out
  clear H
  have hOt := there_below hOt hX hO.lt
  have hTwt := there_below hTwt hX hTw.lt
  have hTw := hTw.below hX hTw.lt
  have hO := hO.below hX hO.lt
  have hF := hF.below hX hF.lt
  have hS := hS.below hX hS.lt
  have hB := Below.then hB hB.size hX
  clear hX hT10 hz
  have i1 : w11.cell? ⟨w.heap.size, 3, none⟩ = some (.int .i64 sync) := hS.c3
  have i2 : w11.cell? ⟨w1.heap.size, 3, none⟩ = some (.int .i64 follow) := hF.c3
  have i3 : w11.cell? ⟨w3.heap.size, 3, none⟩ = some (.int .i64 (sync + stay * 65536)) := hO.c3
  have i4 : w11.cell? ⟨w8.heap.size, 3, none⟩ = some (.int .i64 (follow + stay * 65536)) := hTw.c3
  have f3 : w11.frozen? ⟨w3.heap.size, 3, none⟩ = false := (hOt 3 (by decide)).2
  have f4 : w11.frozen? ⟨w8.heap.size, 3, none⟩ = false := (hTwt 3 (by decide)).2
  have H := Kp.mk (And.intro hTw (And.intro hTwt (And.intro hO (And.intro hOt (And.intro hF (And.intro hS hB))))))
  clear hTw hTwt hO hOt hF hS hB
  obtain ⟨n7, n8, n9⟩ := HN2.out.2
  obtain ⟨g1, g2, g3, g4, g5⟩ := HL.out
  clear c1 c2 c3 c4 c5 c6
  have C := c7 hT11
  clear c7 hT11
  go_upto_region 11 with (first | (refine C.mono ?_; rintro e w12 ⟨rfl, rfl⟩) | fail)
  obtain ⟨m1, m0⟩ := HN3.out
  have q1 : ¬ w1.heap.size = w3.heap.size := by omega
  have q2 : ¬ w3.heap.size = w1.heap.size := by omega
  have q3 : ¬ w8.heap.size = w3.heap.size := by omega
  have q4 : ¬ w3.heap.size = w8.heap.size := by omega
  have q5 : ¬ w1.heap.size = w8.heap.size := by omega
  have q6 : ¬ w8.heap.size = w1.heap.size := by omega
  have q7 : ¬ w.heap.size = w3.heap.size := by omega
  have q8 : ¬ w3.heap.size = w.heap.size := by omega
  have q9 : ¬ w.heap.size = w8.heap.size := by omega
  have q0 : ¬ w8.heap.size = w.heap.size := by omega
  have HM := Kp.mk (And.intro m0 n8)
  clear n7 n8 n9 m1 m0 g1 g2 g3 g4 g5 HN HN2 HN3 HL
  go_region
  clear i1 i2 i3 i4 f3 f4
  obtain ⟨w13, hw⟩ : ∃ W, W = ((w11.setCell ⟨w3.heap.size, 3, none⟩ (.int .i64 sync)).setCell ⟨w8.heap.size, 3, none⟩ (.int .i64 follow)).drew := ⟨_, rfl⟩
  rw [← hw]
  obtain ⟨hTw, hTwt, hO, hOt, hF, hS, hB⟩ := H.out
  clear H
  have G1 : w11.grownBy (w11.setCell ⟨w3.heap.size, 3, none⟩ (.int .i64 sync)) (some w3.heap.size) := grown_setCells w3.heap.size [.int .i64 sync] 3 w11 (World.grownBy.refl _ _)
  have G2 : (w11.setCell ⟨w3.heap.size, 3, none⟩ (.int .i64 sync)).grownBy w13 (some w8.heap.size) := by rw [hw]; exact grown_drew (grown_setCells w8.heap.size [.int .i64 follow] 3 _ (World.grownBy.refl _ _))
  have hS13 := (hS.grown G1 (by simpa using q7)).grown G2 (by simpa using q9)
  have hF13 := (hF.grown G1 (by simpa using q1)).grown G2 (by simpa using q5)
  have hO13 : PBox w13 w3.heap.size (SP c s sync) := (hO.set3 sync).grown G2 (by simpa using q4)
  have hT13 : PBox w13 w8.heap.size (FP c s follow) := by rw [hw]; exact pbox_drew ((hTw.grown G1 (by simpa using q3)).set3 follow)
  have hB13 : Below w.heap.size w w13 := by rw [hw]; exact ((hB.setCell (by exact Nat.le_of_lt HM.out.1) _).setCell (by exact Nat.le_of_lt HM.out.2) _).drew
  clear hw G1 G2 hTw hTwt hO hOt hF hS hB q1 q2 q3 q4 q5 q6 q7 q8 q9 q0 HM
  go_wp2_with (first | ((with_reducible show wpList _ _ _ ({ dst := _, op := Op.load 33 (Operand.tmp 13), type := _, pos := _, after := _, guard := _ } :: _) _ _); refine wpList_load_ptp _ rfl (w3.heap.size) (SP c s sync) (hO13) rfl (by kernel_rfl) ?_) | ((with_reducible show wpList _ _ _ ({ dst := _, op := Op.load 33 (Operand.tmp 11), type := _, pos := _, after := _, guard := _ } :: _) _ _); refine wpList_load_ptp _ rfl (w.heap.size) (SP c s sync) (hS13) rfl (by kernel_rfl) ?_) | ((with_reducible show wpList _ _ _ ({ dst := _, op := Op.load 33 (Operand.tmp 16), type := _, pos := _, after := _, guard := _ } :: _) _ _); refine wpList_load_ptp _ rfl (w8.heap.size) (FP c s follow) (hT13) rfl (by kernel_rfl) ?_) | ((with_reducible show wpList _ _ _ ({ dst := _, op := Op.load 33 (Operand.tmp 12), type := _, pos := _, after := _, guard := _ } :: _) _ _); refine wpList_load_ptp _ rfl (w1.heap.size) (FP c s follow) (hF13) rfl (by kernel_rfl) ?_) | ((with_reducible show wpList _ _ _ ({ dst := _, op := Op.binOp BinOp.eql 33 (Operand.tmp 113) (Operand.tmp 114) _, type := _, pos := _, after := _, guard := _ } :: _) _ _); refine wpList_eq_ptp _ _ rfl (SP c s sync) rfl rfl (by kernel_rfl) ?_) | ((with_reducible show wpList _ _ _ ({ dst := _, op := Op.binOp BinOp.eql 33 (Operand.tmp 117) (Operand.tmp 118) _, type := _, pos := _, after := _, guard := _ } :: _) _ _); refine wpList_eq_ptp _ _ rfl (FP c s follow) rfl rfl (by kernel_rfl) ?_) | fail)
  refine (aw _).mono ?_
  rintro e w14 ⟨rfl, hX⟩
  have HB := Below.then hB13 hB13.size hX
  clear hX hB13 hS13 hF13 hO13 hT13
  go_wp2_with fail
  go_ret
  exact ⟨rfl, HB⟩
end Go.Proofs.Ytfpepiabpadjdaa
