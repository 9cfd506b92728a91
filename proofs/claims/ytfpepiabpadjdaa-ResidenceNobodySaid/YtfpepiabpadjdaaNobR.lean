/-
  ResidenceNobody's walk.
-/
import Derived.Test.YtfpepiabpadjdaaResL
set_option linter.unusedSimpArgs false
set_option linter.unusedVariables false
namespace Go.Proofs.Ytfpepiabpadjdaa
open Go.RowKit Go.Maps
def PS : PM := { PM.zero with flags := 512 }
def PF : PM := { PM.zero with kind := 8 }
theorem pwfS : PWf PS := ⟨by decide, by decide, by decide, by decide⟩
theorem pwfF : PWf PF := ⟨by decide, by decide, by decide, by decide⟩
theorem m1 : relF DE PF = (QZ, 11) := by kernel_rfl
theorem m2 : relD DE PF = DE := by unfold relD; rw [m1]; rfl
theorem m3 : holdE DE 0 PS 0 = 13 := by kernel_rfl
theorem m4 : holdD DE 0 PS 0 = DE := by unfold holdD; rw [m3]; rfl
theorem m5 : Maps.size DE = 0 := rfl
set_option maxRecDepth 10000 in
set_option maxHeartbeats 8000000 in
theorem nobody_any (p : PM) (stay limit : Int) (w : World) : Calls Try.prog 8 #[.agg p.vals, .int .i64 stay, .int .i64 limit] w fun x w' => x = .returned (.bool true) ∧ Below w.heap.size w w' := by
  have d1 := fun w => release_nil w p
  have d2 := fun w => hold_nil w p stay
  have aw := fun w => awake_any w
  have hX2 : Below w.heap.size w ((w.alloc (.cells p.vals 33)).alloc (.cells #[.map none, .int .i64 0] 57)) := ((Below.refl _ _).alloc (Nat.le_refl _) _).alloc (by simp) _
  have hm := (PBox.made w p 33).below ((Below.refl _ _).alloc (Nat.le_refl _) (.cells #[.map none, .int .i64 0] 57)) (by simp)
  have hT : TabAt ((w.alloc (.cells p.vals 33)).alloc (.cells #[.map none, .int .i64 0] 57)) (w.heap.size + 1) none 0 DE :=
    ⟨by rw [World.cell?_alloc_at _ _ _ _ (by simp)]; rfl, by rw [World.cell?_alloc_at _ _ _ _ (by simp)]; rfl, by simp, by decide, rfl⟩
  obtain ⟨W, hW⟩ : ∃ W, W = (w.alloc (.cells p.vals 33)).alloc (.cells #[.map none, .int .i64 0] 57) := ⟨_, rfl⟩
  rw [← hW] at hX2 hm hT
  simp only [PM.vals] at hW d1 d2
  have HB := Kp.mk hX2
  have HM := Kp.mk hm
  have HT := Kp.mk hT
  clear hX2 hm hT
  unfold PM.vals
  go_enter Try.func8, Try.ntmps8
  go_upto_region 3 with fail
  rw [← hW]
  clear hW
  go_wp2_with (first | ((with_reducible show wpList _ _ _ ({ dst := _, op := Op.load 33 (Operand.tmp 3), type := _, pos := _, after := _, guard := _ } :: _) _ _); refine wpList_load_ptp _ rfl w.heap.size p HM.out rfl (by kernel_rfl) ?_) | fail)
  refine (d1 _).mono ?_
  rintro e w1 ⟨rfl, hb⟩
  have H := Kp.mk (And.intro (HM.out.below hb HM.out.lt) (And.intro (HT.out.below hb) (Below.then HB.out HB.out.size hb)))
  clear hb HM HT HB
  have hth := there_new w1 #[.int .i64 0, .int .i64 0, .int .i64 0, .int .i64 0, .int .u64 0, .int .i64 0, .int .i64 0, .int .i64 0, .int .i64 0, .int .i64 0, .int .u64 0, .int .i64 0, .int .i64 0, .int .i64 0, .int .i64 0, .int .i64 0, .int .i64 0, .int .i64 0, .int .u64 0, .int .i64 0, .int .i64 0] 33
  go_upto_region 4 with (first | ((with_reducible show wpList _ _ _ ({ dst := _, op := Op.store _ _ _, type := _, pos := _, after := _, guard := _ } :: _) _ _); refine wpList_store_mid rfl 33 _ _ rfl w1.heap.size 0 (PM.zero).vals rfl rfl hth (by kernel_rfl) (by kernel_rfl) ?_; obtain ⟨w2, hn⟩ : ∃ W, W = (w1.alloc (.cells #[.int .i64 0, .int .i64 0, .int .i64 0, .int .i64 0, .int .u64 0, .int .i64 0, .int .i64 0, .int .i64 0, .int .i64 0, .int .i64 0, .int .u64 0, .int .i64 0, .int .i64 0, .int .i64 0, .int .i64 0, .int .i64 0, .int .i64 0, .int .i64 0, .int .u64 0, .int .i64 0, .int .i64 0] 33)).setCells w1.heap.size 0 (PM.zero).vals.toList := ⟨_, rfl⟩; rw [← hn]; have hX := Below.setCells w1.heap.size (Nat.le_refl _) (PM.zero).vals.toList 0 _ ((Below.refl w1.heap.size w1).alloc (Nat.le_refl _) (.cells #[.int .i64 0, .int .i64 0, .int .i64 0, .int .i64 0, .int .u64 0, .int .i64 0, .int .i64 0, .int .i64 0, .int .i64 0, .int .i64 0, .int .u64 0, .int .i64 0, .int .i64 0, .int .i64 0, .int .i64 0, .int .i64 0, .int .i64 0, .int .i64 0, .int .u64 0, .int .i64 0, .int .i64 0] 33)); have hq := PBox.stored (PM.zero) (by simp) hth; rw [← hn] at hX hq; clear hn hth) | fail)
  obtain ⟨hm, hT, hB⟩ := H.out
  have H := Kp.mk (And.intro (hm.below hX hm.lt) (And.intro (hT.below hX) (And.intro (Below.then hB hB.size hX) hq)))
  clear hm hT hB hX hq
  have hth := there_new w2 #[.int .i64 0, .int .i64 0, .int .i64 0, .int .i64 0, .int .u64 0, .int .i64 0, .int .i64 0, .int .i64 0, .int .i64 0, .int .i64 0, .int .u64 0, .int .i64 0, .int .i64 0, .int .i64 0, .int .i64 0, .int .i64 0, .int .i64 0, .int .i64 0, .int .u64 0, .int .i64 0, .int .i64 0] 33
  go_upto_region 5 with (first | ((with_reducible show wpList _ _ _ ({ dst := _, op := Op.store _ _ _, type := _, pos := _, after := _, guard := _ } :: _) _ _); refine wpList_store_mid rfl 33 _ _ rfl w2.heap.size 0 (PS).vals rfl rfl hth (by kernel_rfl) (by kernel_rfl) ?_; obtain ⟨w3, hn⟩ : ∃ W, W = (w2.alloc (.cells #[.int .i64 0, .int .i64 0, .int .i64 0, .int .i64 0, .int .u64 0, .int .i64 0, .int .i64 0, .int .i64 0, .int .i64 0, .int .i64 0, .int .u64 0, .int .i64 0, .int .i64 0, .int .i64 0, .int .i64 0, .int .i64 0, .int .i64 0, .int .i64 0, .int .u64 0, .int .i64 0, .int .i64 0] 33)).setCells w2.heap.size 0 (PS).vals.toList := ⟨_, rfl⟩; rw [← hn]; have hX := Below.setCells w2.heap.size (Nat.le_refl _) (PS).vals.toList 0 _ ((Below.refl w2.heap.size w2).alloc (Nat.le_refl _) (.cells #[.int .i64 0, .int .i64 0, .int .i64 0, .int .i64 0, .int .u64 0, .int .i64 0, .int .i64 0, .int .i64 0, .int .i64 0, .int .i64 0, .int .u64 0, .int .i64 0, .int .i64 0, .int .i64 0, .int .i64 0, .int .i64 0, .int .i64 0, .int .i64 0, .int .u64 0, .int .i64 0, .int .i64 0] 33)); have hs := PBox.stored (PS) (by simp) hth; rw [← hn] at hX hs; clear hn hth) | fail)
  obtain ⟨hm, hT, hB, hq⟩ := H.out
  have hT3 := hT.below hX
  have H := Kp.mk (And.intro (hm.below hX hm.lt) (And.intro (hq.below hX hq.lt) (And.intro (Below.then hB hB.size hX) hs)))
  clear hm hT hB hX hq hs
  go_wp2_with fail
  have d3 := release_any hT3 PF (by decide) pwfF (by decide) (fun h => by exact absurd h (by decide))
  rw [m1, m2] at d3
  simp only [PF, PM.zero, PM.vals] at d3
  refine d3.mono ?_
  rintro e w4 ⟨rfl, hT4, hG4⟩
  obtain ⟨hm, hq, hB, hs⟩ := H.out
  have hG4' := fun b (hb : b < w3.heap.size) => hG4.block b hb (by simp)
  have H := Kp.mk (And.intro (hm.grown hG4 (by simp)) (And.intro (hq.grown hG4 (by simp)) (And.intro (hB.grown hG4 hB.size (by simp)) (hs.grown hG4 (by simp)))))
  clear hm hq hB hs hG4 hG4' d3 hT3
  have hth := there_new w4 #[.int .i64 0, .int .i64 0, .int .i64 0, .int .i64 0, .int .u64 0, .int .i64 0, .int .i64 0, .int .i64 0, .int .i64 0, .int .i64 0, .int .u64 0, .int .i64 0, .int .i64 0, .int .i64 0, .int .i64 0, .int .i64 0, .int .i64 0, .int .i64 0, .int .u64 0, .int .i64 0, .int .i64 0] 33
  go_upto_region 6 with (first | ((with_reducible show wpList _ _ _ ({ dst := _, op := Op.store _ _ _, type := _, pos := _, after := _, guard := _ } :: _) _ _); refine wpList_store_mid rfl 33 _ _ rfl w4.heap.size 0 (QZ).vals rfl rfl hth (by kernel_rfl) (by kernel_rfl) ?_; obtain ⟨w5, hn⟩ : ∃ W, W = (w4.alloc (.cells #[.int .i64 0, .int .i64 0, .int .i64 0, .int .i64 0, .int .u64 0, .int .i64 0, .int .i64 0, .int .i64 0, .int .i64 0, .int .i64 0, .int .u64 0, .int .i64 0, .int .i64 0, .int .i64 0, .int .i64 0, .int .i64 0, .int .i64 0, .int .i64 0, .int .u64 0, .int .i64 0, .int .i64 0] 33)).setCells w4.heap.size 0 (QZ).vals.toList := ⟨_, rfl⟩; rw [← hn]; have hX := Below.setCells w4.heap.size (Nat.le_refl _) (QZ).vals.toList 0 _ ((Below.refl w4.heap.size w4).alloc (Nat.le_refl _) (.cells #[.int .i64 0, .int .i64 0, .int .i64 0, .int .i64 0, .int .u64 0, .int .i64 0, .int .i64 0, .int .i64 0, .int .i64 0, .int .i64 0, .int .u64 0, .int .i64 0, .int .i64 0, .int .i64 0, .int .i64 0, .int .i64 0, .int .i64 0, .int .i64 0, .int .u64 0, .int .i64 0, .int .i64 0] 33)); have hz := PBox.stored (QZ) (by simp) hth; rw [← hn] at hX hz; clear hn hth) | fail)
  have hT5 := hT4.below hX
  obtain ⟨hm, hq, hB, hs⟩ := H.out
  have hm := hm.below hX hm.lt
  have H := Kp.mk (And.intro (hq.below hX hq.lt) (And.intro (Below.then hB hB.size hX) (hs.below hX hs.lt)))
  clear hq hB hs hX hz hT4
  go_wp2_with (first | ((with_reducible show wpList _ _ _ ({ dst := _, op := Op.load 33 (Operand.tmp 3), type := _, pos := _, after := _, guard := _ } :: _) _ _); refine wpList_load_ptp _ rfl w.heap.size p hm rfl (by kernel_rfl) ?_) | fail)
  refine (d2 _).mono ?_
  rintro e w6 ⟨rfl, hX⟩
  have hT6 := hT5.below hX
  obtain ⟨hq, hB, hs⟩ := H.out
  have hq := hq.below hX hq.lt
  have H := Kp.mk (And.intro (Below.then hB hB.size hX) (hs.below hX hs.lt))
  clear hB hs hX hm hT5
  go_wp2_with (first | ((with_reducible show wpList _ _ _ ({ dst := _, op := Op.load 33 (Operand.tmp 9), type := _, pos := _, after := _, guard := _ } :: _) _ _); refine wpList_load_ptp _ rfl w1.heap.size PM.zero hq rfl (by kernel_rfl) ?_) | ((with_reducible show wpList _ _ _ ({ dst := _, op := Op.binOp BinOp.eql 33 (Operand.tmp 32) (Operand.tmp 33) _, type := _, pos := _, after := _, guard := _ } :: _) _ _); refine wpList_eq_ptp _ _ rfl PM.zero rfl rfl (by kernel_rfl) ?_) | fail)
  refine (len_nil_any _).mono ?_
  rintro e w7 ⟨rfl, rfl⟩
  clear hq
  obtain ⟨hB, hs⟩ := H.out
  go_wp2_with (first | ((with_reducible show wpList _ _ _ ({ dst := _, op := Op.load 33 (Operand.tmp 11), type := _, pos := _, after := _, guard := _ } :: _) _ _); refine wpList_load_ptp _ rfl w2.heap.size PS hs rfl (by kernel_rfl) ?_) | fail)
  have d4 := hold_any hT6 (by decide) PS (by decide) pwfS 0
  rw [m3, m4] at d4
  simp only [PS, PM.zero, PM.vals] at d4
  refine d4.mono ?_
  rintro e w8 ⟨rfl, hT8, hG8⟩
  have hB8 := hB.grown hG8 hB.size (by simp)
  clear hB hs hG8 d4 hT6 H
  have H := Kp.mk hB8
  clear hB8
  go_wp2_with fail
  have d5 := len_any hT8
  rw [m5] at d5
  refine d5.mono ?_
  rintro e w9 ⟨rfl, rfl⟩
  clear d5 hT8
  by_cases h1 : 1 ≤ limit
  · by_cases h2 : limit ≤ 64
    · as_aux_lemma =>
      have nw := fun w => new_any limit h1 h2 w
      have t1 : decide (1 ≤ limit) = true := by simpa using h1
      have t2 : decide (limit ≤ 64) = true := by simpa using h2
      clear h1 h2
      go_wp2_with fail
      refine (nw _).mono ?_
      rintro e w10 ⟨rfl, _, hX⟩
      have HB := Below.then H.out H.out.size hX
      clear hX H
      go_wp2_with fail
      refine (aw _).mono ?_
      rintro e w11 ⟨rfl, hX⟩
      have HB := Below.then HB HB.size hX
      clear hX
      go_wp2_with fail
      go_ret
      exact ⟨rfl, HB⟩
    · as_aux_lemma =>
      have nw := fun w => new_none limit (fun h => h2 h.2) w
      have t1 : decide (1 ≤ limit) = true := by simpa using h1
      have t2 : decide (limit ≤ 64) = false := by simpa using h2
      clear h1 h2
      go_wp2_with fail
      refine (nw _).mono ?_
      rintro e w10 ⟨rfl, rfl⟩
      go_wp2_with fail
      refine (aw _).mono ?_
      rintro e w11 ⟨rfl, hX⟩
      have HB := Below.then H.out H.out.size hX
      clear hX
      go_wp2_with fail
      go_ret
      exact ⟨rfl, HB⟩
  · as_aux_lemma =>
    have nw := fun w => new_none limit (fun h => h1 h.1) w
    have t1 : decide (1 ≤ limit) = false := by simpa using h1
    clear h1
    go_wp2_with fail
    refine (nw _).mono ?_
    rintro e w10 ⟨rfl, rfl⟩
    go_wp2_with fail
    refine (aw _).mono ?_
    rintro e w11 ⟨rfl, hX⟩
    have HB := Below.then H.out H.out.size hX
    clear hX
    go_wp2_with fail
    go_ret
    exact ⟨rfl, HB⟩
theorem nobody_row (p : PM) (stay limit : Int) (_ : p.Wf) (_ : -9223372036854775808 ≤ stay ∧ stay ≤ 9223372036854775807) (_ : -9223372036854775808 ≤ limit ∧ limit ≤ 9223372036854775807) (w : World) : Calls Try.prog 8 #[.agg p.vals, .int .i64 stay, .int .i64 limit] w fun x w' => x = .returned (.bool true) ∧ Below w.heap.size w w' := nobody_any p stay limit w
end Go.Proofs.Ytfpepiabpadjdaa
