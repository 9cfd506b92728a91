/-
  The law's own examples (awake): they hold, and the call leaves what was there.
-/
import Derived.Test.YtfpepiabpadjdaaResJ
set_option linter.unusedSimpArgs false
set_option linter.unusedVariables false
namespace Go.Proofs.Ytfpepiabpadjdaa
open Go.RowKit Go.Maps
def P1 : PM := { PM.zero with corr := 1 }
def Q1 : PM := { PM.zero with corr := 327681 }
def QZ : PM := PM.zero
def P4 : PM := { PM.zero with flags := 512, seq := 4 }
def P5 : PM := { PM.zero with kind := 8, seq := 4, corr := 5 }
def Q5 : PM := { PM.zero with kind := 8, seq := 4, corr := 655365 }
def DE : DataW Unit := .map []
def D4 : DataW Unit := DE.put (keyL 8 P4) (.lit (.int .i64 10))
theorem pwf0 : PWf PM.zero := ⟨by decide, by decide, by decide, by decide⟩
theorem pwf4 : PWf P4 := ⟨by decide, by decide, by decide, by decide⟩
theorem pwf5 : PWf P5 := ⟨by decide, by decide, by decide, by decide⟩
theorem isKey {k : Int} {p : PM} (hk : (Lit.int .i64 k).wf = true) (h : PWf p) : WideAt.IsKeyLit (keyL k p) := lawK.key (key_of hk h)
theorem n1 : stayF 0 1000100000 100000 = (1000000000, 0) := by kernel_rfl
theorem n2 : addPF P1 2 3 = (Q1, 0) := by kernel_rfl
theorem n3 : addPF PM.zero 1125899906842624 0 = (QZ, 4) := by kernel_rfl
theorem n4 : holdE DE 1 P4 10 = 0 := by kernel_rfl
theorem n4' : holdD DE 1 P4 10 = D4 := by unfold holdD; rw [n4, if_pos rfl]; rfl
theorem n5 : Maps.size D4 = 1 := by unfold D4; rw [size_put (D := DE) ⟨[], rfl, List.Pairwise.nil⟩]; rfl
theorem n6 : Maps.has D4 (keyL 8 P5) = true := has_put_same isMap_empty (isKey (p := P4) (by decide) pwf4) _
theorem n7 : stayAt D4 P5 = 10 := by
  have h : D4.atKey (keyL 8 P5) (.lit (.int .i64 0)) = .lit (.int .i64 10) := atKey_put_same (k := keyL 8 P4) isMap_empty (isKey (p := P4) (by decide) pwf4) _ _
  show litI (D4.atKey (keyL 8 P5) (.lit (.int .i64 0))) = 10
  rw [h]; rfl
theorem okP5 : okP P5 = true := by kernel_rfl
theorem n8 : relF D4 P5 = (Q5, 0) := by
  unfold relF
  rw [okP5, show P5.kind = 8 from rfl, n6, n7]
  kernel_rfl
def DN : DataW Unit := D4.del (keyL 8 P5)
theorem n9 : relD D4 P5 = DN := by unfold relD; rw [n8]; rfl
theorem n10 : Maps.size DN = 0 := by
  unfold DN
  have h := size_del (D := D4) (k := keyL 8 P5) (Tidy.put ⟨[], rfl, List.Pairwise.nil⟩ (isKey (p := P4) (by decide) pwf4) _)
  rw [n6, n5] at h
  simpa using h
set_option maxRecDepth 10000 in
set_option maxHeartbeats 8000000 in
theorem awake_any (w : World) : Calls Try.prog 13 #[] w fun x w' => x = .returned (.bool true) ∧ Below w.heap.size w w' := by
  have c1 := fun w => stay_any 0 1000100000 100000 w
  rw [n1] at c1
  have c2 := fun w => add_any P1 (by decide) (by decide) 2 3 w
  rw [n2] at c2
  have c3 := fun w => add_any PM.zero (by decide) (by decide) 1125899906842624 0 w
  rw [n3] at c3
  simp only [P1, PM.zero, PM.vals] at c2 c3
  have c4 := fun w => new_any 1 (by decide) (by decide) w
  unfold SPost at c1
  go_enter Try.func13, Try.ntmps13
  go_wp2_with fail
  refine (c1 _).mono ?_
  rintro e w1 ⟨rfl, hB1⟩
  go_wp2_with fail
  refine (c2 _).mono ?_
  rintro e w2 ⟨rfl, hb⟩
  have hB2 := Below.then hB1 hB1.size hb
  clear hb hB1
  have hth := there_new w2 #[.int .i64 0, .int .i64 0, .int .i64 0, .int .i64 0, .int .u64 0, .int .i64 0, .int .i64 0, .int .i64 0, .int .i64 0, .int .i64 0, .int .u64 0, .int .i64 0, .int .i64 0, .int .i64 0, .int .i64 0, .int .i64 0, .int .i64 0, .int .i64 0, .int .u64 0, .int .i64 0, .int .i64 0] 33
  go_wp2_with (first | ((with_reducible show wpList _ _ _ ({ dst := _, op := Op.store _ _ _, type := _, pos := _, after := _, guard := _ } :: _) _ _); refine wpList_store_mid rfl 33 _ _ rfl w2.heap.size 0 _ rfl rfl hth (by kernel_rfl) (by kernel_rfl) ?_; obtain ⟨w3, hn⟩ : ∃ W, W = (w2.alloc (.cells #[.int .i64 0, .int .i64 0, .int .i64 0, .int .i64 0, .int .u64 0, .int .i64 0, .int .i64 0, .int .i64 0, .int .i64 0, .int .i64 0, .int .u64 0, .int .i64 0, .int .i64 0, .int .i64 0, .int .i64 0, .int .i64 0, .int .i64 0, .int .i64 0, .int .u64 0, .int .i64 0, .int .i64 0] 33)).setCells w2.heap.size 0 (Q1).vals.toList := ⟨_, rfl⟩; rw [← hn]; have hX := Below.setCells w2.heap.size (Nat.le_refl _) (Q1).vals.toList 0 _ ((Below.refl w2.heap.size w2).alloc (Nat.le_refl _) (.cells #[.int .i64 0, .int .i64 0, .int .i64 0, .int .i64 0, .int .u64 0, .int .i64 0, .int .i64 0, .int .i64 0, .int .i64 0, .int .i64 0, .int .u64 0, .int .i64 0, .int .i64 0, .int .i64 0, .int .i64 0, .int .i64 0, .int .i64 0, .int .i64 0, .int .u64 0, .int .i64 0, .int .i64 0] 33)); have hq := PBox.stored (Q1) (by simp) hth; rw [← hn] at hX hq; clear hn hth) | fail)
  have hB3 := Below.then hB2 hB2.size hX
  have hs3 : w2.heap.size < w3.heap.size := hq.lt
  have hs2 : w.heap.size ≤ w2.heap.size := hB2.size
  clear hX hB2
  have HQ := Kp.mk hq
  have HB := Kp.mk hB3
  clear hB3 hq
  refine (c3 _).mono ?_
  rintro e w4 ⟨rfl, hb⟩
  have hq4 := HQ.out.below hb hs3
  have hB4 := Below.then HB.out HB.out.size hb
  clear hb HQ HB
  have HQ := Kp.mk hq4
  have HB := Kp.mk hB4
  clear hq4 hB4
  have hth := there_new w4 #[.int .i64 0, .int .i64 0, .int .i64 0, .int .i64 0, .int .u64 0, .int .i64 0, .int .i64 0, .int .i64 0, .int .i64 0, .int .i64 0, .int .u64 0, .int .i64 0, .int .i64 0, .int .i64 0, .int .i64 0, .int .i64 0, .int .i64 0, .int .i64 0, .int .u64 0, .int .i64 0, .int .i64 0] 33
  go_wp2_with (first | ((with_reducible show wpList _ _ _ ({ dst := _, op := Op.store _ _ _, type := _, pos := _, after := _, guard := _ } :: _) _ _); refine wpList_store_mid rfl 33 _ _ rfl w4.heap.size 0 _ rfl rfl hth (by kernel_rfl) (by kernel_rfl) ?_; obtain ⟨w5, hn⟩ : ∃ W, W = (w4.alloc (.cells #[.int .i64 0, .int .i64 0, .int .i64 0, .int .i64 0, .int .u64 0, .int .i64 0, .int .i64 0, .int .i64 0, .int .i64 0, .int .i64 0, .int .u64 0, .int .i64 0, .int .i64 0, .int .i64 0, .int .i64 0, .int .i64 0, .int .i64 0, .int .i64 0, .int .u64 0, .int .i64 0, .int .i64 0] 33)).setCells w4.heap.size 0 (QZ).vals.toList := ⟨_, rfl⟩; rw [← hn]; have hX := Below.setCells w4.heap.size (Nat.le_refl _) (QZ).vals.toList 0 _ ((Below.refl w4.heap.size w4).alloc (Nat.le_refl _) (.cells #[.int .i64 0, .int .i64 0, .int .i64 0, .int .i64 0, .int .u64 0, .int .i64 0, .int .i64 0, .int .i64 0, .int .i64 0, .int .i64 0, .int .u64 0, .int .i64 0, .int .i64 0, .int .i64 0, .int .i64 0, .int .i64 0, .int .i64 0, .int .i64 0, .int .u64 0, .int .i64 0, .int .i64 0] 33)); have hqz := PBox.stored (QZ) (by simp) hth; rw [← hn] at hX hqz; clear hn hth) | fail)
  have hq5 := HQ.out.below hX HQ.out.lt
  have hB5 := Below.then HB.out HB.out.size hX
  clear hX hqz HQ HB
  have HQ := Kp.mk hq5
  have HB := Kp.mk hB5
  clear hq5 hB5
  refine (c4 _).mono ?_
  rintro e w6 ⟨rfl, hT6, hb⟩
  have hq6 := HQ.out.below hb HQ.out.lt
  have hB6 := Below.then HB.out HB.out.size hb
  have hle : w.heap.size ≤ w5.heap.size := HB.out.size
  have hlt5 : w2.heap.size < w5.heap.size := HQ.out.lt
  clear hb HQ HB
  have c5 := hold_any hT6 (by simp) P4 (by decide) pwf4 10
  have n4 := n4
  have n4' := n4'
  unfold DE at n4 n4'
  rw [n4, n4'] at c5
  simp only [P4, PM.zero, PM.vals] at c5
  have HQ := Kp.mk hq6
  have HB := Kp.mk hB6
  clear hq6 hB6 hT6
  go_wp2_with fail
  refine c5.mono ?_
  rintro e w7 ⟨rfl, hT7, hG7⟩
  have hq7 := HQ.out.grown hG7 (by intro e; simp at e; omega)
  have hB7 := HB.out.grown hG7 HB.out.size (fun k hk => by cases hk; exact hle)
  clear hG7 HQ HB c5
  have HQ := Kp.mk hq7
  have HB := Kp.mk hB7
  clear hq7 hB7
  have c6 := len_any hT7
  rw [n5] at c6
  go_wp2_with fail
  refine c6.mono ?_
  rintro e w8 ⟨rfl, rfl⟩
  have c7 := release_any hT7 P5 (by decide) pwf5 (by decide) (fun _ => by rw [n7]; decide)
  rw [n8, n9] at c7
  simp only [P5, PM.zero, PM.vals] at c7
  clear hT7 c6
  go_wp2_with fail
  refine c7.mono ?_
  rintro e w9 ⟨rfl, hT9, hG9⟩
  have hq9 := HQ.out.grown hG9 (by intro e; simp at e; omega)
  have hB9 := HB.out.grown hG9 HB.out.size (fun k hk => by cases hk; exact hle)
  clear hG9 HQ HB c7
  have HQ := Kp.mk hq9
  have HB := Kp.mk hB9
  have HT := Kp.mk hT9
  clear hq9 hB9 hT9
  have hth := there_new w9 #[.int .i64 0, .int .i64 0, .int .i64 0, .int .i64 0, .int .u64 0, .int .i64 0, .int .i64 0, .int .i64 0, .int .i64 0, .int .i64 0, .int .u64 0, .int .i64 0, .int .i64 0, .int .i64 0, .int .i64 0, .int .i64 0, .int .i64 0, .int .i64 0, .int .u64 0, .int .i64 0, .int .i64 0] 33
  go_upto_region 10 with (first | ((with_reducible show wpList _ _ _ ({ dst := _, op := Op.store _ _ _, type := _, pos := _, after := _, guard := _ } :: _) _ _); refine wpList_store_mid rfl 33 _ _ rfl w9.heap.size 0 _ rfl rfl hth (by kernel_rfl) (by kernel_rfl) ?_; obtain ⟨w10, hn⟩ : ∃ W, W = (w9.alloc (.cells #[.int .i64 0, .int .i64 0, .int .i64 0, .int .i64 0, .int .u64 0, .int .i64 0, .int .i64 0, .int .i64 0, .int .i64 0, .int .i64 0, .int .u64 0, .int .i64 0, .int .i64 0, .int .i64 0, .int .i64 0, .int .i64 0, .int .i64 0, .int .i64 0, .int .u64 0, .int .i64 0, .int .i64 0] 33)).setCells w9.heap.size 0 (Q5).vals.toList := ⟨_, rfl⟩; rw [← hn]; have hX := Below.setCells w9.heap.size (Nat.le_refl _) (Q5).vals.toList 0 _ ((Below.refl w9.heap.size w9).alloc (Nat.le_refl _) (.cells #[.int .i64 0, .int .i64 0, .int .i64 0, .int .i64 0, .int .u64 0, .int .i64 0, .int .i64 0, .int .i64 0, .int .i64 0, .int .i64 0, .int .u64 0, .int .i64 0, .int .i64 0, .int .i64 0, .int .i64 0, .int .i64 0, .int .i64 0, .int .i64 0, .int .u64 0, .int .i64 0, .int .i64 0] 33)); have hqr := PBox.stored (Q5) (by simp) hth; rw [← hn] at hX hqr; clear hn hth) | fail)
  have hq10 := HQ.out.below hX HQ.out.lt
  have hB10 := Below.then HB.out HB.out.size hX
  have hT10 := HT.out.below hX
  clear hX HQ HB HT
  have c8 := len_any hT10
  rw [n10] at c8
  have i1 : w10.cell? ⟨w2.heap.size, 3, none⟩ = some (.int .i64 327681) := hq10.c3
  have i2 : w10.cell? ⟨w9.heap.size, 3, none⟩ = some (.int .i64 655365) := hqr.c3
  have HB := Kp.mk hB10
  clear hq10 hqr hB10 hT10 c1 c2 c3 c4
  go_wp2_with (first | (refine c8.mono ?_; rintro e w11 ⟨rfl, rfl⟩) | fail)
  go_ret
  exact ⟨rfl, HB.out⟩
end Go.Proofs.Ytfpepiabpadjdaa
