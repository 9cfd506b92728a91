/-
  The walk of SysclockStates: whatever the state, it returns true, and what was there is as it was.
-/
import Derived.Test.YtnfkffaogidleaaNobody10
import Derived.Deep.RegionHeld3
set_option linter.unusedSimpArgs false
set_option linter.unusedVariables false
namespace Go.Proofs.Ytnfkffaogidleaa
open Go.RowKit
def SomePost (w : World) (x : Ending) (w' : World) : Prop := (∃ a, x = .returned (.pointer (some a))) ∧ Below w.heap.size w w'
theorem below_alloc3 (w : World) (o o' o'' : Obj) : Below w.heap.size w (((w.alloc o).alloc o').alloc o'') := (below_alloc2 w o o').alloc (by simp; omega) o''
set_option maxHeartbeats 2000000 in
theorem rof_good (s : CS) (ok : s.Ok) (w : World) : Calls Try.prog 11 #[.agg s.vals] w (SomePost w) := by
  obtain ⟨sraw, stime, sppb, sleft, srate, ssteps⟩ := s
  obtain ⟨raw1, raw2, time1, time2, left1, left2, ppb1, ppb2, rate1, rate2, slews, steps1, steps2⟩ := ok
  unfold CS.vals
  simp only at *
  by_cases hl : sleft = 0
  · subst hl
    clear slews
    go_enter Try.func11, Try.ntmps11
    go_wp2
    exact bodyPost_ret (v := .pointer (some ⟨w.heap.size + 1 + 1, 0, none⟩)) (by simp [results, Try.results11, go_sem]) rfl ⟨⟨_, rfl⟩, below_alloc3 _ _ _ _⟩
  · have hr := slews hl
    clear slews
    go_enter Try.func11, Try.ntmps11
    go_wp2
    exact bodyPost_ret (v := .pointer (some ⟨w.heap.size + 1 + 1, 0, none⟩)) (by simp [results, Try.results11, go_sem]) rfl ⟨⟨_, rfl⟩, below_alloc3 _ _ _ _⟩
set_option maxHeartbeats 2000000 in
theorem rof_bad (s : CS) (ok : ¬ s.Ok) (h2 : s.steps ≤ 9223372036854775807) (w : World) : Calls Try.prog 11 #[.agg s.vals] w (NilPost w) := by
  have KO : Kp (¬ s.Ok) := ⟨ok⟩
  have K2 := Kp.mk h2
  clear ok h2
  obtain ⟨sraw, stime, sppb, sleft, srate, ssteps⟩ := s
  unfold CS.vals
  simp only at *
  go_enter Try.func11, Try.ntmps11
  go_wp2
  all_goals first
    | exact bodyPost_ret (v := .pointer none) (by simp [results, Try.results11, go_sem]) rfl ⟨rfl, below_alloc2 _ _ _⟩
    | (exfalso
       have hs : 0 ≤ ssteps := by
         have hx : (!decide (0 ≤ ssteps)) = false := by assumption
         simpa using hx
       refine KO.out ⟨by assumption, by assumption, by assumption, by assumption, by assumption, by assumption, by assumption, by assumption, by assumption, by assumption, fun h => ?_, by assumption, K2.out⟩
       first | assumption | exact absurd (by assumption) h)
set_option maxHeartbeats 1000000 in
theorem rnew_good (raw time : Int) (ok : (CS.mk raw time 0 0 0 0).Ok) (w : World) : Calls Try.prog 14 #[.int .i64 raw, .int .i64 time] w (SomePost w) := by
  have og := fun w => rof_good _ ok w
  unfold CS.vals at og
  simp only at og
  clear ok
  go_enter Try.func14, Try.ntmps14
  go_wp2_with fail
  refine (og _).mono ?_
  rintro e w' ⟨⟨a, rfl⟩, hbl⟩
  go_wp2_with fail
  go_ret
  exact ⟨⟨a, rfl⟩, hbl⟩
set_option maxHeartbeats 1000000 in
theorem rnew_bad (raw time : Int) (ok : ¬ (CS.mk raw time 0 0 0 0).Ok) (w : World) : Calls Try.prog 14 #[.int .i64 raw, .int .i64 time] w (NilPost w) := by
  have og := fun w => rof_bad _ ok (by simp) w
  unfold CS.vals at og
  simp only at og
  clear ok
  go_enter Try.func14, Try.ntmps14
  go_wp2_with fail
  refine (og _).mono ?_
  rintro e w' ⟨rfl, hbl⟩
  go_wp2_with fail
  go_ret
  exact ⟨rfl, hbl⟩
theorem held6 {w W w1 : World} {v0 v1 v2 v3 v4 v5 : Value} (h : w.heap.size < W.heap.size ∧ W.cell? ⟨w.heap.size, 0, none⟩ = some v0 ∧ W.cell? ⟨w.heap.size, 1, none⟩ = some v1 ∧ W.cell? ⟨w.heap.size, 2, none⟩ = some v2 ∧ W.cell? ⟨w.heap.size, 3, none⟩ = some v3 ∧ W.cell? ⟨w.heap.size, 4, none⟩ = some v4 ∧ W.cell? ⟨w.heap.size, 5, none⟩ = some v5)
    (hb : Below W.heap.size W w1) : w.heap.size < w1.heap.size ∧ w1.cell? ⟨w.heap.size, 0, none⟩ = some v0 ∧ w1.cell? ⟨w.heap.size, 1, none⟩ = some v1 ∧ w1.cell? ⟨w.heap.size, 2, none⟩ = some v2 ∧ w1.cell? ⟨w.heap.size, 3, none⟩ = some v3 ∧ w1.cell? ⟨w.heap.size, 4, none⟩ = some v4 ∧ w1.cell? ⟨w.heap.size, 5, none⟩ = some v5 := by
  obtain ⟨hs, c0, c1, c2, c3, c4, c5⟩ := h
  exact ⟨Nat.lt_of_lt_of_le hs hb.size, (hb.cell hs).trans c0, (hb.cell hs).trans c1, (hb.cell hs).trans c2, (hb.cell hs).trans c3, (hb.cell hs).trans c4, (hb.cell hs).trans c5⟩
/-LAW-/
theorem chain3 {w X A B : World} (h : Below w.heap.size w X) (h1 : Below X.drew.heap.size X.drew A) (h2 : Below A.heap.size A B) : Below w.heap.size w B :=
  Below.then (Below.then (h.drew) (Nat.le_trans h.size (Nat.le_refl _)) h1) (Nat.le_trans h.size (Nat.le_trans (Nat.le_refl _) h1.size)) h2
theorem chain2 {w X A : World} (h : Below w.heap.size w X) (h1 : Below X.drew.heap.size X.drew A) : Below w.heap.size w A :=
  Below.then (h.drew) (Nat.le_trans h.size (Nat.le_refl _)) h1
set_option maxHeartbeats 8000000 in
theorem states_gg (raw time ppb left rate steps : Int) (ok : (CS.mk raw time ppb left rate steps).Ok) (ok2 : (CS.mk raw time 0 0 0 0).Ok) (hst2 : steps ≤ 9223372036854775807) (w : World) : Calls Try.prog 3 #[.agg #[.int .i64 raw, .int .i64 time, .int .i64 ppb, .int .i64 left, .int .i64 rate, .int .i64 steps]] w fun x w' => x = .returned (.bool true) ∧ Below w.heap.size w w' := by
  have o1 := fun w => of_good _ ok w
  have o2 := fun w => rof_good _ ok w
  have n1 := fun w => new_good raw time ok2 w
  have n2 := fun w => rnew_good raw time ok2 w
  unfold CS.vals at o1 o2
  simp only at o1 o2
  clear ok ok2 hst2
  go_enter Try.func3, Try.ntmps3
  go_wp2_with fail
  obtain ⟨wX, hX⟩ : ∃ W, W = w.alloc (.cells #[.int .i64 raw, .int .i64 time, .int .i64 ppb, .int .i64 left, .int .i64 rate, .int .i64 steps] 23) := ⟨_, rfl⟩
  rw [← hX]
  obtain ⟨⟨c0, c1, c2⟩, c3, c4, c5⟩ := loc6 (w := w) (W := wX) (by rw [hX]; exact Below.refl _ _)
  have hs : w.heap.size < wX.heap.size := by rw [hX]; simp
  have HB : Kp (Below w.heap.size w wX) := ⟨by rw [hX]; exact (Below.refl _ _).alloc (Nat.le_refl _) _⟩
  clear hX
  go_region_held3 (fun w' => w.heap.size < w'.heap.size ∧ w'.cell? ⟨w.heap.size, 0, none⟩ = some (.int .i64 raw) ∧ w'.cell? ⟨w.heap.size, 1, none⟩ = some (.int .i64 time) ∧ w'.cell? ⟨w.heap.size, 2, none⟩ = some (.int .i64 ppb) ∧ w'.cell? ⟨w.heap.size, 3, none⟩ = some (.int .i64 left) ∧ w'.cell? ⟨w.heap.size, 4, none⟩ = some (.int .i64 rate) ∧ w'.cell? ⟨w.heap.size, 5, none⟩ = some (.int .i64 steps)) (first | exact held6 (by assumption) hbl2 | exact held6 (by assumption) hbl1 | go_keep)
    (first | (go_at_call 10; refine (o1 _).mono ?_; rintro e wA1 ⟨b1, rfl, hb, hk, hbl1⟩) | (go_at_call 11; refine (o2 _).mono ?_; rintro e wB1 ⟨⟨a1, rfl⟩, hbl2⟩))
  have hS := held6 (w := w) ⟨hs, c0, c1, c2, c3, c4, c5⟩ (chain3 (Below.refl _ wX) hbl1 hbl2)
  have HBn : Kp (Below w.heap.size w wB1) := ⟨chain3 HB.out hbl1 hbl2⟩
  have hk2 := hk.below hbl2 hk.lt
  have hst := state_any _ _ _ (hk2.below (Below.refl wB1.heap.size wB1).drew hk2.lt)
  unfold StatePost CS.vals at hst
  simp only at hst
  clear hk hk2
  clear c0 c1 c2 c3 c4 c5 hs HB hbl1 hbl2 hb
  obtain ⟨hs, c0, c1, c2, c3, c4, c5⟩ := hS
  have HB := HBn
  clear HBn
  go_wp2_with fail
  go_region_held3 (fun w' => w.heap.size < w'.heap.size ∧ w'.cell? ⟨w.heap.size, 0, none⟩ = some (.int .i64 raw) ∧ w'.cell? ⟨w.heap.size, 1, none⟩ = some (.int .i64 time) ∧ w'.cell? ⟨w.heap.size, 2, none⟩ = some (.int .i64 ppb) ∧ w'.cell? ⟨w.heap.size, 3, none⟩ = some (.int .i64 left) ∧ w'.cell? ⟨w.heap.size, 4, none⟩ = some (.int .i64 rate) ∧ w'.cell? ⟨w.heap.size, 5, none⟩ = some (.int .i64 steps)) (first | exact held6 (by assumption) hbl | go_keep)
    (first | (go_at_call 12; refine hst.mono ?_; rintro e wC1 ⟨rfl, hbl⟩))
  have hS := held6 (w := w) ⟨hs, c0, c1, c2, c3, c4, c5⟩ (chain2 (Below.refl _ wB1) hbl)
  have HBn : Kp (Below w.heap.size w wC1) := ⟨chain2 HB.out hbl⟩
  clear c0 c1 c2 c3 c4 c5 hs HB hbl hst
  obtain ⟨hs, c0, c1, c2, c3, c4, c5⟩ := hS
  have HB := HBn
  clear HBn
  go_wp2_with fail
  go_region_held3 (fun w' => w.heap.size < w'.heap.size ∧ w'.cell? ⟨w.heap.size, 0, none⟩ = some (.int .i64 raw) ∧ w'.cell? ⟨w.heap.size, 1, none⟩ = some (.int .i64 time) ∧ w'.cell? ⟨w.heap.size, 2, none⟩ = some (.int .i64 ppb) ∧ w'.cell? ⟨w.heap.size, 3, none⟩ = some (.int .i64 left) ∧ w'.cell? ⟨w.heap.size, 4, none⟩ = some (.int .i64 rate) ∧ w'.cell? ⟨w.heap.size, 5, none⟩ = some (.int .i64 steps)) (first | exact held6 (by assumption) hbl2 | exact held6 (by assumption) hbl1 | go_keep)
    (first | (go_at_call 13; refine (n1 _).mono ?_; rintro e wA2 ⟨b2, rfl, hb, hk, hbl1⟩) | (go_at_call 14; refine (n2 _).mono ?_; rintro e wB2 ⟨⟨a2, rfl⟩, hbl2⟩))
  have hS := held6 (w := w) ⟨hs, c0, c1, c2, c3, c4, c5⟩ (chain3 (Below.refl _ wC1) hbl1 hbl2)
  have HBn : Kp (Below w.heap.size w wB2) := ⟨chain3 HB.out hbl1 hbl2⟩
  have hk2 := hk.below hbl2 hk.lt
  have hst := state_any _ _ _ (hk2.below (Below.refl wB2.heap.size wB2).drew hk2.lt)
  unfold StatePost CS.vals at hst
  simp only at hst
  clear hk hk2
  clear c0 c1 c2 c3 c4 c5 hs HB hbl1 hbl2 hb
  obtain ⟨hs, c0, c1, c2, c3, c4, c5⟩ := hS
  have HB := HBn
  clear HBn
  go_wp2_with fail
  go_region_held3 (fun w' => w.heap.size < w'.heap.size ∧ w'.cell? ⟨w.heap.size, 0, none⟩ = some (.int .i64 raw) ∧ w'.cell? ⟨w.heap.size, 1, none⟩ = some (.int .i64 time) ∧ w'.cell? ⟨w.heap.size, 2, none⟩ = some (.int .i64 ppb) ∧ w'.cell? ⟨w.heap.size, 3, none⟩ = some (.int .i64 left) ∧ w'.cell? ⟨w.heap.size, 4, none⟩ = some (.int .i64 rate) ∧ w'.cell? ⟨w.heap.size, 5, none⟩ = some (.int .i64 steps)) (first | exact held6 (by assumption) hbl | go_keep)
    (first | (go_at_call 12; refine hst.mono ?_; rintro e wC2 ⟨rfl, hbl⟩))
  have hS := held6 (w := w) ⟨hs, c0, c1, c2, c3, c4, c5⟩ (chain2 (Below.refl _ wB2) hbl)
  have HBn : Kp (Below w.heap.size w wC2) := ⟨chain2 HB.out hbl⟩
  clear c0 c1 c2 c3 c4 c5 hs HB hbl hst
  obtain ⟨hs, c0, c1, c2, c3, c4, c5⟩ := hS
  have HB := HBn
  clear HBn
  go_wp2_with fail
  refine (awake_any _).mono ?_
  rintro e wE ⟨rfl, hbl⟩
  have HE : Kp (Below w.heap.size w wE) := ⟨Below.then HB.out HB.out.size hbl⟩
  clear hbl c0 c1 c2 c3 c4 c5
  go_wp2_with fail
  go_ret
  exact ⟨by simp, HE.out⟩
set_option maxHeartbeats 8000000 in
theorem states_bg (raw time ppb left rate steps : Int) (ok : ¬ (CS.mk raw time ppb left rate steps).Ok) (ok2 : (CS.mk raw time 0 0 0 0).Ok) (hst2 : steps ≤ 9223372036854775807) (w : World) : Calls Try.prog 3 #[.agg #[.int .i64 raw, .int .i64 time, .int .i64 ppb, .int .i64 left, .int .i64 rate, .int .i64 steps]] w fun x w' => x = .returned (.bool true) ∧ Below w.heap.size w w' := by
  have o1 := fun w => of_bad _ ok hst2 w
  have o2 := fun w => rof_bad _ ok hst2 w
  have n1 := fun w => new_good raw time ok2 w
  have n2 := fun w => rnew_good raw time ok2 w
  unfold CS.vals at o1 o2
  simp only at o1 o2
  clear ok ok2 hst2
  go_enter Try.func3, Try.ntmps3
  go_wp2_with fail
  obtain ⟨wX, hX⟩ : ∃ W, W = w.alloc (.cells #[.int .i64 raw, .int .i64 time, .int .i64 ppb, .int .i64 left, .int .i64 rate, .int .i64 steps] 23) := ⟨_, rfl⟩
  rw [← hX]
  obtain ⟨⟨c0, c1, c2⟩, c3, c4, c5⟩ := loc6 (w := w) (W := wX) (by rw [hX]; exact Below.refl _ _)
  have hs : w.heap.size < wX.heap.size := by rw [hX]; simp
  have HB : Kp (Below w.heap.size w wX) := ⟨by rw [hX]; exact (Below.refl _ _).alloc (Nat.le_refl _) _⟩
  clear hX
  go_region_held3 (fun w' => w.heap.size < w'.heap.size ∧ w'.cell? ⟨w.heap.size, 0, none⟩ = some (.int .i64 raw) ∧ w'.cell? ⟨w.heap.size, 1, none⟩ = some (.int .i64 time) ∧ w'.cell? ⟨w.heap.size, 2, none⟩ = some (.int .i64 ppb) ∧ w'.cell? ⟨w.heap.size, 3, none⟩ = some (.int .i64 left) ∧ w'.cell? ⟨w.heap.size, 4, none⟩ = some (.int .i64 rate) ∧ w'.cell? ⟨w.heap.size, 5, none⟩ = some (.int .i64 steps)) (first | exact held6 (by assumption) hbl2 | exact held6 (by assumption) hbl1 | go_keep)
    (first | (go_at_call 10; refine (o1 _).mono ?_; rintro e wA1 ⟨rfl, hbl1⟩) | (go_at_call 11; refine (o2 _).mono ?_; rintro e wB1 ⟨rfl, hbl2⟩))
  have hS := held6 (w := w) ⟨hs, c0, c1, c2, c3, c4, c5⟩ (chain3 (Below.refl _ wX) hbl1 hbl2)
  have HBn : Kp (Below w.heap.size w wB1) := ⟨chain3 HB.out hbl1 hbl2⟩
  clear c0 c1 c2 c3 c4 c5 hs HB hbl1 hbl2
  obtain ⟨hs, c0, c1, c2, c3, c4, c5⟩ := hS
  have HB := HBn
  clear HBn
  go_wp2_with fail
  go_quiet (fail)
  obtain ⟨wC1, hC⟩ : ∃ W, W = wB1.drewN nq := ⟨_, rfl⟩
  have hbl : Below wB1.heap.size wB1 wC1 := by rw [hC]; exact Below.of_drewN _ _
  rw [← hC]
  clear hC
  have hS := held6 (w := w) ⟨hs, c0, c1, c2, c3, c4, c5⟩ hbl
  have HBn : Kp (Below w.heap.size w wC1) := ⟨Below.then HB.out HB.out.size hbl⟩
  clear c0 c1 c2 c3 c4 c5 hs HB hbl
  obtain ⟨hs, c0, c1, c2, c3, c4, c5⟩ := hS
  have HB := HBn
  clear HBn
  go_wp2_with fail
  go_region_held3 (fun w' => w.heap.size < w'.heap.size ∧ w'.cell? ⟨w.heap.size, 0, none⟩ = some (.int .i64 raw) ∧ w'.cell? ⟨w.heap.size, 1, none⟩ = some (.int .i64 time) ∧ w'.cell? ⟨w.heap.size, 2, none⟩ = some (.int .i64 ppb) ∧ w'.cell? ⟨w.heap.size, 3, none⟩ = some (.int .i64 left) ∧ w'.cell? ⟨w.heap.size, 4, none⟩ = some (.int .i64 rate) ∧ w'.cell? ⟨w.heap.size, 5, none⟩ = some (.int .i64 steps)) (first | exact held6 (by assumption) hbl2 | exact held6 (by assumption) hbl1 | go_keep)
    (first | (go_at_call 13; refine (n1 _).mono ?_; rintro e wA2 ⟨b2, rfl, hb, hk, hbl1⟩) | (go_at_call 14; refine (n2 _).mono ?_; rintro e wB2 ⟨⟨a2, rfl⟩, hbl2⟩))
  have hS := held6 (w := w) ⟨hs, c0, c1, c2, c3, c4, c5⟩ (chain3 (Below.refl _ wC1) hbl1 hbl2)
  have HBn : Kp (Below w.heap.size w wB2) := ⟨chain3 HB.out hbl1 hbl2⟩
  have hk2 := hk.below hbl2 hk.lt
  have hst := state_any _ _ _ (hk2.below (Below.refl wB2.heap.size wB2).drew hk2.lt)
  unfold StatePost CS.vals at hst
  simp only at hst
  clear hk hk2
  clear c0 c1 c2 c3 c4 c5 hs HB hbl1 hbl2 hb
  obtain ⟨hs, c0, c1, c2, c3, c4, c5⟩ := hS
  have HB := HBn
  clear HBn
  go_wp2_with fail
  go_region_held3 (fun w' => w.heap.size < w'.heap.size ∧ w'.cell? ⟨w.heap.size, 0, none⟩ = some (.int .i64 raw) ∧ w'.cell? ⟨w.heap.size, 1, none⟩ = some (.int .i64 time) ∧ w'.cell? ⟨w.heap.size, 2, none⟩ = some (.int .i64 ppb) ∧ w'.cell? ⟨w.heap.size, 3, none⟩ = some (.int .i64 left) ∧ w'.cell? ⟨w.heap.size, 4, none⟩ = some (.int .i64 rate) ∧ w'.cell? ⟨w.heap.size, 5, none⟩ = some (.int .i64 steps)) (first | exact held6 (by assumption) hbl | go_keep)
    (first | (go_at_call 12; refine hst.mono ?_; rintro e wC2 ⟨rfl, hbl⟩))
  have hS := held6 (w := w) ⟨hs, c0, c1, c2, c3, c4, c5⟩ (chain2 (Below.refl _ wB2) hbl)
  have HBn : Kp (Below w.heap.size w wC2) := ⟨chain2 HB.out hbl⟩
  clear c0 c1 c2 c3 c4 c5 hs HB hbl hst
  obtain ⟨hs, c0, c1, c2, c3, c4, c5⟩ := hS
  have HB := HBn
  clear HBn
  go_wp2_with fail
  refine (awake_any _).mono ?_
  rintro e wE ⟨rfl, hbl⟩
  have HE : Kp (Below w.heap.size w wE) := ⟨Below.then HB.out HB.out.size hbl⟩
  clear hbl c0 c1 c2 c3 c4 c5
  go_wp2_with fail
  go_ret
  exact ⟨by simp, HE.out⟩
set_option maxHeartbeats 8000000 in
theorem states_bb (raw time ppb left rate steps : Int) (ok : ¬ (CS.mk raw time ppb left rate steps).Ok) (ok2 : ¬ (CS.mk raw time 0 0 0 0).Ok) (hst2 : steps ≤ 9223372036854775807) (w : World) : Calls Try.prog 3 #[.agg #[.int .i64 raw, .int .i64 time, .int .i64 ppb, .int .i64 left, .int .i64 rate, .int .i64 steps]] w fun x w' => x = .returned (.bool true) ∧ Below w.heap.size w w' := by
  have o1 := fun w => of_bad _ ok hst2 w
  have o2 := fun w => rof_bad _ ok hst2 w
  have n1 := fun w => new_bad raw time ok2 w
  have n2 := fun w => rnew_bad raw time ok2 w
  unfold CS.vals at o1 o2
  simp only at o1 o2
  clear ok ok2 hst2
  go_enter Try.func3, Try.ntmps3
  go_wp2_with fail
  obtain ⟨wX, hX⟩ : ∃ W, W = w.alloc (.cells #[.int .i64 raw, .int .i64 time, .int .i64 ppb, .int .i64 left, .int .i64 rate, .int .i64 steps] 23) := ⟨_, rfl⟩
  rw [← hX]
  obtain ⟨⟨c0, c1, c2⟩, c3, c4, c5⟩ := loc6 (w := w) (W := wX) (by rw [hX]; exact Below.refl _ _)
  have hs : w.heap.size < wX.heap.size := by rw [hX]; simp
  have HB : Kp (Below w.heap.size w wX) := ⟨by rw [hX]; exact (Below.refl _ _).alloc (Nat.le_refl _) _⟩
  clear hX
  go_region_held3 (fun w' => w.heap.size < w'.heap.size ∧ w'.cell? ⟨w.heap.size, 0, none⟩ = some (.int .i64 raw) ∧ w'.cell? ⟨w.heap.size, 1, none⟩ = some (.int .i64 time) ∧ w'.cell? ⟨w.heap.size, 2, none⟩ = some (.int .i64 ppb) ∧ w'.cell? ⟨w.heap.size, 3, none⟩ = some (.int .i64 left) ∧ w'.cell? ⟨w.heap.size, 4, none⟩ = some (.int .i64 rate) ∧ w'.cell? ⟨w.heap.size, 5, none⟩ = some (.int .i64 steps)) (first | exact held6 (by assumption) hbl2 | exact held6 (by assumption) hbl1 | go_keep)
    (first | (go_at_call 10; refine (o1 _).mono ?_; rintro e wA1 ⟨rfl, hbl1⟩) | (go_at_call 11; refine (o2 _).mono ?_; rintro e wB1 ⟨rfl, hbl2⟩))
  have hS := held6 (w := w) ⟨hs, c0, c1, c2, c3, c4, c5⟩ (chain3 (Below.refl _ wX) hbl1 hbl2)
  have HBn : Kp (Below w.heap.size w wB1) := ⟨chain3 HB.out hbl1 hbl2⟩
  clear c0 c1 c2 c3 c4 c5 hs HB hbl1 hbl2
  obtain ⟨hs, c0, c1, c2, c3, c4, c5⟩ := hS
  have HB := HBn
  clear HBn
  go_wp2_with fail
  go_quiet (fail)
  obtain ⟨wC1, hC⟩ : ∃ W, W = wB1.drewN nq := ⟨_, rfl⟩
  have hbl : Below wB1.heap.size wB1 wC1 := by rw [hC]; exact Below.of_drewN _ _
  rw [← hC]
  clear hC
  have hS := held6 (w := w) ⟨hs, c0, c1, c2, c3, c4, c5⟩ hbl
  have HBn : Kp (Below w.heap.size w wC1) := ⟨Below.then HB.out HB.out.size hbl⟩
  clear c0 c1 c2 c3 c4 c5 hs HB hbl
  obtain ⟨hs, c0, c1, c2, c3, c4, c5⟩ := hS
  have HB := HBn
  clear HBn
  go_wp2_with fail
  go_region_held3 (fun w' => w.heap.size < w'.heap.size ∧ w'.cell? ⟨w.heap.size, 0, none⟩ = some (.int .i64 raw) ∧ w'.cell? ⟨w.heap.size, 1, none⟩ = some (.int .i64 time) ∧ w'.cell? ⟨w.heap.size, 2, none⟩ = some (.int .i64 ppb) ∧ w'.cell? ⟨w.heap.size, 3, none⟩ = some (.int .i64 left) ∧ w'.cell? ⟨w.heap.size, 4, none⟩ = some (.int .i64 rate) ∧ w'.cell? ⟨w.heap.size, 5, none⟩ = some (.int .i64 steps)) (first | exact held6 (by assumption) hbl2 | exact held6 (by assumption) hbl1 | go_keep)
    (first | (go_at_call 13; refine (n1 _).mono ?_; rintro e wA2 ⟨rfl, hbl1⟩) | (go_at_call 14; refine (n2 _).mono ?_; rintro e wB2 ⟨rfl, hbl2⟩))
  have hS := held6 (w := w) ⟨hs, c0, c1, c2, c3, c4, c5⟩ (chain3 (Below.refl _ wC1) hbl1 hbl2)
  have HBn : Kp (Below w.heap.size w wB2) := ⟨chain3 HB.out hbl1 hbl2⟩
  clear c0 c1 c2 c3 c4 c5 hs HB hbl1 hbl2
  obtain ⟨hs, c0, c1, c2, c3, c4, c5⟩ := hS
  have HB := HBn
  clear HBn
  go_wp2_with fail
  go_quiet (fail)
  obtain ⟨wC2, hC⟩ : ∃ W, W = wB2.drewN nq := ⟨_, rfl⟩
  have hbl : Below wB2.heap.size wB2 wC2 := by rw [hC]; exact Below.of_drewN _ _
  rw [← hC]
  clear hC
  have hS := held6 (w := w) ⟨hs, c0, c1, c2, c3, c4, c5⟩ hbl
  have HBn : Kp (Below w.heap.size w wC2) := ⟨Below.then HB.out HB.out.size hbl⟩
  clear c0 c1 c2 c3 c4 c5 hs HB hbl
  obtain ⟨hs, c0, c1, c2, c3, c4, c5⟩ := hS
  have HB := HBn
  clear HBn
  go_wp2_with fail
  refine (awake_any _).mono ?_
  rintro e wE ⟨rfl, hbl⟩
  have HE : Kp (Below w.heap.size w wE) := ⟨Below.then HB.out HB.out.size hbl⟩
  clear hbl c0 c1 c2 c3 c4 c5
  go_wp2_with fail
  go_ret
  exact ⟨by simp, HE.out⟩
theorem states_walk (raw time ppb left rate steps : Int) (_ : I64 raw) (_ : I64 time) (_ : I64 ppb) (_ : I64 left) (_ : I64 rate) (hs : I64 steps) (w : World) : Calls Try.prog 3 #[.agg #[.int .i64 raw, .int .i64 time, .int .i64 ppb, .int .i64 left, .int .i64 rate, .int .i64 steps]] w fun x w' => x = .returned (.bool true) ∧ Below w.heap.size w w' := by
  by_cases ok : (CS.mk raw time ppb left rate steps).Ok
  · exact states_gg raw time ppb left rate steps ok (ok_new _ _ ok.raw1 ok.raw2 ok.time1 ok.time2) hs.2 w
  · by_cases ok2 : (CS.mk raw time 0 0 0 0).Ok
    · exact states_bg raw time ppb left rate steps ok ok2 hs.2 w
    · exact states_bb raw time ppb left rate steps ok ok2 hs.2 w
end Go.Proofs.Ytnfkffaogidleaa
