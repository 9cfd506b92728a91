/-
  The walk of SysclockSlews: whatever the state, the call and the later reading, it returns true, and what was there is as it was.
-/
import Derived.Test.YtnfkffaogidleaaRefuses10
import Derived.Test.YtnfkffaogidleaaSlewsP10
import Derived.Deep.RegionHeld3
set_option linter.unusedSimpArgs false
set_option linter.unusedVariables false
namespace Go.Proofs.Ytnfkffaogidleaa
open Go.RowKit
set_option maxHeartbeats 8000000 in
theorem slw_nil (sraw time ppb left rate steps kind raw a b later : Int) (ok : ¬ (CS.mk sraw time ppb 0 0 steps).Ok) (hst : steps ≤ 9223372036854775807) (w : World) : Calls Try.prog 6 #[.agg #[.int .i64 sraw, .int .i64 time, .int .i64 ppb, .int .i64 left, .int .i64 rate, .int .i64 steps], .agg #[.int .i64 kind, .int .i64 raw, .int .i64 a, .int .i64 b], .int .i64 later] w fun x w' => x = .returned (.bool true) ∧ Below w.heap.size w w' := by
  have o1 := fun w => of_bad _ ok hst w
  unfold CS.vals at o1
  simp only at o1
  clear ok hst
  go_enter Try.func6, Try.ntmps6
  go_wp2_with fail
  have hS := box10 w (.int .i64 sraw) (.int .i64 time) (.int .i64 ppb) (.int .i64 0) (.int .i64 0) (.int .i64 steps) (.int .i64 kind) (.int .i64 raw) (.int .i64 a) (.int .i64 b) 23 35
  have HX := below_alloc2 w (.cells #[.int .i64 sraw, .int .i64 time, .int .i64 ppb, .int .i64 0, .int .i64 0, .int .i64 steps] 23) (.cells #[.int .i64 kind, .int .i64 raw, .int .i64 a, .int .i64 b] 35)
  obtain ⟨wX, hX⟩ : ∃ W, W = (w.alloc (.cells #[.int .i64 sraw, .int .i64 time, .int .i64 ppb, .int .i64 0, .int .i64 0, .int .i64 steps] 23)).alloc (.cells #[.int .i64 kind, .int .i64 raw, .int .i64 a, .int .i64 b] 35) := ⟨_, rfl⟩
  rw [← hX] at hS HX ⊢
  have hXs : wX.heap.size = w.heap.size + 2 := by rw [hX]; simp
  clear hX
  have HXS := Kp.mk hXs
  clear hXs
  have HB := Kp.mk HX
  clear HX
  obtain ⟨hs, c0, c1, c2, c3, c4, c5, d0, d1, d2, d3⟩ := hS
  have tok1 : True := trivial
  go_region_held3 (fun w' => w.heap.size + 1 < w'.heap.size ∧ w'.cell? ⟨w.heap.size, 0, none⟩ = some (.int .i64 sraw) ∧ w'.cell? ⟨w.heap.size, 1, none⟩ = some (.int .i64 time) ∧ w'.cell? ⟨w.heap.size, 2, none⟩ = some (.int .i64 ppb) ∧ w'.cell? ⟨w.heap.size, 3, none⟩ = some (.int .i64 0) ∧ w'.cell? ⟨w.heap.size, 4, none⟩ = some (.int .i64 0) ∧ w'.cell? ⟨w.heap.size, 5, none⟩ = some (.int .i64 steps) ∧ w'.cell? ⟨w.heap.size + 1, 0, none⟩ = some (.int .i64 kind) ∧ w'.cell? ⟨w.heap.size + 1, 1, none⟩ = some (.int .i64 raw) ∧ w'.cell? ⟨w.heap.size + 1, 2, none⟩ = some (.int .i64 a) ∧ w'.cell? ⟨w.heap.size + 1, 3, none⟩ = some (.int .i64 b)) (first | exact held10 (by assumption) hbl2 | exact held10 (by assumption) hbl1 | go_keep)
    (first | (go_at_call 10; have _t := tok1; refine (o1 _).mono ?_; rintro e wA ⟨rfl, hbl1⟩; clear tok1) | (go_at_call 10; refine (o1 _).mono ?_; rintro e wB ⟨rfl, hbl2⟩))
  have hS := held10 (w := w) ⟨hs, c0, c1, c2, c3, c4, c5, d0, d1, d2, d3⟩ (chain3r (Below.refl _ wX) hbl1 hbl2)
  have HB1 : Kp (Below w.heap.size w wB) := ⟨chain3r HB.out hbl1 hbl2⟩
  clear hbl1 hbl2 HB hs c0 c1 c2 c3 c4 c5 d0 d1 d2 d3
  obtain ⟨hs, c0, c1, c2, c3, c4, c5, d0, d1, d2, d3⟩ := hS
  go_wp2_with fail
  refine (awake_any _).mono ?_
  rintro e wE ⟨rfl, hbl⟩
  have HE : Kp (Below w.heap.size w wE) := ⟨Below.then HB1.out HB1.out.size hbl⟩
  clear hbl hs c0 c1 c2 c3 c4 c5 d0 d1 d2 d3
  go_wp2_with fail
  go_ret
  exact ⟨by simp, HE.out⟩
set_option maxHeartbeats 8000000 in
theorem slw_S1 (sraw time ppb left rate steps kind raw a b later : Int) (ok : (CS.mk sraw time ppb 0 0 steps).Ok) (hr : raw ≤ 9223372036854775807) (hl : later ≤ 9223372036854775807) (h1 : (slewS (CS.mk sraw time ppb 0 0 steps) raw a b).2 ≠ 0) (w : World) : Calls Try.prog 6 #[.agg #[.int .i64 sraw, .int .i64 time, .int .i64 ppb, .int .i64 left, .int .i64 rate, .int .i64 steps], .agg #[.int .i64 kind, .int .i64 raw, .int .i64 a, .int .i64 b], .int .i64 later] w fun x w' => x = .returned (.bool true) ∧ Below w.heap.size w w' := by
  have o1 := fun w => of_good _ ok w
  unfold CS.vals at o1
  simp only at o1
  have sa := fun bk w hk => slew_set bk (CS.mk sraw time ppb 0 0 steps) raw a b w hk ok hr
  have sb := fun bk w hk => slew_set bk (CS.mk sraw time ppb 0 0 steps) raw 0 1 w hk ok hr
  obtain ⟨rs, hrs⟩ : ∃ r, slewS (CS.mk sraw time ppb 0 0 steps) raw a b = r := ⟨_, rfl⟩
  obtain ⟨ra, re⟩ := rs
  rw [hrs] at sa h1
  simp only at sa h1
  have t1 : (re != 0) = true := by simpa using h1
  have t1' : (re == 0) = false := by simpa using h1
  clear hrs h1 ok hr hl sb
  go_enter Try.func6, Try.ntmps6
  go_wp2_with fail
  have hS := box10 w (.int .i64 sraw) (.int .i64 time) (.int .i64 ppb) (.int .i64 0) (.int .i64 0) (.int .i64 steps) (.int .i64 kind) (.int .i64 raw) (.int .i64 a) (.int .i64 b) 23 35
  have HX := below_alloc2 w (.cells #[.int .i64 sraw, .int .i64 time, .int .i64 ppb, .int .i64 0, .int .i64 0, .int .i64 steps] 23) (.cells #[.int .i64 kind, .int .i64 raw, .int .i64 a, .int .i64 b] 35)
  obtain ⟨wX, hX⟩ : ∃ W, W = (w.alloc (.cells #[.int .i64 sraw, .int .i64 time, .int .i64 ppb, .int .i64 0, .int .i64 0, .int .i64 steps] 23)).alloc (.cells #[.int .i64 kind, .int .i64 raw, .int .i64 a, .int .i64 b] 35) := ⟨_, rfl⟩
  rw [← hX] at hS HX ⊢
  have hXs : wX.heap.size = w.heap.size + 2 := by rw [hX]; simp
  clear hX
  have HXS := Kp.mk hXs
  clear hXs
  have HB := Kp.mk HX
  clear HX
  obtain ⟨hs, c0, c1, c2, c3, c4, c5, d0, d1, d2, d3⟩ := hS
  have tok1 : True := trivial
  go_region_held3 (fun w' => w.heap.size + 1 < w'.heap.size ∧ w'.cell? ⟨w.heap.size, 0, none⟩ = some (.int .i64 sraw) ∧ w'.cell? ⟨w.heap.size, 1, none⟩ = some (.int .i64 time) ∧ w'.cell? ⟨w.heap.size, 2, none⟩ = some (.int .i64 ppb) ∧ w'.cell? ⟨w.heap.size, 3, none⟩ = some (.int .i64 0) ∧ w'.cell? ⟨w.heap.size, 4, none⟩ = some (.int .i64 0) ∧ w'.cell? ⟨w.heap.size, 5, none⟩ = some (.int .i64 steps) ∧ w'.cell? ⟨w.heap.size + 1, 0, none⟩ = some (.int .i64 kind) ∧ w'.cell? ⟨w.heap.size + 1, 1, none⟩ = some (.int .i64 raw) ∧ w'.cell? ⟨w.heap.size + 1, 2, none⟩ = some (.int .i64 a) ∧ w'.cell? ⟨w.heap.size + 1, 3, none⟩ = some (.int .i64 b)) (first | exact held10 (by assumption) hbl2 | exact held10 (by assumption) hbl1 | go_keep)
    (first | (go_at_call 10; have _t := tok1; refine (o1 _).mono ?_; rintro e wA ⟨ba, rfl, hba, hka, hbl1⟩; clear tok1) | (go_at_call 10; refine (o1 _).mono ?_; rintro e wB ⟨bb, rfl, hbb, hkb, hbl2⟩))
  have hS := held10 (w := w) ⟨hs, c0, c1, c2, c3, c4, c5, d0, d1, d2, d3⟩ (chain3r (Below.refl _ wX) hbl1 hbl2)
  have HB1 : Kp (Below w.heap.size w wB) := ⟨chain3r HB.out hbl1 hbl2⟩
  have HNE : Kp (bb ≠ ba ∧ w.heap.size + 2 ≤ ba ∧ w.heap.size + 2 ≤ bb) := ⟨by have := hka.lt; omega, by have := HXS.out; simp at hba; omega, by have := HXS.out; have := hbl1.size; simp at this; omega⟩
  have hka2 := hka.below hbl2 hka.lt
  clear hbl1 hbl2 HB hs c0 c1 c2 c3 c4 c5 d0 d1 d2 d3 hka hba hbb
  obtain ⟨hs, c0, c1, c2, c3, c4, c5, d0, d1, d2, d3⟩ := hS
  go_wp2_with fail
  refine (sa _ _ hka2).mono ?_
  rintro e w2 ⟨rfl, hk, ho⟩
  have hkb2 := ho.clk hkb HNE.out.1
  have hS := held10o (w := w) ⟨hs, c0, c1, c2, c3, c4, c5, d0, d1, d2, d3⟩ ho HNE.out.2.1
  have HB2 : Kp (Below w.heap.size w w2) := ⟨chainO HB1.out ho (by have := HNE.out; omega)⟩
  clear ho HB1 hka2 hkb hs c0 c1 c2 c3 c4 c5 d0 d1 d2 d3
  obtain ⟨hs, c0, c1, c2, c3, c4, c5, d0, d1, d2, d3⟩ := hS
  go_wp2_with fail
  refine (awake_any _).mono ?_
  rintro e wE ⟨rfl, hbl⟩
  have HE : Kp (Below w.heap.size w wE) := ⟨Below.then HB2.out HB2.out.size hbl⟩
  clear hbl hs c0 c1 c2 c3 c4 c5 d0 d1 d2 d3
  go_wp2_with fail
  go_ret
  exact ⟨by simp, HE.out⟩
set_option maxHeartbeats 8000000 in
theorem slw_S2 (sraw time ppb left rate steps kind raw a b later : Int) (ok : (CS.mk sraw time ppb 0 0 steps).Ok) (hr : raw ≤ 9223372036854775807) (hl : later ≤ 9223372036854775807) (h1 : (slewS (CS.mk sraw time ppb 0 0 steps) raw a b).2 = 0) (h2 : (slewS (CS.mk sraw time ppb 0 0 steps) raw 0 1).2 = 0) (oka : ((slewS (CS.mk sraw time ppb 0 0 steps) raw a b).1).Ok) (okb : ((slewS (CS.mk sraw time ppb 0 0 steps) raw 0 1).1).Ok) (h3 : later < raw) (w : World) : Calls Try.prog 6 #[.agg #[.int .i64 sraw, .int .i64 time, .int .i64 ppb, .int .i64 left, .int .i64 rate, .int .i64 steps], .agg #[.int .i64 kind, .int .i64 raw, .int .i64 a, .int .i64 b], .int .i64 later] w fun x w' => x = .returned (.bool true) ∧ Below w.heap.size w w' := by
  have o1 := fun w => of_good _ ok w
  unfold CS.vals at o1
  simp only at o1
  have sa := fun bk w hk => slew_set bk (CS.mk sraw time ppb 0 0 steps) raw a b w hk ok hr
  have sb := fun bk w hk => slew_set bk (CS.mk sraw time ppb 0 0 steps) raw 0 1 w hk ok hr
  rw [h1] at sa
  rw [h2] at sb
  obtain ⟨ra, hra⟩ : ∃ r, (slewS (CS.mk sraw time ppb 0 0 steps) raw a b).1 = r := ⟨_, rfl⟩
  obtain ⟨rb, hrb⟩ : ∃ r, (slewS (CS.mk sraw time ppb 0 0 steps) raw 0 1).1 = r := ⟨_, rfl⟩
  rw [hra] at sa oka
  rw [hrb] at sb okb
  clear hra hrb h1 h2
  have pd := fun bk w hk => pending_any bk ra later w hk oka hl
  have na := fun bk w hk => now_any bk ra later w hk oka hl
  have nb := fun bk w hk => now_any bk rb later w hk okb hl
  clear ok hr hl oka okb
  have t3 : decide (later < raw) = true := by simpa using h3
  clear pd na nb
  go_enter Try.func6, Try.ntmps6
  go_wp2_with fail
  have hS := box10 w (.int .i64 sraw) (.int .i64 time) (.int .i64 ppb) (.int .i64 0) (.int .i64 0) (.int .i64 steps) (.int .i64 kind) (.int .i64 raw) (.int .i64 a) (.int .i64 b) 23 35
  have HX := below_alloc2 w (.cells #[.int .i64 sraw, .int .i64 time, .int .i64 ppb, .int .i64 0, .int .i64 0, .int .i64 steps] 23) (.cells #[.int .i64 kind, .int .i64 raw, .int .i64 a, .int .i64 b] 35)
  obtain ⟨wX, hX⟩ : ∃ W, W = (w.alloc (.cells #[.int .i64 sraw, .int .i64 time, .int .i64 ppb, .int .i64 0, .int .i64 0, .int .i64 steps] 23)).alloc (.cells #[.int .i64 kind, .int .i64 raw, .int .i64 a, .int .i64 b] 35) := ⟨_, rfl⟩
  rw [← hX] at hS HX ⊢
  have hXs : wX.heap.size = w.heap.size + 2 := by rw [hX]; simp
  clear hX
  have HXS := Kp.mk hXs
  clear hXs
  have HB := Kp.mk HX
  clear HX
  obtain ⟨hs, c0, c1, c2, c3, c4, c5, d0, d1, d2, d3⟩ := hS
  have tok1 : True := trivial
  go_region_held3 (fun w' => w.heap.size + 1 < w'.heap.size ∧ w'.cell? ⟨w.heap.size, 0, none⟩ = some (.int .i64 sraw) ∧ w'.cell? ⟨w.heap.size, 1, none⟩ = some (.int .i64 time) ∧ w'.cell? ⟨w.heap.size, 2, none⟩ = some (.int .i64 ppb) ∧ w'.cell? ⟨w.heap.size, 3, none⟩ = some (.int .i64 0) ∧ w'.cell? ⟨w.heap.size, 4, none⟩ = some (.int .i64 0) ∧ w'.cell? ⟨w.heap.size, 5, none⟩ = some (.int .i64 steps) ∧ w'.cell? ⟨w.heap.size + 1, 0, none⟩ = some (.int .i64 kind) ∧ w'.cell? ⟨w.heap.size + 1, 1, none⟩ = some (.int .i64 raw) ∧ w'.cell? ⟨w.heap.size + 1, 2, none⟩ = some (.int .i64 a) ∧ w'.cell? ⟨w.heap.size + 1, 3, none⟩ = some (.int .i64 b)) (first | exact held10 (by assumption) hbl2 | exact held10 (by assumption) hbl1 | go_keep)
    (first | (go_at_call 10; have _t := tok1; refine (o1 _).mono ?_; rintro e wA ⟨ba, rfl, hba, hka, hbl1⟩; clear tok1) | (go_at_call 10; refine (o1 _).mono ?_; rintro e wB ⟨bb, rfl, hbb, hkb, hbl2⟩))
  have hS := held10 (w := w) ⟨hs, c0, c1, c2, c3, c4, c5, d0, d1, d2, d3⟩ (chain3r (Below.refl _ wX) hbl1 hbl2)
  have HB1 : Kp (Below w.heap.size w wB) := ⟨chain3r HB.out hbl1 hbl2⟩
  have HNE : Kp (bb ≠ ba ∧ w.heap.size + 2 ≤ ba ∧ w.heap.size + 2 ≤ bb) := ⟨by have := hka.lt; omega, by have := HXS.out; simp at hba; omega, by have := HXS.out; have := hbl1.size; simp at this; omega⟩
  have hka2 := hka.below hbl2 hka.lt
  clear hbl1 hbl2 HB hs c0 c1 c2 c3 c4 c5 d0 d1 d2 d3 hka hba hbb
  obtain ⟨hs, c0, c1, c2, c3, c4, c5, d0, d1, d2, d3⟩ := hS
  go_wp2_with fail
  refine (sa _ _ hka2).mono ?_
  rintro e w2 ⟨rfl, hk, ho⟩
  have hkb2 := ho.clk hkb HNE.out.1
  have hS := held10o (w := w) ⟨hs, c0, c1, c2, c3, c4, c5, d0, d1, d2, d3⟩ ho HNE.out.2.1
  have HB2 : Kp (Below w.heap.size w w2) := ⟨chainO HB1.out ho (by have := HNE.out; omega)⟩
  clear ho HB1 hka2 hkb hs c0 c1 c2 c3 c4 c5 d0 d1 d2 d3
  obtain ⟨hs, c0, c1, c2, c3, c4, c5, d0, d1, d2, d3⟩ := hS
  go_wp2_with fail
  refine (sb _ _ hkb2).mono ?_
  rintro e w3 ⟨rfl, hkb, ho⟩
  have hka := ho.clk hk (Ne.symm HNE.out.1)
  have hS := held10o (w := w) ⟨hs, c0, c1, c2, c3, c4, c5, d0, d1, d2, d3⟩ ho HNE.out.2.2
  have HB3 : Kp (Below w.heap.size w w3) := ⟨chainO HB2.out ho (by have := HNE.out; omega)⟩
  clear ho HB2 hk hkb2 hs c0 c1 c2 c3 c4 c5 d0 d1 d2 d3
  obtain ⟨hs, c0, c1, c2, c3, c4, c5, d0, d1, d2, d3⟩ := hS
  go_wp2_with fail
  refine (awake_any _).mono ?_
  rintro e wE ⟨rfl, hbl⟩
  have HE : Kp (Below w.heap.size w wE) := ⟨Below.then HB3.out HB3.out.size hbl⟩
  clear hbl hs c0 c1 c2 c3 c4 c5 d0 d1 d2 d3
  go_wp2_with fail
  go_ret
  exact ⟨by simp, HE.out⟩
set_option maxHeartbeats 8000000 in
theorem slw_S3 (sraw time ppb left rate steps kind raw a b later : Int) (ok : (CS.mk sraw time ppb 0 0 steps).Ok) (hr : raw ≤ 9223372036854775807) (hl : later ≤ 9223372036854775807) (h1 : (slewS (CS.mk sraw time ppb 0 0 steps) raw a b).2 = 0) (h2 : (slewS (CS.mk sraw time ppb 0 0 steps) raw 0 1).2 = 0) (oka : ((slewS (CS.mk sraw time ppb 0 0 steps) raw a b).1).Ok) (okb : ((slewS (CS.mk sraw time ppb 0 0 steps) raw 0 1).1).Ok) (h3 : ¬ later < raw) (h4 : pendF (slewS (CS.mk sraw time ppb 0 0 steps) raw a b).1 later ≠ 0) (w : World) : Calls Try.prog 6 #[.agg #[.int .i64 sraw, .int .i64 time, .int .i64 ppb, .int .i64 left, .int .i64 rate, .int .i64 steps], .agg #[.int .i64 kind, .int .i64 raw, .int .i64 a, .int .i64 b], .int .i64 later] w fun x w' => x = .returned (.bool true) ∧ Below w.heap.size w w' := by
  have o1 := fun w => of_good _ ok w
  unfold CS.vals at o1
  simp only at o1
  have sa := fun bk w hk => slew_set bk (CS.mk sraw time ppb 0 0 steps) raw a b w hk ok hr
  have sb := fun bk w hk => slew_set bk (CS.mk sraw time ppb 0 0 steps) raw 0 1 w hk ok hr
  rw [h1] at sa
  rw [h2] at sb
  obtain ⟨ra, hra⟩ : ∃ r, (slewS (CS.mk sraw time ppb 0 0 steps) raw a b).1 = r := ⟨_, rfl⟩
  obtain ⟨rb, hrb⟩ : ∃ r, (slewS (CS.mk sraw time ppb 0 0 steps) raw 0 1).1 = r := ⟨_, rfl⟩
  rw [hra] at sa oka h4
  rw [hrb] at sb okb
  clear hra hrb h1 h2
  have pd := fun bk w hk => pending_any bk ra later w hk oka hl
  have na := fun bk w hk => now_any bk ra later w hk oka hl
  have nb := fun bk w hk => now_any bk rb later w hk okb hl
  clear ok hr hl oka okb
  have t3 : decide (later < raw) = false := by simp; omega
  clear h3
  obtain ⟨pv, hpv⟩ : ∃ p, pendF ra later = p := ⟨_, rfl⟩
  rw [hpv] at pd h4
  have t4 : (pv != 0) = true := by simpa using h4
  have t4' : (pv == 0) = false := by simpa using h4
  clear hpv h4 na nb
  go_enter Try.func6, Try.ntmps6
  go_wp2_with fail
  have hS := box10 w (.int .i64 sraw) (.int .i64 time) (.int .i64 ppb) (.int .i64 0) (.int .i64 0) (.int .i64 steps) (.int .i64 kind) (.int .i64 raw) (.int .i64 a) (.int .i64 b) 23 35
  have HX := below_alloc2 w (.cells #[.int .i64 sraw, .int .i64 time, .int .i64 ppb, .int .i64 0, .int .i64 0, .int .i64 steps] 23) (.cells #[.int .i64 kind, .int .i64 raw, .int .i64 a, .int .i64 b] 35)
  obtain ⟨wX, hX⟩ : ∃ W, W = (w.alloc (.cells #[.int .i64 sraw, .int .i64 time, .int .i64 ppb, .int .i64 0, .int .i64 0, .int .i64 steps] 23)).alloc (.cells #[.int .i64 kind, .int .i64 raw, .int .i64 a, .int .i64 b] 35) := ⟨_, rfl⟩
  rw [← hX] at hS HX ⊢
  have hXs : wX.heap.size = w.heap.size + 2 := by rw [hX]; simp
  clear hX
  have HXS := Kp.mk hXs
  clear hXs
  have HB := Kp.mk HX
  clear HX
  obtain ⟨hs, c0, c1, c2, c3, c4, c5, d0, d1, d2, d3⟩ := hS
  have tok1 : True := trivial
  go_region_held3 (fun w' => w.heap.size + 1 < w'.heap.size ∧ w'.cell? ⟨w.heap.size, 0, none⟩ = some (.int .i64 sraw) ∧ w'.cell? ⟨w.heap.size, 1, none⟩ = some (.int .i64 time) ∧ w'.cell? ⟨w.heap.size, 2, none⟩ = some (.int .i64 ppb) ∧ w'.cell? ⟨w.heap.size, 3, none⟩ = some (.int .i64 0) ∧ w'.cell? ⟨w.heap.size, 4, none⟩ = some (.int .i64 0) ∧ w'.cell? ⟨w.heap.size, 5, none⟩ = some (.int .i64 steps) ∧ w'.cell? ⟨w.heap.size + 1, 0, none⟩ = some (.int .i64 kind) ∧ w'.cell? ⟨w.heap.size + 1, 1, none⟩ = some (.int .i64 raw) ∧ w'.cell? ⟨w.heap.size + 1, 2, none⟩ = some (.int .i64 a) ∧ w'.cell? ⟨w.heap.size + 1, 3, none⟩ = some (.int .i64 b)) (first | exact held10 (by assumption) hbl2 | exact held10 (by assumption) hbl1 | go_keep)
    (first | (go_at_call 10; have _t := tok1; refine (o1 _).mono ?_; rintro e wA ⟨ba, rfl, hba, hka, hbl1⟩; clear tok1) | (go_at_call 10; refine (o1 _).mono ?_; rintro e wB ⟨bb, rfl, hbb, hkb, hbl2⟩))
  have hS := held10 (w := w) ⟨hs, c0, c1, c2, c3, c4, c5, d0, d1, d2, d3⟩ (chain3r (Below.refl _ wX) hbl1 hbl2)
  have HB1 : Kp (Below w.heap.size w wB) := ⟨chain3r HB.out hbl1 hbl2⟩
  have HNE : Kp (bb ≠ ba ∧ w.heap.size + 2 ≤ ba ∧ w.heap.size + 2 ≤ bb) := ⟨by have := hka.lt; omega, by have := HXS.out; simp at hba; omega, by have := HXS.out; have := hbl1.size; simp at this; omega⟩
  have hka2 := hka.below hbl2 hka.lt
  clear hbl1 hbl2 HB hs c0 c1 c2 c3 c4 c5 d0 d1 d2 d3 hka hba hbb
  obtain ⟨hs, c0, c1, c2, c3, c4, c5, d0, d1, d2, d3⟩ := hS
  go_wp2_with fail
  refine (sa _ _ hka2).mono ?_
  rintro e w2 ⟨rfl, hk, ho⟩
  have hkb2 := ho.clk hkb HNE.out.1
  have hS := held10o (w := w) ⟨hs, c0, c1, c2, c3, c4, c5, d0, d1, d2, d3⟩ ho HNE.out.2.1
  have HB2 : Kp (Below w.heap.size w w2) := ⟨chainO HB1.out ho (by have := HNE.out; omega)⟩
  clear ho HB1 hka2 hkb hs c0 c1 c2 c3 c4 c5 d0 d1 d2 d3
  obtain ⟨hs, c0, c1, c2, c3, c4, c5, d0, d1, d2, d3⟩ := hS
  go_wp2_with fail
  refine (sb _ _ hkb2).mono ?_
  rintro e w3 ⟨rfl, hkb, ho⟩
  have hka := ho.clk hk (Ne.symm HNE.out.1)
  have hS := held10o (w := w) ⟨hs, c0, c1, c2, c3, c4, c5, d0, d1, d2, d3⟩ ho HNE.out.2.2
  have HB3 : Kp (Below w.heap.size w w3) := ⟨chainO HB2.out ho (by have := HNE.out; omega)⟩
  clear ho HB2 hk hkb2 hs c0 c1 c2 c3 c4 c5 d0 d1 d2 d3
  obtain ⟨hs, c0, c1, c2, c3, c4, c5, d0, d1, d2, d3⟩ := hS
  go_wp2_with fail
  refine (pd _ _ hka).mono ?_
  rintro e w4 ⟨rfl, hbl⟩
  have hka4 := hka.below hbl hka.lt
  have hkb4 := hkb.below hbl hkb.lt
  have hS := held10 (w := w) ⟨hs, c0, c1, c2, c3, c4, c5, d0, d1, d2, d3⟩ hbl
  have HB4 : Kp (Below w.heap.size w w4) := ⟨Below.then HB3.out HB3.out.size hbl⟩
  clear hbl HB3 hka hkb hs c0 c1 c2 c3 c4 c5 d0 d1 d2 d3
  obtain ⟨hs, c0, c1, c2, c3, c4, c5, d0, d1, d2, d3⟩ := hS
  go_wp2_with fail
  refine (awake_any _).mono ?_
  rintro e wE ⟨rfl, hbl⟩
  have HE : Kp (Below w.heap.size w wE) := ⟨Below.then HB4.out HB4.out.size hbl⟩
  clear hbl hs c0 c1 c2 c3 c4 c5 d0 d1 d2 d3
  go_wp2_with fail
  go_ret
  exact ⟨by simp, HE.out⟩
set_option maxHeartbeats 8000000 in
theorem slw_S4 (sraw time ppb left rate steps kind raw a b later : Int) (ok : (CS.mk sraw time ppb 0 0 steps).Ok) (hr : raw ≤ 9223372036854775807) (hl : later ≤ 9223372036854775807) (h1 : (slewS (CS.mk sraw time ppb 0 0 steps) raw a b).2 = 0) (h2 : (slewS (CS.mk sraw time ppb 0 0 steps) raw 0 1).2 = 0) (oka : ((slewS (CS.mk sraw time ppb 0 0 steps) raw a b).1).Ok) (okb : ((slewS (CS.mk sraw time ppb 0 0 steps) raw 0 1).1).Ok) (h3 : ¬ later < raw) (h4 : pendF (slewS (CS.mk sraw time ppb 0 0 steps) raw a b).1 later = 0) (h5 : (nowF (slewS (CS.mk sraw time ppb 0 0 steps) raw a b).1 later).2 ≠ 0) (w : World) : Calls Try.prog 6 #[.agg #[.int .i64 sraw, .int .i64 time, .int .i64 ppb, .int .i64 left, .int .i64 rate, .int .i64 steps], .agg #[.int .i64 kind, .int .i64 raw, .int .i64 a, .int .i64 b], .int .i64 later] w fun x w' => x = .returned (.bool true) ∧ Below w.heap.size w w' := by
  have o1 := fun w => of_good _ ok w
  unfold CS.vals at o1
  simp only at o1
  have sa := fun bk w hk => slew_set bk (CS.mk sraw time ppb 0 0 steps) raw a b w hk ok hr
  have sb := fun bk w hk => slew_set bk (CS.mk sraw time ppb 0 0 steps) raw 0 1 w hk ok hr
  rw [h1] at sa
  rw [h2] at sb
  obtain ⟨ra, hra⟩ : ∃ r, (slewS (CS.mk sraw time ppb 0 0 steps) raw a b).1 = r := ⟨_, rfl⟩
  obtain ⟨rb, hrb⟩ : ∃ r, (slewS (CS.mk sraw time ppb 0 0 steps) raw 0 1).1 = r := ⟨_, rfl⟩
  rw [hra] at sa oka h4 h5
  rw [hrb] at sb okb
  clear hra hrb h1 h2
  have pd := fun bk w hk => pending_any bk ra later w hk oka hl
  have na := fun bk w hk => now_any bk ra later w hk oka hl
  have nb := fun bk w hk => now_any bk rb later w hk okb hl
  clear ok hr hl oka okb
  have t3 : decide (later < raw) = false := by simp; omega
  clear h3
  rw [h4] at pd
  clear h4
  obtain ⟨va, hva⟩ : ∃ p, nowF ra later = p := ⟨_, rfl⟩
  obtain ⟨tv, te⟩ := va
  obtain ⟨vb, hvb⟩ : ∃ p, nowF rb later = p := ⟨_, rfl⟩
  obtain ⟨uv, ue⟩ := vb
  rw [hva] at na h5
  rw [hvb] at nb
  simp only at na nb h5
  clear hva hvb
  have t5 : (te != 0) = true := by simpa using h5
  have t5' : (te == 0) = false := by simpa using h5
  clear h5
  go_enter Try.func6, Try.ntmps6
  go_wp2_with fail
  have hS := box10 w (.int .i64 sraw) (.int .i64 time) (.int .i64 ppb) (.int .i64 0) (.int .i64 0) (.int .i64 steps) (.int .i64 kind) (.int .i64 raw) (.int .i64 a) (.int .i64 b) 23 35
  have HX := below_alloc2 w (.cells #[.int .i64 sraw, .int .i64 time, .int .i64 ppb, .int .i64 0, .int .i64 0, .int .i64 steps] 23) (.cells #[.int .i64 kind, .int .i64 raw, .int .i64 a, .int .i64 b] 35)
  obtain ⟨wX, hX⟩ : ∃ W, W = (w.alloc (.cells #[.int .i64 sraw, .int .i64 time, .int .i64 ppb, .int .i64 0, .int .i64 0, .int .i64 steps] 23)).alloc (.cells #[.int .i64 kind, .int .i64 raw, .int .i64 a, .int .i64 b] 35) := ⟨_, rfl⟩
  rw [← hX] at hS HX ⊢
  have hXs : wX.heap.size = w.heap.size + 2 := by rw [hX]; simp
  clear hX
  have HXS := Kp.mk hXs
  clear hXs
  have HB := Kp.mk HX
  clear HX
  obtain ⟨hs, c0, c1, c2, c3, c4, c5, d0, d1, d2, d3⟩ := hS
  have tok1 : True := trivial
  go_region_held3 (fun w' => w.heap.size + 1 < w'.heap.size ∧ w'.cell? ⟨w.heap.size, 0, none⟩ = some (.int .i64 sraw) ∧ w'.cell? ⟨w.heap.size, 1, none⟩ = some (.int .i64 time) ∧ w'.cell? ⟨w.heap.size, 2, none⟩ = some (.int .i64 ppb) ∧ w'.cell? ⟨w.heap.size, 3, none⟩ = some (.int .i64 0) ∧ w'.cell? ⟨w.heap.size, 4, none⟩ = some (.int .i64 0) ∧ w'.cell? ⟨w.heap.size, 5, none⟩ = some (.int .i64 steps) ∧ w'.cell? ⟨w.heap.size + 1, 0, none⟩ = some (.int .i64 kind) ∧ w'.cell? ⟨w.heap.size + 1, 1, none⟩ = some (.int .i64 raw) ∧ w'.cell? ⟨w.heap.size + 1, 2, none⟩ = some (.int .i64 a) ∧ w'.cell? ⟨w.heap.size + 1, 3, none⟩ = some (.int .i64 b)) (first | exact held10 (by assumption) hbl2 | exact held10 (by assumption) hbl1 | go_keep)
    (first | (go_at_call 10; have _t := tok1; refine (o1 _).mono ?_; rintro e wA ⟨ba, rfl, hba, hka, hbl1⟩; clear tok1) | (go_at_call 10; refine (o1 _).mono ?_; rintro e wB ⟨bb, rfl, hbb, hkb, hbl2⟩))
  have hS := held10 (w := w) ⟨hs, c0, c1, c2, c3, c4, c5, d0, d1, d2, d3⟩ (chain3r (Below.refl _ wX) hbl1 hbl2)
  have HB1 : Kp (Below w.heap.size w wB) := ⟨chain3r HB.out hbl1 hbl2⟩
  have HNE : Kp (bb ≠ ba ∧ w.heap.size + 2 ≤ ba ∧ w.heap.size + 2 ≤ bb) := ⟨by have := hka.lt; omega, by have := HXS.out; simp at hba; omega, by have := HXS.out; have := hbl1.size; simp at this; omega⟩
  have hka2 := hka.below hbl2 hka.lt
  clear hbl1 hbl2 HB hs c0 c1 c2 c3 c4 c5 d0 d1 d2 d3 hka hba hbb
  obtain ⟨hs, c0, c1, c2, c3, c4, c5, d0, d1, d2, d3⟩ := hS
  go_wp2_with fail
  refine (sa _ _ hka2).mono ?_
  rintro e w2 ⟨rfl, hk, ho⟩
  have hkb2 := ho.clk hkb HNE.out.1
  have hS := held10o (w := w) ⟨hs, c0, c1, c2, c3, c4, c5, d0, d1, d2, d3⟩ ho HNE.out.2.1
  have HB2 : Kp (Below w.heap.size w w2) := ⟨chainO HB1.out ho (by have := HNE.out; omega)⟩
  clear ho HB1 hka2 hkb hs c0 c1 c2 c3 c4 c5 d0 d1 d2 d3
  obtain ⟨hs, c0, c1, c2, c3, c4, c5, d0, d1, d2, d3⟩ := hS
  go_wp2_with fail
  refine (sb _ _ hkb2).mono ?_
  rintro e w3 ⟨rfl, hkb, ho⟩
  have hka := ho.clk hk (Ne.symm HNE.out.1)
  have hS := held10o (w := w) ⟨hs, c0, c1, c2, c3, c4, c5, d0, d1, d2, d3⟩ ho HNE.out.2.2
  have HB3 : Kp (Below w.heap.size w w3) := ⟨chainO HB2.out ho (by have := HNE.out; omega)⟩
  clear ho HB2 hk hkb2 hs c0 c1 c2 c3 c4 c5 d0 d1 d2 d3
  obtain ⟨hs, c0, c1, c2, c3, c4, c5, d0, d1, d2, d3⟩ := hS
  go_wp2_with fail
  refine (pd _ _ hka).mono ?_
  rintro e w4 ⟨rfl, hbl⟩
  have hka4 := hka.below hbl hka.lt
  have hkb4 := hkb.below hbl hkb.lt
  have hS := held10 (w := w) ⟨hs, c0, c1, c2, c3, c4, c5, d0, d1, d2, d3⟩ hbl
  have HB4 : Kp (Below w.heap.size w w4) := ⟨Below.then HB3.out HB3.out.size hbl⟩
  clear hbl HB3 hka hkb hs c0 c1 c2 c3 c4 c5 d0 d1 d2 d3
  obtain ⟨hs, c0, c1, c2, c3, c4, c5, d0, d1, d2, d3⟩ := hS
  go_wp2_with fail
  refine (na _ _ hka4).mono ?_
  rintro e w5 ⟨rfl, hbl⟩
  have hka5 := hka4.below hbl hka4.lt
  have hkb5 := hkb4.below hbl hkb4.lt
  have hS := held10 (w := w) ⟨hs, c0, c1, c2, c3, c4, c5, d0, d1, d2, d3⟩ hbl
  have HB5 : Kp (Below w.heap.size w w5) := ⟨Below.then HB4.out HB4.out.size hbl⟩
  clear hbl HB4 hka4 hkb4 hs c0 c1 c2 c3 c4 c5 d0 d1 d2 d3
  obtain ⟨hs, c0, c1, c2, c3, c4, c5, d0, d1, d2, d3⟩ := hS
  go_wp2_with fail
  refine (nb _ _ hkb5).mono ?_
  rintro e w6 ⟨rfl, hbl⟩
  have hka6 := hka5.below hbl hka5.lt
  have hkb6 := hkb5.below hbl hkb5.lt
  have hS := held10 (w := w) ⟨hs, c0, c1, c2, c3, c4, c5, d0, d1, d2, d3⟩ hbl
  have HB6 : Kp (Below w.heap.size w w6) := ⟨Below.then HB5.out HB5.out.size hbl⟩
  clear hbl HB5 hka5 hkb5 hs c0 c1 c2 c3 c4 c5 d0 d1 d2 d3
  obtain ⟨hs, c0, c1, c2, c3, c4, c5, d0, d1, d2, d3⟩ := hS
  go_wp2_with fail
  refine (awake_any _).mono ?_
  rintro e wE ⟨rfl, hbl⟩
  have HE : Kp (Below w.heap.size w wE) := ⟨Below.then HB6.out HB6.out.size hbl⟩
  clear hbl hs c0 c1 c2 c3 c4 c5 d0 d1 d2 d3
  go_wp2_with fail
  go_ret
  exact ⟨by simp, HE.out⟩
set_option maxHeartbeats 8000000 in
theorem slw_S5 (sraw time ppb left rate steps kind raw a b later : Int) (ok : (CS.mk sraw time ppb 0 0 steps).Ok) (hr : raw ≤ 9223372036854775807) (hl : later ≤ 9223372036854775807) (h1 : (slewS (CS.mk sraw time ppb 0 0 steps) raw a b).2 = 0) (h2 : (slewS (CS.mk sraw time ppb 0 0 steps) raw 0 1).2 = 0) (oka : ((slewS (CS.mk sraw time ppb 0 0 steps) raw a b).1).Ok) (okb : ((slewS (CS.mk sraw time ppb 0 0 steps) raw 0 1).1).Ok) (h3 : ¬ later < raw) (h4 : pendF (slewS (CS.mk sraw time ppb 0 0 steps) raw a b).1 later = 0) (h5 : (nowF (slewS (CS.mk sraw time ppb 0 0 steps) raw a b).1 later).2 = 0) (h6 : (nowF (slewS (CS.mk sraw time ppb 0 0 steps) raw 0 1).1 later).2 ≠ 0) (w : World) : Calls Try.prog 6 #[.agg #[.int .i64 sraw, .int .i64 time, .int .i64 ppb, .int .i64 left, .int .i64 rate, .int .i64 steps], .agg #[.int .i64 kind, .int .i64 raw, .int .i64 a, .int .i64 b], .int .i64 later] w fun x w' => x = .returned (.bool true) ∧ Below w.heap.size w w' := by
  have o1 := fun w => of_good _ ok w
  unfold CS.vals at o1
  simp only at o1
  have sa := fun bk w hk => slew_set bk (CS.mk sraw time ppb 0 0 steps) raw a b w hk ok hr
  have sb := fun bk w hk => slew_set bk (CS.mk sraw time ppb 0 0 steps) raw 0 1 w hk ok hr
  rw [h1] at sa
  rw [h2] at sb
  obtain ⟨ra, hra⟩ : ∃ r, (slewS (CS.mk sraw time ppb 0 0 steps) raw a b).1 = r := ⟨_, rfl⟩
  obtain ⟨rb, hrb⟩ : ∃ r, (slewS (CS.mk sraw time ppb 0 0 steps) raw 0 1).1 = r := ⟨_, rfl⟩
  rw [hra] at sa oka h4 h5
  rw [hrb] at sb okb h6
  clear hra hrb h1 h2
  have pd := fun bk w hk => pending_any bk ra later w hk oka hl
  have na := fun bk w hk => now_any bk ra later w hk oka hl
  have nb := fun bk w hk => now_any bk rb later w hk okb hl
  clear ok hr hl oka okb
  have t3 : decide (later < raw) = false := by simp; omega
  clear h3
  rw [h4] at pd
  clear h4
  obtain ⟨va, hva⟩ : ∃ p, nowF ra later = p := ⟨_, rfl⟩
  obtain ⟨tv, te⟩ := va
  obtain ⟨vb, hvb⟩ : ∃ p, nowF rb later = p := ⟨_, rfl⟩
  obtain ⟨uv, ue⟩ := vb
  rw [hva] at na h5
  rw [hvb] at nb h6
  simp only at na nb h5 h6
  clear hva hvb
  subst h5
  have t6 : (ue != 0) = true := by simpa using h6
  have t6' : (ue == 0) = false := by simpa using h6
  clear h6
  go_enter Try.func6, Try.ntmps6
  go_wp2_with fail
  have hS := box10 w (.int .i64 sraw) (.int .i64 time) (.int .i64 ppb) (.int .i64 0) (.int .i64 0) (.int .i64 steps) (.int .i64 kind) (.int .i64 raw) (.int .i64 a) (.int .i64 b) 23 35
  have HX := below_alloc2 w (.cells #[.int .i64 sraw, .int .i64 time, .int .i64 ppb, .int .i64 0, .int .i64 0, .int .i64 steps] 23) (.cells #[.int .i64 kind, .int .i64 raw, .int .i64 a, .int .i64 b] 35)
  obtain ⟨wX, hX⟩ : ∃ W, W = (w.alloc (.cells #[.int .i64 sraw, .int .i64 time, .int .i64 ppb, .int .i64 0, .int .i64 0, .int .i64 steps] 23)).alloc (.cells #[.int .i64 kind, .int .i64 raw, .int .i64 a, .int .i64 b] 35) := ⟨_, rfl⟩
  rw [← hX] at hS HX ⊢
  have hXs : wX.heap.size = w.heap.size + 2 := by rw [hX]; simp
  clear hX
  have HXS := Kp.mk hXs
  clear hXs
  have HB := Kp.mk HX
  clear HX
  obtain ⟨hs, c0, c1, c2, c3, c4, c5, d0, d1, d2, d3⟩ := hS
  have tok1 : True := trivial
  go_region_held3 (fun w' => w.heap.size + 1 < w'.heap.size ∧ w'.cell? ⟨w.heap.size, 0, none⟩ = some (.int .i64 sraw) ∧ w'.cell? ⟨w.heap.size, 1, none⟩ = some (.int .i64 time) ∧ w'.cell? ⟨w.heap.size, 2, none⟩ = some (.int .i64 ppb) ∧ w'.cell? ⟨w.heap.size, 3, none⟩ = some (.int .i64 0) ∧ w'.cell? ⟨w.heap.size, 4, none⟩ = some (.int .i64 0) ∧ w'.cell? ⟨w.heap.size, 5, none⟩ = some (.int .i64 steps) ∧ w'.cell? ⟨w.heap.size + 1, 0, none⟩ = some (.int .i64 kind) ∧ w'.cell? ⟨w.heap.size + 1, 1, none⟩ = some (.int .i64 raw) ∧ w'.cell? ⟨w.heap.size + 1, 2, none⟩ = some (.int .i64 a) ∧ w'.cell? ⟨w.heap.size + 1, 3, none⟩ = some (.int .i64 b)) (first | exact held10 (by assumption) hbl2 | exact held10 (by assumption) hbl1 | go_keep)
    (first | (go_at_call 10; have _t := tok1; refine (o1 _).mono ?_; rintro e wA ⟨ba, rfl, hba, hka, hbl1⟩; clear tok1) | (go_at_call 10; refine (o1 _).mono ?_; rintro e wB ⟨bb, rfl, hbb, hkb, hbl2⟩))
  have hS := held10 (w := w) ⟨hs, c0, c1, c2, c3, c4, c5, d0, d1, d2, d3⟩ (chain3r (Below.refl _ wX) hbl1 hbl2)
  have HB1 : Kp (Below w.heap.size w wB) := ⟨chain3r HB.out hbl1 hbl2⟩
  have HNE : Kp (bb ≠ ba ∧ w.heap.size + 2 ≤ ba ∧ w.heap.size + 2 ≤ bb) := ⟨by have := hka.lt; omega, by have := HXS.out; simp at hba; omega, by have := HXS.out; have := hbl1.size; simp at this; omega⟩
  have hka2 := hka.below hbl2 hka.lt
  clear hbl1 hbl2 HB hs c0 c1 c2 c3 c4 c5 d0 d1 d2 d3 hka hba hbb
  obtain ⟨hs, c0, c1, c2, c3, c4, c5, d0, d1, d2, d3⟩ := hS
  go_wp2_with fail
  refine (sa _ _ hka2).mono ?_
  rintro e w2 ⟨rfl, hk, ho⟩
  have hkb2 := ho.clk hkb HNE.out.1
  have hS := held10o (w := w) ⟨hs, c0, c1, c2, c3, c4, c5, d0, d1, d2, d3⟩ ho HNE.out.2.1
  have HB2 : Kp (Below w.heap.size w w2) := ⟨chainO HB1.out ho (by have := HNE.out; omega)⟩
  clear ho HB1 hka2 hkb hs c0 c1 c2 c3 c4 c5 d0 d1 d2 d3
  obtain ⟨hs, c0, c1, c2, c3, c4, c5, d0, d1, d2, d3⟩ := hS
  go_wp2_with fail
  refine (sb _ _ hkb2).mono ?_
  rintro e w3 ⟨rfl, hkb, ho⟩
  have hka := ho.clk hk (Ne.symm HNE.out.1)
  have hS := held10o (w := w) ⟨hs, c0, c1, c2, c3, c4, c5, d0, d1, d2, d3⟩ ho HNE.out.2.2
  have HB3 : Kp (Below w.heap.size w w3) := ⟨chainO HB2.out ho (by have := HNE.out; omega)⟩
  clear ho HB2 hk hkb2 hs c0 c1 c2 c3 c4 c5 d0 d1 d2 d3
  obtain ⟨hs, c0, c1, c2, c3, c4, c5, d0, d1, d2, d3⟩ := hS
  go_wp2_with fail
  refine (pd _ _ hka).mono ?_
  rintro e w4 ⟨rfl, hbl⟩
  have hka4 := hka.below hbl hka.lt
  have hkb4 := hkb.below hbl hkb.lt
  have hS := held10 (w := w) ⟨hs, c0, c1, c2, c3, c4, c5, d0, d1, d2, d3⟩ hbl
  have HB4 : Kp (Below w.heap.size w w4) := ⟨Below.then HB3.out HB3.out.size hbl⟩
  clear hbl HB3 hka hkb hs c0 c1 c2 c3 c4 c5 d0 d1 d2 d3
  obtain ⟨hs, c0, c1, c2, c3, c4, c5, d0, d1, d2, d3⟩ := hS
  go_wp2_with fail
  refine (na _ _ hka4).mono ?_
  rintro e w5 ⟨rfl, hbl⟩
  have hka5 := hka4.below hbl hka4.lt
  have hkb5 := hkb4.below hbl hkb4.lt
  have hS := held10 (w := w) ⟨hs, c0, c1, c2, c3, c4, c5, d0, d1, d2, d3⟩ hbl
  have HB5 : Kp (Below w.heap.size w w5) := ⟨Below.then HB4.out HB4.out.size hbl⟩
  clear hbl HB4 hka4 hkb4 hs c0 c1 c2 c3 c4 c5 d0 d1 d2 d3
  obtain ⟨hs, c0, c1, c2, c3, c4, c5, d0, d1, d2, d3⟩ := hS
  go_wp2_with fail
  refine (nb _ _ hkb5).mono ?_
  rintro e w6 ⟨rfl, hbl⟩
  have hka6 := hka5.below hbl hka5.lt
  have hkb6 := hkb5.below hbl hkb5.lt
  have hS := held10 (w := w) ⟨hs, c0, c1, c2, c3, c4, c5, d0, d1, d2, d3⟩ hbl
  have HB6 : Kp (Below w.heap.size w w6) := ⟨Below.then HB5.out HB5.out.size hbl⟩
  clear hbl HB5 hka5 hkb5 hs c0 c1 c2 c3 c4 c5 d0 d1 d2 d3
  obtain ⟨hs, c0, c1, c2, c3, c4, c5, d0, d1, d2, d3⟩ := hS
  go_wp2_with fail
  refine (awake_any _).mono ?_
  rintro e wE ⟨rfl, hbl⟩
  have HE : Kp (Below w.heap.size w wE) := ⟨Below.then HB6.out HB6.out.size hbl⟩
  clear hbl hs c0 c1 c2 c3 c4 c5 d0 d1 d2 d3
  go_wp2_with fail
  go_ret
  exact ⟨by simp, HE.out⟩
set_option maxHeartbeats 8000000 in
theorem slw_S6 (sraw time ppb left rate steps kind raw a b later : Int) (ok : (CS.mk sraw time ppb 0 0 steps).Ok) (hr : raw ≤ 9223372036854775807) (hl : later ≤ 9223372036854775807) (h1 : (slewS (CS.mk sraw time ppb 0 0 steps) raw a b).2 = 0) (h2 : (slewS (CS.mk sraw time ppb 0 0 steps) raw 0 1).2 = 0) (oka : ((slewS (CS.mk sraw time ppb 0 0 steps) raw a b).1).Ok) (okb : ((slewS (CS.mk sraw time ppb 0 0 steps) raw 0 1).1).Ok) (h3 : ¬ later < raw) (h4 : pendF (slewS (CS.mk sraw time ppb 0 0 steps) raw a b).1 later = 0) (h5 : (nowF (slewS (CS.mk sraw time ppb 0 0 steps) raw a b).1 later).2 = 0) (h6 : (nowF (slewS (CS.mk sraw time ppb 0 0 steps) raw 0 1).1 later).2 = 0) (g1 : a - 2 ≤ (nowF (slewS (CS.mk sraw time ppb 0 0 steps) raw a b).1 later).1 - (nowF (slewS (CS.mk sraw time ppb 0 0 steps) raw 0 1).1 later).1) (g2 : (nowF (slewS (CS.mk sraw time ppb 0 0 steps) raw a b).1 later).1 - (nowF (slewS (CS.mk sraw time ppb 0 0 steps) raw 0 1).1 later).1 ≤ a + 1) (g3 : -4503599627370496 ≤ a) (g4 : a ≤ 4503599627370496) (g5 : -4503599627370496 ≤ (nowF (slewS (CS.mk sraw time ppb 0 0 steps) raw a b).1 later).1) (g6 : (nowF (slewS (CS.mk sraw time ppb 0 0 steps) raw a b).1 later).1 ≤ 4503599627370496) (g7 : -4503599627370496 ≤ (nowF (slewS (CS.mk sraw time ppb 0 0 steps) raw 0 1).1 later).1) (g8 : (nowF (slewS (CS.mk sraw time ppb 0 0 steps) raw 0 1).1 later).1 ≤ 4503599627370496) (w : World) : Calls Try.prog 6 #[.agg #[.int .i64 sraw, .int .i64 time, .int .i64 ppb, .int .i64 left, .int .i64 rate, .int .i64 steps], .agg #[.int .i64 kind, .int .i64 raw, .int .i64 a, .int .i64 b], .int .i64 later] w fun x w' => x = .returned (.bool true) ∧ Below w.heap.size w w' := by
  have o1 := fun w => of_good _ ok w
  unfold CS.vals at o1
  simp only at o1
  have sa := fun bk w hk => slew_set bk (CS.mk sraw time ppb 0 0 steps) raw a b w hk ok hr
  have sb := fun bk w hk => slew_set bk (CS.mk sraw time ppb 0 0 steps) raw 0 1 w hk ok hr
  rw [h1] at sa
  rw [h2] at sb
  obtain ⟨ra, hra⟩ : ∃ r, (slewS (CS.mk sraw time ppb 0 0 steps) raw a b).1 = r := ⟨_, rfl⟩
  obtain ⟨rb, hrb⟩ : ∃ r, (slewS (CS.mk sraw time ppb 0 0 steps) raw 0 1).1 = r := ⟨_, rfl⟩
  rw [hra] at sa oka h4 h5 g1 g2 g5 g6
  rw [hrb] at sb okb h6 g1 g2 g7 g8
  clear hra hrb h1 h2
  have pd := fun bk w hk => pending_any bk ra later w hk oka hl
  have na := fun bk w hk => now_any bk ra later w hk oka hl
  have nb := fun bk w hk => now_any bk rb later w hk okb hl
  clear ok hr hl oka okb
  have t3 : decide (later < raw) = false := by simp; omega
  clear h3
  rw [h4] at pd
  clear h4
  obtain ⟨va, hva⟩ : ∃ p, nowF ra later = p := ⟨_, rfl⟩
  obtain ⟨tv, te⟩ := va
  obtain ⟨vb, hvb⟩ : ∃ p, nowF rb later = p := ⟨_, rfl⟩
  obtain ⟨uv, ue⟩ := vb
  rw [hva] at na h5 g1 g2 g5 g6
  rw [hvb] at nb h6 g1 g2 g7 g8
  simp only at na nb h5 h6 g1 g2 g5 g6 g7 g8
  clear hva hvb
  subst h5
  subst h6
  have t7 : decide (a - 2 ≤ tv - uv) = true := by simpa using g1
  have t8 : decide (tv - uv ≤ a + 1) = true := by simpa using g2
  go_enter Try.func6, Try.ntmps6
  go_wp2_with fail
  have hS := box10 w (.int .i64 sraw) (.int .i64 time) (.int .i64 ppb) (.int .i64 0) (.int .i64 0) (.int .i64 steps) (.int .i64 kind) (.int .i64 raw) (.int .i64 a) (.int .i64 b) 23 35
  have HX := below_alloc2 w (.cells #[.int .i64 sraw, .int .i64 time, .int .i64 ppb, .int .i64 0, .int .i64 0, .int .i64 steps] 23) (.cells #[.int .i64 kind, .int .i64 raw, .int .i64 a, .int .i64 b] 35)
  obtain ⟨wX, hX⟩ : ∃ W, W = (w.alloc (.cells #[.int .i64 sraw, .int .i64 time, .int .i64 ppb, .int .i64 0, .int .i64 0, .int .i64 steps] 23)).alloc (.cells #[.int .i64 kind, .int .i64 raw, .int .i64 a, .int .i64 b] 35) := ⟨_, rfl⟩
  rw [← hX] at hS HX ⊢
  have hXs : wX.heap.size = w.heap.size + 2 := by rw [hX]; simp
  clear hX
  have HXS := Kp.mk hXs
  clear hXs
  have HB := Kp.mk HX
  clear HX
  obtain ⟨hs, c0, c1, c2, c3, c4, c5, d0, d1, d2, d3⟩ := hS
  have tok1 : True := trivial
  go_region_held3 (fun w' => w.heap.size + 1 < w'.heap.size ∧ w'.cell? ⟨w.heap.size, 0, none⟩ = some (.int .i64 sraw) ∧ w'.cell? ⟨w.heap.size, 1, none⟩ = some (.int .i64 time) ∧ w'.cell? ⟨w.heap.size, 2, none⟩ = some (.int .i64 ppb) ∧ w'.cell? ⟨w.heap.size, 3, none⟩ = some (.int .i64 0) ∧ w'.cell? ⟨w.heap.size, 4, none⟩ = some (.int .i64 0) ∧ w'.cell? ⟨w.heap.size, 5, none⟩ = some (.int .i64 steps) ∧ w'.cell? ⟨w.heap.size + 1, 0, none⟩ = some (.int .i64 kind) ∧ w'.cell? ⟨w.heap.size + 1, 1, none⟩ = some (.int .i64 raw) ∧ w'.cell? ⟨w.heap.size + 1, 2, none⟩ = some (.int .i64 a) ∧ w'.cell? ⟨w.heap.size + 1, 3, none⟩ = some (.int .i64 b)) (first | exact held10 (by assumption) hbl2 | exact held10 (by assumption) hbl1 | go_keep)
    (first | (go_at_call 10; have _t := tok1; refine (o1 _).mono ?_; rintro e wA ⟨ba, rfl, hba, hka, hbl1⟩; clear tok1) | (go_at_call 10; refine (o1 _).mono ?_; rintro e wB ⟨bb, rfl, hbb, hkb, hbl2⟩))
  have hS := held10 (w := w) ⟨hs, c0, c1, c2, c3, c4, c5, d0, d1, d2, d3⟩ (chain3r (Below.refl _ wX) hbl1 hbl2)
  have HB1 : Kp (Below w.heap.size w wB) := ⟨chain3r HB.out hbl1 hbl2⟩
  have HNE : Kp (bb ≠ ba ∧ w.heap.size + 2 ≤ ba ∧ w.heap.size + 2 ≤ bb) := ⟨by have := hka.lt; omega, by have := HXS.out; simp at hba; omega, by have := HXS.out; have := hbl1.size; simp at this; omega⟩
  have hka2 := hka.below hbl2 hka.lt
  clear hbl1 hbl2 HB hs c0 c1 c2 c3 c4 c5 d0 d1 d2 d3 hka hba hbb
  obtain ⟨hs, c0, c1, c2, c3, c4, c5, d0, d1, d2, d3⟩ := hS
  go_wp2_with fail
  refine (sa _ _ hka2).mono ?_
  rintro e w2 ⟨rfl, hk, ho⟩
  have hkb2 := ho.clk hkb HNE.out.1
  have hS := held10o (w := w) ⟨hs, c0, c1, c2, c3, c4, c5, d0, d1, d2, d3⟩ ho HNE.out.2.1
  have HB2 : Kp (Below w.heap.size w w2) := ⟨chainO HB1.out ho (by have := HNE.out; omega)⟩
  clear ho HB1 hka2 hkb hs c0 c1 c2 c3 c4 c5 d0 d1 d2 d3
  obtain ⟨hs, c0, c1, c2, c3, c4, c5, d0, d1, d2, d3⟩ := hS
  go_wp2_with fail
  refine (sb _ _ hkb2).mono ?_
  rintro e w3 ⟨rfl, hkb, ho⟩
  have hka := ho.clk hk (Ne.symm HNE.out.1)
  have hS := held10o (w := w) ⟨hs, c0, c1, c2, c3, c4, c5, d0, d1, d2, d3⟩ ho HNE.out.2.2
  have HB3 : Kp (Below w.heap.size w w3) := ⟨chainO HB2.out ho (by have := HNE.out; omega)⟩
  clear ho HB2 hk hkb2 hs c0 c1 c2 c3 c4 c5 d0 d1 d2 d3
  obtain ⟨hs, c0, c1, c2, c3, c4, c5, d0, d1, d2, d3⟩ := hS
  go_wp2_with fail
  refine (pd _ _ hka).mono ?_
  rintro e w4 ⟨rfl, hbl⟩
  have hka4 := hka.below hbl hka.lt
  have hkb4 := hkb.below hbl hkb.lt
  have hS := held10 (w := w) ⟨hs, c0, c1, c2, c3, c4, c5, d0, d1, d2, d3⟩ hbl
  have HB4 : Kp (Below w.heap.size w w4) := ⟨Below.then HB3.out HB3.out.size hbl⟩
  clear hbl HB3 hka hkb hs c0 c1 c2 c3 c4 c5 d0 d1 d2 d3
  obtain ⟨hs, c0, c1, c2, c3, c4, c5, d0, d1, d2, d3⟩ := hS
  go_wp2_with fail
  refine (na _ _ hka4).mono ?_
  rintro e w5 ⟨rfl, hbl⟩
  have hka5 := hka4.below hbl hka4.lt
  have hkb5 := hkb4.below hbl hkb4.lt
  have hS := held10 (w := w) ⟨hs, c0, c1, c2, c3, c4, c5, d0, d1, d2, d3⟩ hbl
  have HB5 : Kp (Below w.heap.size w w5) := ⟨Below.then HB4.out HB4.out.size hbl⟩
  clear hbl HB4 hka4 hkb4 hs c0 c1 c2 c3 c4 c5 d0 d1 d2 d3
  obtain ⟨hs, c0, c1, c2, c3, c4, c5, d0, d1, d2, d3⟩ := hS
  go_wp2_with fail
  refine (nb _ _ hkb5).mono ?_
  rintro e w6 ⟨rfl, hbl⟩
  have hka6 := hka5.below hbl hka5.lt
  have hkb6 := hkb5.below hbl hkb5.lt
  have hS := held10 (w := w) ⟨hs, c0, c1, c2, c3, c4, c5, d0, d1, d2, d3⟩ hbl
  have HB6 : Kp (Below w.heap.size w w6) := ⟨Below.then HB5.out HB5.out.size hbl⟩
  clear hbl HB5 hka5 hkb5 hs c0 c1 c2 c3 c4 c5 d0 d1 d2 d3
  obtain ⟨hs, c0, c1, c2, c3, c4, c5, d0, d1, d2, d3⟩ := hS
  go_wp2_with fail
  refine (awake_any _).mono ?_
  rintro e wE ⟨rfl, hbl⟩
  have HE : Kp (Below w.heap.size w wE) := ⟨Below.then HB6.out HB6.out.size hbl⟩
  clear hbl hs c0 c1 c2 c3 c4 c5 d0 d1 d2 d3
  go_wp2_with fail
  go_ret
  exact ⟨by simp, HE.out⟩
theorem slewS_ok {s : CS} (ok : s.Ok) {raw delta rate : Int} (h : (slewS s raw delta rate).2 = 0) : slewOk delta rate ∧ (∃ t, nowF s raw = (t, 0)) ∧ (slewS s raw delta rate).1 = { movedF s raw with left := delta, rate := if delta = 0 then 0 else rate } := by
  unfold slewS at *
  split at h
  · rename_i hs
    split at h
    · rename_i hn
      exact ⟨hs, ⟨(nowF s raw).1, by rw [← hn]⟩, by rw [if_pos hs, if_pos hn]⟩
    · rename_i hn; exact absurd h hn
  · simp at h
theorem moved_ok {s : CS} (ok : s.Ok) {raw t : Int} (hn : nowF s raw = (t, 0)) {delta rate : Int} (hd : slewOk delta rate) : ({ movedF s raw with left := delta, rate := if delta = 0 then 0 else rate } : CS).Ok := by
  obtain ⟨em, hm1, hm2⟩ := moved_time hn
  obtain ⟨r1, r2, _, _, _⟩ := nowF_is hn
  obtain ⟨d1, d2, e1, e2⟩ := hd
  have := ok.raw1
  refine ⟨?_, r2, by rw [em]; exact hm1, by rw [em]; exact hm2, d1, d2, ok.ppb1, ok.ppb2, ?_, ?_, ?_, ok.steps1, ok.steps2⟩
  · show -4503599627370496 ≤ raw; omega
  · show 0 ≤ (if delta = 0 then 0 else rate); split <;> omega
  · show (if delta = 0 then 0 else rate) ≤ 500000; split <;> omega
  · intro h; show 0 < (if delta = 0 then 0 else rate); rw [if_neg h]; omega
theorem slews_walk (sraw time ppb left rate steps kind raw a b later : Int) (_ : I64 sraw) (_ : I64 time) (_ : I64 ppb) (_ : I64 left) (_ : I64 rate) (hs : I64 steps) (_ : I64 kind) (hr : I64 raw) (_ : I64 a) (_ : I64 b) (hl : I64 later) (w : World) : Calls Try.prog 6 #[.agg #[.int .i64 sraw, .int .i64 time, .int .i64 ppb, .int .i64 left, .int .i64 rate, .int .i64 steps], .agg #[.int .i64 kind, .int .i64 raw, .int .i64 a, .int .i64 b], .int .i64 later] w fun x w' => x = .returned (.bool true) ∧ Below w.heap.size w w' := by
  by_cases ok : (CS.mk sraw time ppb 0 0 steps).Ok
  · by_cases h1 : (slewS (CS.mk sraw time ppb 0 0 steps) raw a b).2 = 0
    · obtain ⟨so, ⟨t0, hn⟩, ea⟩ := slewS_ok ok h1
      have hs0 : slewOk 0 1 := ⟨by omega, by omega, by omega, by omega⟩
      have h2 : (slewS (CS.mk sraw time ppb 0 0 steps) raw 0 1).2 = 0 := by unfold slewS; rw [if_pos hs0, hn]; rfl
      obtain ⟨_, _, eb⟩ := slewS_ok ok h2
      have oka : ((slewS (CS.mk sraw time ppb 0 0 steps) raw a b).1).Ok := by rw [ea]; exact moved_ok ok hn so
      have okb : ((slewS (CS.mk sraw time ppb 0 0 steps) raw 0 1).1).Ok := by rw [eb]; exact moved_ok ok hn hs0
      by_cases h3 : later < raw
      · exact slw_S2 sraw time ppb left rate steps kind raw a b later ok hr.2 hl.2 h1 h2 oka okb h3 w
      · by_cases h4 : pendF (slewS (CS.mk sraw time ppb 0 0 steps) raw a b).1 later = 0
        · by_cases h5 : (nowF (slewS (CS.mk sraw time ppb 0 0 steps) raw a b).1 later).2 = 0
          · by_cases h6 : (nowF (slewS (CS.mk sraw time ppb 0 0 steps) raw 0 1).1 later).2 = 0
            · have q1 : nowF (slewS (CS.mk sraw time ppb 0 0 steps) raw a b).1 later = ((nowF (slewS (CS.mk sraw time ppb 0 0 steps) raw a b).1 later).1, 0) := Prod.ext rfl h5
              have q2 : nowF (slewS (CS.mk sraw time ppb 0 0 steps) raw 0 1).1 later = ((nowF (slewS (CS.mk sraw time ppb 0 0 steps) raw 0 1).1 later).1, 0) := Prod.ext rfl h6
              obtain ⟨_, _, _, u1, u2⟩ := nowF_is q1
              obtain ⟨_, _, _, u3, u4⟩ := nowF_is q2
              have eb' : (slewS (CS.mk sraw time ppb 0 0 steps) raw 0 1).1 = { movedF (CS.mk sraw time ppb 0 0 steps) raw with left := 0, rate := 0 } := by rw [eb]; simp
              have hlaw := slews_law { movedF (CS.mk sraw time ppb 0 0 steps) raw with left := 0, rate := 0 } (by have := moved_ok ok hn hs0; simpa using this) a b later _ _ so.1 so.2.1 so.2.2.1 so.2.2.2 ((congrArg (fun z => pendF z later) ea).symm.trans h4) ((congrArg (fun z => nowF z later) ea).symm.trans q1) ((congrArg (fun z => nowF z later) eb').symm.trans q2)
              exact slw_S6 sraw time ppb left rate steps kind raw a b later ok hr.2 hl.2 h1 h2 oka okb h3 h4 h5 h6 hlaw.1 hlaw.2 so.1 so.2.1 u1 u2 u3 u4 w
            · exact slw_S5 sraw time ppb left rate steps kind raw a b later ok hr.2 hl.2 h1 h2 oka okb h3 h4 h5 h6 w
          · exact slw_S4 sraw time ppb left rate steps kind raw a b later ok hr.2 hl.2 h1 h2 oka okb h3 h4 h5 w
        · exact slw_S3 sraw time ppb left rate steps kind raw a b later ok hr.2 hl.2 h1 h2 oka okb h3 h4 w
    · exact slw_S1 sraw time ppb left rate steps kind raw a b later ok hr.2 hl.2 h1 w
  · exact slw_nil sraw time ppb left rate steps kind raw a b later ok hs.2 w
end Go.Proofs.Ytnfkffaogidleaa
