/-
  The walk of SysclockRefuses: whatever the state and the call, it returns true, and what was there is as it was.
-/
import Derived.Test.YtnfkffaogidleaaCall10
import Derived.Deep.RegionHeld3
set_option linter.unusedSimpArgs false
set_option linter.unusedVariables false
namespace Go.Proofs.Ytnfkffaogidleaa
open Go.RowKit
theorem held10 {w W w1 : World} {v0 v1 v2 v3 v4 v5 u0 u1 u2 u3 : Value} (h : w.heap.size + 1 < W.heap.size ∧ W.cell? ⟨w.heap.size, 0, none⟩ = some v0 ∧ W.cell? ⟨w.heap.size, 1, none⟩ = some v1 ∧ W.cell? ⟨w.heap.size, 2, none⟩ = some v2 ∧ W.cell? ⟨w.heap.size, 3, none⟩ = some v3 ∧ W.cell? ⟨w.heap.size, 4, none⟩ = some v4 ∧ W.cell? ⟨w.heap.size, 5, none⟩ = some v5 ∧ W.cell? ⟨w.heap.size + 1, 0, none⟩ = some u0 ∧ W.cell? ⟨w.heap.size + 1, 1, none⟩ = some u1 ∧ W.cell? ⟨w.heap.size + 1, 2, none⟩ = some u2 ∧ W.cell? ⟨w.heap.size + 1, 3, none⟩ = some u3) (hb : Below W.heap.size W w1) : w.heap.size + 1 < w1.heap.size ∧ w1.cell? ⟨w.heap.size, 0, none⟩ = some v0 ∧ w1.cell? ⟨w.heap.size, 1, none⟩ = some v1 ∧ w1.cell? ⟨w.heap.size, 2, none⟩ = some v2 ∧ w1.cell? ⟨w.heap.size, 3, none⟩ = some v3 ∧ w1.cell? ⟨w.heap.size, 4, none⟩ = some v4 ∧ w1.cell? ⟨w.heap.size, 5, none⟩ = some v5 ∧ w1.cell? ⟨w.heap.size + 1, 0, none⟩ = some u0 ∧ w1.cell? ⟨w.heap.size + 1, 1, none⟩ = some u1 ∧ w1.cell? ⟨w.heap.size + 1, 2, none⟩ = some u2 ∧ w1.cell? ⟨w.heap.size + 1, 3, none⟩ = some u3 := by
  obtain ⟨hs, c0, c1, c2, c3, c4, c5, d0, d1, d2, d3⟩ := h
  have hs0 : w.heap.size < W.heap.size := by omega
  exact ⟨Nat.lt_of_lt_of_le hs hb.size, (hb.cell hs0).trans c0, (hb.cell hs0).trans c1, (hb.cell hs0).trans c2, (hb.cell hs0).trans c3, (hb.cell hs0).trans c4, (hb.cell hs0).trans c5, (hb.cell hs).trans d0, (hb.cell hs).trans d1, (hb.cell hs).trans d2, (hb.cell hs).trans d3⟩
theorem held10o {w W w1 : World} {k : Nat} {v0 v1 v2 v3 v4 v5 u0 u1 u2 u3 : Value} (h : w.heap.size + 1 < W.heap.size ∧ W.cell? ⟨w.heap.size, 0, none⟩ = some v0 ∧ W.cell? ⟨w.heap.size, 1, none⟩ = some v1 ∧ W.cell? ⟨w.heap.size, 2, none⟩ = some v2 ∧ W.cell? ⟨w.heap.size, 3, none⟩ = some v3 ∧ W.cell? ⟨w.heap.size, 4, none⟩ = some v4 ∧ W.cell? ⟨w.heap.size, 5, none⟩ = some v5 ∧ W.cell? ⟨w.heap.size + 1, 0, none⟩ = some u0 ∧ W.cell? ⟨w.heap.size + 1, 1, none⟩ = some u1 ∧ W.cell? ⟨w.heap.size + 1, 2, none⟩ = some u2 ∧ W.cell? ⟨w.heap.size + 1, 3, none⟩ = some u3) (hb : Oth k W w1) (hk : w.heap.size + 2 ≤ k) : w.heap.size + 1 < w1.heap.size ∧ w1.cell? ⟨w.heap.size, 0, none⟩ = some v0 ∧ w1.cell? ⟨w.heap.size, 1, none⟩ = some v1 ∧ w1.cell? ⟨w.heap.size, 2, none⟩ = some v2 ∧ w1.cell? ⟨w.heap.size, 3, none⟩ = some v3 ∧ w1.cell? ⟨w.heap.size, 4, none⟩ = some v4 ∧ w1.cell? ⟨w.heap.size, 5, none⟩ = some v5 ∧ w1.cell? ⟨w.heap.size + 1, 0, none⟩ = some u0 ∧ w1.cell? ⟨w.heap.size + 1, 1, none⟩ = some u1 ∧ w1.cell? ⟨w.heap.size + 1, 2, none⟩ = some u2 ∧ w1.cell? ⟨w.heap.size + 1, 3, none⟩ = some u3 := by
  obtain ⟨hs, c0, c1, c2, c3, c4, c5, d0, d1, d2, d3⟩ := h
  have hs0 : w.heap.size < W.heap.size := by omega
  have n0 : w.heap.size ≠ k := by omega
  have n1 : w.heap.size + 1 ≠ k := by omega
  exact ⟨Nat.lt_of_lt_of_le hs hb.size, (hb.cell hs0 n0).trans c0, (hb.cell hs0 n0).trans c1, (hb.cell hs0 n0).trans c2, (hb.cell hs0 n0).trans c3, (hb.cell hs0 n0).trans c4, (hb.cell hs0 n0).trans c5, (hb.cell hs n1).trans d0, (hb.cell hs n1).trans d1, (hb.cell hs n1).trans d2, (hb.cell hs n1).trans d3⟩
theorem box10 (w : World) (v0 v1 v2 v3 v4 v5 u0 u1 u2 u3 : Value) (t t' : TypeId) : w.heap.size + 1 < ((w.alloc (.cells #[v0, v1, v2, v3, v4, v5] t)).alloc (.cells #[u0, u1, u2, u3] t')).heap.size ∧ ((w.alloc (.cells #[v0, v1, v2, v3, v4, v5] t)).alloc (.cells #[u0, u1, u2, u3] t')).cell? ⟨w.heap.size, 0, none⟩ = some v0 ∧ ((w.alloc (.cells #[v0, v1, v2, v3, v4, v5] t)).alloc (.cells #[u0, u1, u2, u3] t')).cell? ⟨w.heap.size, 1, none⟩ = some v1 ∧ ((w.alloc (.cells #[v0, v1, v2, v3, v4, v5] t)).alloc (.cells #[u0, u1, u2, u3] t')).cell? ⟨w.heap.size, 2, none⟩ = some v2 ∧ ((w.alloc (.cells #[v0, v1, v2, v3, v4, v5] t)).alloc (.cells #[u0, u1, u2, u3] t')).cell? ⟨w.heap.size, 3, none⟩ = some v3 ∧ ((w.alloc (.cells #[v0, v1, v2, v3, v4, v5] t)).alloc (.cells #[u0, u1, u2, u3] t')).cell? ⟨w.heap.size, 4, none⟩ = some v4 ∧ ((w.alloc (.cells #[v0, v1, v2, v3, v4, v5] t)).alloc (.cells #[u0, u1, u2, u3] t')).cell? ⟨w.heap.size, 5, none⟩ = some v5 ∧ ((w.alloc (.cells #[v0, v1, v2, v3, v4, v5] t)).alloc (.cells #[u0, u1, u2, u3] t')).cell? ⟨w.heap.size + 1, 0, none⟩ = some u0 ∧ ((w.alloc (.cells #[v0, v1, v2, v3, v4, v5] t)).alloc (.cells #[u0, u1, u2, u3] t')).cell? ⟨w.heap.size + 1, 1, none⟩ = some u1 ∧ ((w.alloc (.cells #[v0, v1, v2, v3, v4, v5] t)).alloc (.cells #[u0, u1, u2, u3] t')).cell? ⟨w.heap.size + 1, 2, none⟩ = some u2 ∧ ((w.alloc (.cells #[v0, v1, v2, v3, v4, v5] t)).alloc (.cells #[u0, u1, u2, u3] t')).cell? ⟨w.heap.size + 1, 3, none⟩ = some u3 := by
  refine ⟨by simp, ?_, ?_, ?_, ?_, ?_, ?_, ?_, ?_, ?_, ?_⟩
  all_goals first | (rw [World.cell?_alloc_at _ _ _ _ (by simp)]; rfl) | (rw [World.cell?_alloc_past _ _ _ (by simp), World.cell?_alloc_at _ _ _ _ rfl]; rfl)
theorem chainO {w X A : World} {k : Nat} (h : Below w.heap.size w X) (h1 : Oth k X A) (hk : w.heap.size ≤ k) : Below w.heap.size w A := h.trans (h1.below hk h.size)
theorem chain2r {w X A : World} (h : Below w.heap.size w X) (h1 : Below X.drew.heap.size X.drew A) : Below w.heap.size w A := Below.then h.drew h.size h1
theorem chain3r {w X A B : World} (h : Below w.heap.size w X) (h1 : Below X.drew.heap.size X.drew A) (h2 : Below A.heap.size A B) : Below w.heap.size w B :=
  Below.then (chain2r h h1) (Nat.le_trans h.size (Nat.le_trans (Nat.le_refl _) h1.size)) h2
theorem nowF_order {s : CS} {raw : Int} (h : raw < s.raw) : (nowF s raw).2 = 12 := by unfold nowF; rw [if_pos h]
theorem nowF_far {s : CS} {raw : Int} (h : ¬ raw < s.raw) (h2 : 4503599627370496 < raw) : (nowF s raw).2 = 3 := by unfold nowF; rw [if_neg h, if_pos h2]
set_option maxHeartbeats 8000000 in
theorem ref_GL (sraw time ppb left rate steps kind raw a b : Int) (ok : (CS.mk sraw time ppb left rate steps).Ok) (hr : raw ≤ 9223372036854775807) (k0 : 0 ≤ kind) (k3 : kind ≤ 3) (he : (callF (CS.mk sraw time ppb left rate steps) kind raw a b).2.2 ≠ 0) (hlt : raw < sraw) (w : World) : Calls Try.prog 8 #[.agg #[.int .i64 sraw, .int .i64 time, .int .i64 ppb, .int .i64 left, .int .i64 rate, .int .i64 steps], .agg #[.int .i64 kind, .int .i64 raw, .int .i64 a, .int .i64 b]] w fun x w' => x = .returned (.bool true) ∧ Below w.heap.size w w' := by
  have o1 := fun w => of_good _ ok w
  unfold CS.vals at o1
  simp only at o1
  have ca := fun bk w hk => call_any bk (CS.mk sraw time ppb left rate steps) kind raw a b w hk ok hr
  have nw := fun bk w hk => now_any bk (CS.mk sraw time ppb left rate steps) raw w hk ok hr
  obtain ⟨kp1, kp2⟩ := callF_keeps k0 k3 he
  have tk0 : decide (0 ≤ kind) = true := by simpa using k0
  have tk3 : decide (kind ≤ 3) = true := by simpa using k3
  obtain ⟨r, hrr⟩ : ∃ r, callF (CS.mk sraw time ppb left rate steps) kind raw a b = r := ⟨_, rfl⟩
  obtain ⟨rs, rn, re⟩ := r
  rw [hrr] at ca kp1 kp2 he
  simp only at ca kp1 kp2 he
  subst kp1 kp2
  have te : (re != 0) = true := by simpa using he
  have te2 : (re == 0) = false := by simpa using he
  clear he
  obtain ⟨f, hf⟩ : ∃ f, (nowF (CS.mk sraw time ppb left rate steps) raw).2 = f := ⟨_, rfl⟩
  rw [hf] at nw
  have f12 : f = 12 := by rw [← hf]; exact nowF_order hlt
  subst f12
  have tl : decide (raw < sraw) = true := by simpa using hlt
  have HF := Kp.mk hf
  clear hrr hf ok hr
  go_enter Try.func8, Try.ntmps8
  go_wp2_with fail
  have hS := box10 w (.int .i64 sraw) (.int .i64 time) (.int .i64 ppb) (.int .i64 left) (.int .i64 rate) (.int .i64 steps) (.int .i64 kind) (.int .i64 raw) (.int .i64 a) (.int .i64 b) 23 35
  have HX := below_alloc2 w (.cells #[.int .i64 sraw, .int .i64 time, .int .i64 ppb, .int .i64 left, .int .i64 rate, .int .i64 steps] 23) (.cells #[.int .i64 kind, .int .i64 raw, .int .i64 a, .int .i64 b] 35)
  refine (o1 _).mono ?_
  rintro e w1 ⟨bk, rfl, hbk, hk, hbl⟩
  have hS1 := held10 hS hbl
  have HB1 : Kp (Below w.heap.size w w1) := ⟨Below.then HX HX.size hbl⟩
  have hbk2 : w.heap.size + 2 ≤ bk := by simpa using hbk
  clear hS HX hbl hbk
  obtain ⟨hs, c0, c1, c2, c3, c4, c5, d0, d1, d2, d3⟩ := hS1
  have HK2 := Kp.mk hbk2
  clear hbk2
  go_wp2_with fail
  refine (ca _ _ hk).mono ?_
  rintro e w2 ⟨rfl, hk2, ho⟩
  have hS2 := held10o (w := w) ⟨hs, c0, c1, c2, c3, c4, c5, d0, d1, d2, d3⟩ ho HK2.out
  have HB2 : Kp (Below w.heap.size w w2) := ⟨chainO HB1.out ho (by have := HK2.out; omega)⟩
  clear hk ho HB1 hs c0 c1 c2 c3 c4 c5 d0 d1 d2 d3
  obtain ⟨hs, c0, c1, c2, c3, c4, c5, d0, d1, d2, d3⟩ := hS2
  have hst := state_any _ _ _ (hk2.below (Below.refl w2.heap.size w2).drew hk2.lt)
  unfold StatePost CS.vals at hst
  simp only at hst
  clear hk2
  go_wp2_with fail
  go_region_held3 (fun w' => w.heap.size + 1 < w'.heap.size ∧ w'.cell? ⟨w.heap.size, 0, none⟩ = some (.int .i64 sraw) ∧ w'.cell? ⟨w.heap.size, 1, none⟩ = some (.int .i64 time) ∧ w'.cell? ⟨w.heap.size, 2, none⟩ = some (.int .i64 ppb) ∧ w'.cell? ⟨w.heap.size, 3, none⟩ = some (.int .i64 left) ∧ w'.cell? ⟨w.heap.size, 4, none⟩ = some (.int .i64 rate) ∧ w'.cell? ⟨w.heap.size, 5, none⟩ = some (.int .i64 steps) ∧ w'.cell? ⟨w.heap.size + 1, 0, none⟩ = some (.int .i64 kind) ∧ w'.cell? ⟨w.heap.size + 1, 1, none⟩ = some (.int .i64 raw) ∧ w'.cell? ⟨w.heap.size + 1, 2, none⟩ = some (.int .i64 a) ∧ w'.cell? ⟨w.heap.size + 1, 3, none⟩ = some (.int .i64 b)) (first | exact held10 (by assumption) hbl | go_keep)
    (first | (go_at_call 12; refine hst.mono ?_; rintro e w3 ⟨rfl, hbl⟩))
  have hS := held10 (w := w) ⟨hs, c0, c1, c2, c3, c4, c5, d0, d1, d2, d3⟩ (chain2r (Below.refl _ w2) hbl)
  have HB3 : Kp (Below w.heap.size w w3) := ⟨chain2r HB2.out hbl⟩
  clear hbl hst HB2 hs c0 c1 c2 c3 c4 c5 d0 d1 d2 d3
  obtain ⟨hs, c0, c1, c2, c3, c4, c5, d0, d1, d2, d3⟩ := hS
  go_wp2_with fail
  go_region_held3 (fun w' => w.heap.size + 1 < w'.heap.size ∧ w'.cell? ⟨w.heap.size, 0, none⟩ = some (.int .i64 sraw) ∧ w'.cell? ⟨w.heap.size, 1, none⟩ = some (.int .i64 time) ∧ w'.cell? ⟨w.heap.size, 2, none⟩ = some (.int .i64 ppb) ∧ w'.cell? ⟨w.heap.size, 3, none⟩ = some (.int .i64 left) ∧ w'.cell? ⟨w.heap.size, 4, none⟩ = some (.int .i64 rate) ∧ w'.cell? ⟨w.heap.size, 5, none⟩ = some (.int .i64 steps) ∧ w'.cell? ⟨w.heap.size + 1, 0, none⟩ = some (.int .i64 kind) ∧ w'.cell? ⟨w.heap.size + 1, 1, none⟩ = some (.int .i64 raw) ∧ w'.cell? ⟨w.heap.size + 1, 2, none⟩ = some (.int .i64 a) ∧ w'.cell? ⟨w.heap.size + 1, 3, none⟩ = some (.int .i64 b)) (first | exact held10 (by assumption) hbl2 | exact held10 (by assumption) hbl1 | go_keep)
    (first | (go_at_call 10; refine (o1 _).mono ?_; rintro e w4 ⟨bk2, rfl, hb, hk, hbl1⟩) | (go_at_call 16; refine (nw _ _ hk).mono ?_; rintro e w5 ⟨rfl, hbl2⟩))
  have hS := held10 (w := w) ⟨hs, c0, c1, c2, c3, c4, c5, d0, d1, d2, d3⟩ (chain3r (Below.refl _ w3) hbl1 hbl2)
  have HB4 : Kp (Below w.heap.size w w5) := ⟨chain3r HB3.out hbl1 hbl2⟩
  clear hbl1 hbl2 hk hb HB3 hs c0 c1 c2 c3 c4 c5 d0 d1 d2 d3
  obtain ⟨hs, c0, c1, c2, c3, c4, c5, d0, d1, d2, d3⟩ := hS
  go_wp2_with fail
  refine (awake_any _).mono ?_
  rintro e wE ⟨rfl, hbl⟩
  have HE : Kp (Below w.heap.size w wE) := ⟨Below.then HB4.out HB4.out.size hbl⟩
  clear hbl hs c0 c1 c2 c3 c4 c5 d0 d1 d2 d3
  go_wp2_with fail
  go_ret
  exact ⟨by simp, HE.out⟩
set_option maxHeartbeats 8000000 in
theorem ref_GM (sraw time ppb left rate steps kind raw a b : Int) (ok : (CS.mk sraw time ppb left rate steps).Ok) (hr : raw ≤ 9223372036854775807) (k0 : 0 ≤ kind) (k3 : kind ≤ 3) (he : (callF (CS.mk sraw time ppb left rate steps) kind raw a b).2.2 ≠ 0) (hlt : ¬ raw < sraw) (hle : raw ≤ 4503599627370496) (w : World) : Calls Try.prog 8 #[.agg #[.int .i64 sraw, .int .i64 time, .int .i64 ppb, .int .i64 left, .int .i64 rate, .int .i64 steps], .agg #[.int .i64 kind, .int .i64 raw, .int .i64 a, .int .i64 b]] w fun x w' => x = .returned (.bool true) ∧ Below w.heap.size w w' := by
  have o1 := fun w => of_good _ ok w
  unfold CS.vals at o1
  simp only at o1
  have ca := fun bk w hk => call_any bk (CS.mk sraw time ppb left rate steps) kind raw a b w hk ok hr
  have nw := fun bk w hk => now_any bk (CS.mk sraw time ppb left rate steps) raw w hk ok hr
  obtain ⟨kp1, kp2⟩ := callF_keeps k0 k3 he
  have tk0 : decide (0 ≤ kind) = true := by simpa using k0
  have tk3 : decide (kind ≤ 3) = true := by simpa using k3
  obtain ⟨r, hrr⟩ : ∃ r, callF (CS.mk sraw time ppb left rate steps) kind raw a b = r := ⟨_, rfl⟩
  obtain ⟨rs, rn, re⟩ := r
  rw [hrr] at ca kp1 kp2 he
  simp only at ca kp1 kp2 he
  subst kp1 kp2
  have te : (re != 0) = true := by simpa using he
  have te2 : (re == 0) = false := by simpa using he
  clear he
  obtain ⟨f, hf⟩ : ∃ f, (nowF (CS.mk sraw time ppb left rate steps) raw).2 = f := ⟨_, rfl⟩
  rw [hf] at nw
  have tl : decide (raw < sraw) = false := by simp; omega
  have tm : decide (raw ≤ 4503599627370496) = true := by simpa using hle
  have HF := Kp.mk hf
  clear hrr hf ok hr
  go_enter Try.func8, Try.ntmps8
  go_wp2_with fail
  have hS := box10 w (.int .i64 sraw) (.int .i64 time) (.int .i64 ppb) (.int .i64 left) (.int .i64 rate) (.int .i64 steps) (.int .i64 kind) (.int .i64 raw) (.int .i64 a) (.int .i64 b) 23 35
  have HX := below_alloc2 w (.cells #[.int .i64 sraw, .int .i64 time, .int .i64 ppb, .int .i64 left, .int .i64 rate, .int .i64 steps] 23) (.cells #[.int .i64 kind, .int .i64 raw, .int .i64 a, .int .i64 b] 35)
  refine (o1 _).mono ?_
  rintro e w1 ⟨bk, rfl, hbk, hk, hbl⟩
  have hS1 := held10 hS hbl
  have HB1 : Kp (Below w.heap.size w w1) := ⟨Below.then HX HX.size hbl⟩
  have hbk2 : w.heap.size + 2 ≤ bk := by simpa using hbk
  clear hS HX hbl hbk
  obtain ⟨hs, c0, c1, c2, c3, c4, c5, d0, d1, d2, d3⟩ := hS1
  have HK2 := Kp.mk hbk2
  clear hbk2
  go_wp2_with fail
  refine (ca _ _ hk).mono ?_
  rintro e w2 ⟨rfl, hk2, ho⟩
  have hS2 := held10o (w := w) ⟨hs, c0, c1, c2, c3, c4, c5, d0, d1, d2, d3⟩ ho HK2.out
  have HB2 : Kp (Below w.heap.size w w2) := ⟨chainO HB1.out ho (by have := HK2.out; omega)⟩
  clear hk ho HB1 hs c0 c1 c2 c3 c4 c5 d0 d1 d2 d3
  obtain ⟨hs, c0, c1, c2, c3, c4, c5, d0, d1, d2, d3⟩ := hS2
  have hst := state_any _ _ _ (hk2.below (Below.refl w2.heap.size w2).drew hk2.lt)
  unfold StatePost CS.vals at hst
  simp only at hst
  clear hk2
  go_wp2_with fail
  go_region_held3 (fun w' => w.heap.size + 1 < w'.heap.size ∧ w'.cell? ⟨w.heap.size, 0, none⟩ = some (.int .i64 sraw) ∧ w'.cell? ⟨w.heap.size, 1, none⟩ = some (.int .i64 time) ∧ w'.cell? ⟨w.heap.size, 2, none⟩ = some (.int .i64 ppb) ∧ w'.cell? ⟨w.heap.size, 3, none⟩ = some (.int .i64 left) ∧ w'.cell? ⟨w.heap.size, 4, none⟩ = some (.int .i64 rate) ∧ w'.cell? ⟨w.heap.size, 5, none⟩ = some (.int .i64 steps) ∧ w'.cell? ⟨w.heap.size + 1, 0, none⟩ = some (.int .i64 kind) ∧ w'.cell? ⟨w.heap.size + 1, 1, none⟩ = some (.int .i64 raw) ∧ w'.cell? ⟨w.heap.size + 1, 2, none⟩ = some (.int .i64 a) ∧ w'.cell? ⟨w.heap.size + 1, 3, none⟩ = some (.int .i64 b)) (first | exact held10 (by assumption) hbl | go_keep)
    (first | (go_at_call 12; refine hst.mono ?_; rintro e w3 ⟨rfl, hbl⟩))
  have hS := held10 (w := w) ⟨hs, c0, c1, c2, c3, c4, c5, d0, d1, d2, d3⟩ (chain2r (Below.refl _ w2) hbl)
  have HB3 : Kp (Below w.heap.size w w3) := ⟨chain2r HB2.out hbl⟩
  clear hbl hst HB2 hs c0 c1 c2 c3 c4 c5 d0 d1 d2 d3
  obtain ⟨hs, c0, c1, c2, c3, c4, c5, d0, d1, d2, d3⟩ := hS
  go_wp2_with fail
  go_region_held3 (fun w' => w.heap.size + 1 < w'.heap.size ∧ w'.cell? ⟨w.heap.size, 0, none⟩ = some (.int .i64 sraw) ∧ w'.cell? ⟨w.heap.size, 1, none⟩ = some (.int .i64 time) ∧ w'.cell? ⟨w.heap.size, 2, none⟩ = some (.int .i64 ppb) ∧ w'.cell? ⟨w.heap.size, 3, none⟩ = some (.int .i64 left) ∧ w'.cell? ⟨w.heap.size, 4, none⟩ = some (.int .i64 rate) ∧ w'.cell? ⟨w.heap.size, 5, none⟩ = some (.int .i64 steps) ∧ w'.cell? ⟨w.heap.size + 1, 0, none⟩ = some (.int .i64 kind) ∧ w'.cell? ⟨w.heap.size + 1, 1, none⟩ = some (.int .i64 raw) ∧ w'.cell? ⟨w.heap.size + 1, 2, none⟩ = some (.int .i64 a) ∧ w'.cell? ⟨w.heap.size + 1, 3, none⟩ = some (.int .i64 b)) (first | exact held10 (by assumption) hbl2 | exact held10 (by assumption) hbl1 | go_keep)
    (first | (go_at_call 10; refine (o1 _).mono ?_; rintro e w4 ⟨bk2, rfl, hb, hk, hbl1⟩) | (go_at_call 16; refine (nw _ _ hk).mono ?_; rintro e w5 ⟨rfl, hbl2⟩))
  have hS := held10 (w := w) ⟨hs, c0, c1, c2, c3, c4, c5, d0, d1, d2, d3⟩ (chain3r (Below.refl _ w3) hbl1 hbl2)
  have HB4 : Kp (Below w.heap.size w w5) := ⟨chain3r HB3.out hbl1 hbl2⟩
  clear hbl1 hbl2 hk hb HB3 hs c0 c1 c2 c3 c4 c5 d0 d1 d2 d3
  obtain ⟨hs, c0, c1, c2, c3, c4, c5, d0, d1, d2, d3⟩ := hS
  go_wp2_with fail
  refine (awake_any _).mono ?_
  rintro e wE ⟨rfl, hbl⟩
  have HE : Kp (Below w.heap.size w wE) := ⟨Below.then HB4.out HB4.out.size hbl⟩
  clear hbl hs c0 c1 c2 c3 c4 c5 d0 d1 d2 d3
  go_wp2_with fail
  go_ret
  exact ⟨by simp, HE.out⟩
set_option maxHeartbeats 8000000 in
theorem ref_GF (sraw time ppb left rate steps kind raw a b : Int) (ok : (CS.mk sraw time ppb left rate steps).Ok) (hr : raw ≤ 9223372036854775807) (k0 : 0 ≤ kind) (k3 : kind ≤ 3) (he : (callF (CS.mk sraw time ppb left rate steps) kind raw a b).2.2 ≠ 0) (hlt : ¬ raw < sraw) (hle : 4503599627370496 < raw) (w : World) : Calls Try.prog 8 #[.agg #[.int .i64 sraw, .int .i64 time, .int .i64 ppb, .int .i64 left, .int .i64 rate, .int .i64 steps], .agg #[.int .i64 kind, .int .i64 raw, .int .i64 a, .int .i64 b]] w fun x w' => x = .returned (.bool true) ∧ Below w.heap.size w w' := by
  have o1 := fun w => of_good _ ok w
  unfold CS.vals at o1
  simp only at o1
  have ca := fun bk w hk => call_any bk (CS.mk sraw time ppb left rate steps) kind raw a b w hk ok hr
  have nw := fun bk w hk => now_any bk (CS.mk sraw time ppb left rate steps) raw w hk ok hr
  obtain ⟨kp1, kp2⟩ := callF_keeps k0 k3 he
  have tk0 : decide (0 ≤ kind) = true := by simpa using k0
  have tk3 : decide (kind ≤ 3) = true := by simpa using k3
  obtain ⟨r, hrr⟩ : ∃ r, callF (CS.mk sraw time ppb left rate steps) kind raw a b = r := ⟨_, rfl⟩
  obtain ⟨rs, rn, re⟩ := r
  rw [hrr] at ca kp1 kp2 he
  simp only at ca kp1 kp2 he
  subst kp1 kp2
  have te : (re != 0) = true := by simpa using he
  have te2 : (re == 0) = false := by simpa using he
  clear he
  obtain ⟨f, hf⟩ : ∃ f, (nowF (CS.mk sraw time ppb left rate steps) raw).2 = f := ⟨_, rfl⟩
  rw [hf] at nw
  have f3 : f = 3 := by rw [← hf]; exact nowF_far hlt hle
  subst f3
  have tl : decide (raw < sraw) = false := by simp; omega
  have tm : decide (raw ≤ 4503599627370496) = false := by simp; omega
  have HF := Kp.mk hf
  clear hrr hf ok hr
  go_enter Try.func8, Try.ntmps8
  go_wp2_with fail
  have hS := box10 w (.int .i64 sraw) (.int .i64 time) (.int .i64 ppb) (.int .i64 left) (.int .i64 rate) (.int .i64 steps) (.int .i64 kind) (.int .i64 raw) (.int .i64 a) (.int .i64 b) 23 35
  have HX := below_alloc2 w (.cells #[.int .i64 sraw, .int .i64 time, .int .i64 ppb, .int .i64 left, .int .i64 rate, .int .i64 steps] 23) (.cells #[.int .i64 kind, .int .i64 raw, .int .i64 a, .int .i64 b] 35)
  refine (o1 _).mono ?_
  rintro e w1 ⟨bk, rfl, hbk, hk, hbl⟩
  have hS1 := held10 hS hbl
  have HB1 : Kp (Below w.heap.size w w1) := ⟨Below.then HX HX.size hbl⟩
  have hbk2 : w.heap.size + 2 ≤ bk := by simpa using hbk
  clear hS HX hbl hbk
  obtain ⟨hs, c0, c1, c2, c3, c4, c5, d0, d1, d2, d3⟩ := hS1
  have HK2 := Kp.mk hbk2
  clear hbk2
  go_wp2_with fail
  refine (ca _ _ hk).mono ?_
  rintro e w2 ⟨rfl, hk2, ho⟩
  have hS2 := held10o (w := w) ⟨hs, c0, c1, c2, c3, c4, c5, d0, d1, d2, d3⟩ ho HK2.out
  have HB2 : Kp (Below w.heap.size w w2) := ⟨chainO HB1.out ho (by have := HK2.out; omega)⟩
  clear hk ho HB1 hs c0 c1 c2 c3 c4 c5 d0 d1 d2 d3
  obtain ⟨hs, c0, c1, c2, c3, c4, c5, d0, d1, d2, d3⟩ := hS2
  have hst := state_any _ _ _ (hk2.below (Below.refl w2.heap.size w2).drew hk2.lt)
  unfold StatePost CS.vals at hst
  simp only at hst
  clear hk2
  go_wp2_with fail
  go_region_held3 (fun w' => w.heap.size + 1 < w'.heap.size ∧ w'.cell? ⟨w.heap.size, 0, none⟩ = some (.int .i64 sraw) ∧ w'.cell? ⟨w.heap.size, 1, none⟩ = some (.int .i64 time) ∧ w'.cell? ⟨w.heap.size, 2, none⟩ = some (.int .i64 ppb) ∧ w'.cell? ⟨w.heap.size, 3, none⟩ = some (.int .i64 left) ∧ w'.cell? ⟨w.heap.size, 4, none⟩ = some (.int .i64 rate) ∧ w'.cell? ⟨w.heap.size, 5, none⟩ = some (.int .i64 steps) ∧ w'.cell? ⟨w.heap.size + 1, 0, none⟩ = some (.int .i64 kind) ∧ w'.cell? ⟨w.heap.size + 1, 1, none⟩ = some (.int .i64 raw) ∧ w'.cell? ⟨w.heap.size + 1, 2, none⟩ = some (.int .i64 a) ∧ w'.cell? ⟨w.heap.size + 1, 3, none⟩ = some (.int .i64 b)) (first | exact held10 (by assumption) hbl | go_keep)
    (first | (go_at_call 12; refine hst.mono ?_; rintro e w3 ⟨rfl, hbl⟩))
  have hS := held10 (w := w) ⟨hs, c0, c1, c2, c3, c4, c5, d0, d1, d2, d3⟩ (chain2r (Below.refl _ w2) hbl)
  have HB3 : Kp (Below w.heap.size w w3) := ⟨chain2r HB2.out hbl⟩
  clear hbl hst HB2 hs c0 c1 c2 c3 c4 c5 d0 d1 d2 d3
  obtain ⟨hs, c0, c1, c2, c3, c4, c5, d0, d1, d2, d3⟩ := hS
  go_wp2_with fail
  go_region_held3 (fun w' => w.heap.size + 1 < w'.heap.size ∧ w'.cell? ⟨w.heap.size, 0, none⟩ = some (.int .i64 sraw) ∧ w'.cell? ⟨w.heap.size, 1, none⟩ = some (.int .i64 time) ∧ w'.cell? ⟨w.heap.size, 2, none⟩ = some (.int .i64 ppb) ∧ w'.cell? ⟨w.heap.size, 3, none⟩ = some (.int .i64 left) ∧ w'.cell? ⟨w.heap.size, 4, none⟩ = some (.int .i64 rate) ∧ w'.cell? ⟨w.heap.size, 5, none⟩ = some (.int .i64 steps) ∧ w'.cell? ⟨w.heap.size + 1, 0, none⟩ = some (.int .i64 kind) ∧ w'.cell? ⟨w.heap.size + 1, 1, none⟩ = some (.int .i64 raw) ∧ w'.cell? ⟨w.heap.size + 1, 2, none⟩ = some (.int .i64 a) ∧ w'.cell? ⟨w.heap.size + 1, 3, none⟩ = some (.int .i64 b)) (first | exact held10 (by assumption) hbl2 | exact held10 (by assumption) hbl1 | go_keep)
    (first | (go_at_call 10; refine (o1 _).mono ?_; rintro e w4 ⟨bk2, rfl, hb, hk, hbl1⟩) | (go_at_call 16; refine (nw _ _ hk).mono ?_; rintro e w5 ⟨rfl, hbl2⟩))
  have hS := held10 (w := w) ⟨hs, c0, c1, c2, c3, c4, c5, d0, d1, d2, d3⟩ (chain3r (Below.refl _ w3) hbl1 hbl2)
  have HB4 : Kp (Below w.heap.size w w5) := ⟨chain3r HB3.out hbl1 hbl2⟩
  clear hbl1 hbl2 hk hb HB3 hs c0 c1 c2 c3 c4 c5 d0 d1 d2 d3
  obtain ⟨hs, c0, c1, c2, c3, c4, c5, d0, d1, d2, d3⟩ := hS
  go_wp2_with fail
  refine (awake_any _).mono ?_
  rintro e wE ⟨rfl, hbl⟩
  have HE : Kp (Below w.heap.size w wE) := ⟨Below.then HB4.out HB4.out.size hbl⟩
  clear hbl hs c0 c1 c2 c3 c4 c5 d0 d1 d2 d3
  go_wp2_with fail
  go_ret
  exact ⟨by simp, HE.out⟩
set_option maxHeartbeats 8000000 in
theorem ref_N1L (sraw time ppb left rate steps kind raw a b : Int) (ok : (CS.mk sraw time ppb left rate steps).Ok) (hr : raw ≤ 9223372036854775807) (k0 : kind < 0) (hlt : raw < sraw) (w : World) : Calls Try.prog 8 #[.agg #[.int .i64 sraw, .int .i64 time, .int .i64 ppb, .int .i64 left, .int .i64 rate, .int .i64 steps], .agg #[.int .i64 kind, .int .i64 raw, .int .i64 a, .int .i64 b]] w fun x w' => x = .returned (.bool true) ∧ Below w.heap.size w w' := by
  have o1 := fun w => of_good _ ok w
  unfold CS.vals at o1
  simp only at o1
  have ca := fun bk w hk => call_any bk (CS.mk sraw time ppb left rate steps) kind raw a b w hk ok hr
  have nw := fun bk w hk => now_any bk (CS.mk sraw time ppb left rate steps) raw w hk ok hr
  have tk0 : decide (0 ≤ kind) = false := by simp; omega
  obtain ⟨r, hrr⟩ : ∃ r, callF (CS.mk sraw time ppb left rate steps) kind raw a b = r := ⟨_, rfl⟩
  obtain ⟨rs, rn, re⟩ := r
  rw [hrr] at ca
  simp only at ca
  obtain ⟨f, hf⟩ : ∃ f, (nowF (CS.mk sraw time ppb left rate steps) raw).2 = f := ⟨_, rfl⟩
  rw [hf] at nw
  have f12 : f = 12 := by rw [← hf]; exact nowF_order hlt
  subst f12
  have tl : decide (raw < sraw) = true := by simpa using hlt
  have HF := Kp.mk hf
  clear hrr hf ok hr
  go_enter Try.func8, Try.ntmps8
  go_wp2_with fail
  have hS := box10 w (.int .i64 sraw) (.int .i64 time) (.int .i64 ppb) (.int .i64 left) (.int .i64 rate) (.int .i64 steps) (.int .i64 kind) (.int .i64 raw) (.int .i64 a) (.int .i64 b) 23 35
  have HX := below_alloc2 w (.cells #[.int .i64 sraw, .int .i64 time, .int .i64 ppb, .int .i64 left, .int .i64 rate, .int .i64 steps] 23) (.cells #[.int .i64 kind, .int .i64 raw, .int .i64 a, .int .i64 b] 35)
  refine (o1 _).mono ?_
  rintro e w1 ⟨bk, rfl, hbk, hk, hbl⟩
  have hS1 := held10 hS hbl
  have HB1 : Kp (Below w.heap.size w w1) := ⟨Below.then HX HX.size hbl⟩
  have hbk2 : w.heap.size + 2 ≤ bk := by simpa using hbk
  clear hS HX hbl hbk
  obtain ⟨hs, c0, c1, c2, c3, c4, c5, d0, d1, d2, d3⟩ := hS1
  have HK2 := Kp.mk hbk2
  clear hbk2
  go_wp2_with fail
  refine (ca _ _ hk).mono ?_
  rintro e w2 ⟨rfl, hk2, ho⟩
  have hS2 := held10o (w := w) ⟨hs, c0, c1, c2, c3, c4, c5, d0, d1, d2, d3⟩ ho HK2.out
  have HB2 : Kp (Below w.heap.size w w2) := ⟨chainO HB1.out ho (by have := HK2.out; omega)⟩
  clear hk ho HB1 hs c0 c1 c2 c3 c4 c5 d0 d1 d2 d3
  obtain ⟨hs, c0, c1, c2, c3, c4, c5, d0, d1, d2, d3⟩ := hS2
  clear hk2
  go_wp2_with fail
  go_quiet (fail)
  obtain ⟨w3, hC⟩ : ∃ W, W = w2.drewN nq := ⟨_, rfl⟩
  have hbl : Below w2.heap.size w2 w3 := by rw [hC]; exact Below.of_drewN _ _
  rw [← hC]
  clear hC
  have hS := held10 (w := w) ⟨hs, c0, c1, c2, c3, c4, c5, d0, d1, d2, d3⟩ hbl
  have HB3 : Kp (Below w.heap.size w w3) := ⟨Below.then HB2.out HB2.out.size hbl⟩
  clear hbl HB2 hs c0 c1 c2 c3 c4 c5 d0 d1 d2 d3
  obtain ⟨hs, c0, c1, c2, c3, c4, c5, d0, d1, d2, d3⟩ := hS
  go_wp2_with fail
  go_region_held3 (fun w' => w.heap.size + 1 < w'.heap.size ∧ w'.cell? ⟨w.heap.size, 0, none⟩ = some (.int .i64 sraw) ∧ w'.cell? ⟨w.heap.size, 1, none⟩ = some (.int .i64 time) ∧ w'.cell? ⟨w.heap.size, 2, none⟩ = some (.int .i64 ppb) ∧ w'.cell? ⟨w.heap.size, 3, none⟩ = some (.int .i64 left) ∧ w'.cell? ⟨w.heap.size, 4, none⟩ = some (.int .i64 rate) ∧ w'.cell? ⟨w.heap.size, 5, none⟩ = some (.int .i64 steps) ∧ w'.cell? ⟨w.heap.size + 1, 0, none⟩ = some (.int .i64 kind) ∧ w'.cell? ⟨w.heap.size + 1, 1, none⟩ = some (.int .i64 raw) ∧ w'.cell? ⟨w.heap.size + 1, 2, none⟩ = some (.int .i64 a) ∧ w'.cell? ⟨w.heap.size + 1, 3, none⟩ = some (.int .i64 b)) (first | exact held10 (by assumption) hbl2 | exact held10 (by assumption) hbl1 | go_keep)
    (first | (go_at_call 10; refine (o1 _).mono ?_; rintro e w4 ⟨bk2, rfl, hb, hk, hbl1⟩) | (go_at_call 16; refine (nw _ _ hk).mono ?_; rintro e w5 ⟨rfl, hbl2⟩))
  have hS := held10 (w := w) ⟨hs, c0, c1, c2, c3, c4, c5, d0, d1, d2, d3⟩ (chain3r (Below.refl _ w3) hbl1 hbl2)
  have HB4 : Kp (Below w.heap.size w w5) := ⟨chain3r HB3.out hbl1 hbl2⟩
  clear hbl1 hbl2 hk hb HB3 hs c0 c1 c2 c3 c4 c5 d0 d1 d2 d3
  obtain ⟨hs, c0, c1, c2, c3, c4, c5, d0, d1, d2, d3⟩ := hS
  go_wp2_with fail
  refine (awake_any _).mono ?_
  rintro e wE ⟨rfl, hbl⟩
  have HE : Kp (Below w.heap.size w wE) := ⟨Below.then HB4.out HB4.out.size hbl⟩
  clear hbl hs c0 c1 c2 c3 c4 c5 d0 d1 d2 d3
  go_wp2_with fail
  go_ret
  exact ⟨by simp, HE.out⟩
set_option maxHeartbeats 8000000 in
theorem ref_N1M (sraw time ppb left rate steps kind raw a b : Int) (ok : (CS.mk sraw time ppb left rate steps).Ok) (hr : raw ≤ 9223372036854775807) (k0 : kind < 0) (hlt : ¬ raw < sraw) (hle : raw ≤ 4503599627370496) (w : World) : Calls Try.prog 8 #[.agg #[.int .i64 sraw, .int .i64 time, .int .i64 ppb, .int .i64 left, .int .i64 rate, .int .i64 steps], .agg #[.int .i64 kind, .int .i64 raw, .int .i64 a, .int .i64 b]] w fun x w' => x = .returned (.bool true) ∧ Below w.heap.size w w' := by
  have o1 := fun w => of_good _ ok w
  unfold CS.vals at o1
  simp only at o1
  have ca := fun bk w hk => call_any bk (CS.mk sraw time ppb left rate steps) kind raw a b w hk ok hr
  have nw := fun bk w hk => now_any bk (CS.mk sraw time ppb left rate steps) raw w hk ok hr
  have tk0 : decide (0 ≤ kind) = false := by simp; omega
  obtain ⟨r, hrr⟩ : ∃ r, callF (CS.mk sraw time ppb left rate steps) kind raw a b = r := ⟨_, rfl⟩
  obtain ⟨rs, rn, re⟩ := r
  rw [hrr] at ca
  simp only at ca
  obtain ⟨f, hf⟩ : ∃ f, (nowF (CS.mk sraw time ppb left rate steps) raw).2 = f := ⟨_, rfl⟩
  rw [hf] at nw
  have tl : decide (raw < sraw) = false := by simp; omega
  have tm : decide (raw ≤ 4503599627370496) = true := by simpa using hle
  have HF := Kp.mk hf
  clear hrr hf ok hr
  go_enter Try.func8, Try.ntmps8
  go_wp2_with fail
  have hS := box10 w (.int .i64 sraw) (.int .i64 time) (.int .i64 ppb) (.int .i64 left) (.int .i64 rate) (.int .i64 steps) (.int .i64 kind) (.int .i64 raw) (.int .i64 a) (.int .i64 b) 23 35
  have HX := below_alloc2 w (.cells #[.int .i64 sraw, .int .i64 time, .int .i64 ppb, .int .i64 left, .int .i64 rate, .int .i64 steps] 23) (.cells #[.int .i64 kind, .int .i64 raw, .int .i64 a, .int .i64 b] 35)
  refine (o1 _).mono ?_
  rintro e w1 ⟨bk, rfl, hbk, hk, hbl⟩
  have hS1 := held10 hS hbl
  have HB1 : Kp (Below w.heap.size w w1) := ⟨Below.then HX HX.size hbl⟩
  have hbk2 : w.heap.size + 2 ≤ bk := by simpa using hbk
  clear hS HX hbl hbk
  obtain ⟨hs, c0, c1, c2, c3, c4, c5, d0, d1, d2, d3⟩ := hS1
  have HK2 := Kp.mk hbk2
  clear hbk2
  go_wp2_with fail
  refine (ca _ _ hk).mono ?_
  rintro e w2 ⟨rfl, hk2, ho⟩
  have hS2 := held10o (w := w) ⟨hs, c0, c1, c2, c3, c4, c5, d0, d1, d2, d3⟩ ho HK2.out
  have HB2 : Kp (Below w.heap.size w w2) := ⟨chainO HB1.out ho (by have := HK2.out; omega)⟩
  clear hk ho HB1 hs c0 c1 c2 c3 c4 c5 d0 d1 d2 d3
  obtain ⟨hs, c0, c1, c2, c3, c4, c5, d0, d1, d2, d3⟩ := hS2
  clear hk2
  go_wp2_with fail
  go_quiet (fail)
  obtain ⟨w3, hC⟩ : ∃ W, W = w2.drewN nq := ⟨_, rfl⟩
  have hbl : Below w2.heap.size w2 w3 := by rw [hC]; exact Below.of_drewN _ _
  rw [← hC]
  clear hC
  have hS := held10 (w := w) ⟨hs, c0, c1, c2, c3, c4, c5, d0, d1, d2, d3⟩ hbl
  have HB3 : Kp (Below w.heap.size w w3) := ⟨Below.then HB2.out HB2.out.size hbl⟩
  clear hbl HB2 hs c0 c1 c2 c3 c4 c5 d0 d1 d2 d3
  obtain ⟨hs, c0, c1, c2, c3, c4, c5, d0, d1, d2, d3⟩ := hS
  go_wp2_with fail
  go_region_held3 (fun w' => w.heap.size + 1 < w'.heap.size ∧ w'.cell? ⟨w.heap.size, 0, none⟩ = some (.int .i64 sraw) ∧ w'.cell? ⟨w.heap.size, 1, none⟩ = some (.int .i64 time) ∧ w'.cell? ⟨w.heap.size, 2, none⟩ = some (.int .i64 ppb) ∧ w'.cell? ⟨w.heap.size, 3, none⟩ = some (.int .i64 left) ∧ w'.cell? ⟨w.heap.size, 4, none⟩ = some (.int .i64 rate) ∧ w'.cell? ⟨w.heap.size, 5, none⟩ = some (.int .i64 steps) ∧ w'.cell? ⟨w.heap.size + 1, 0, none⟩ = some (.int .i64 kind) ∧ w'.cell? ⟨w.heap.size + 1, 1, none⟩ = some (.int .i64 raw) ∧ w'.cell? ⟨w.heap.size + 1, 2, none⟩ = some (.int .i64 a) ∧ w'.cell? ⟨w.heap.size + 1, 3, none⟩ = some (.int .i64 b)) (first | exact held10 (by assumption) hbl2 | exact held10 (by assumption) hbl1 | go_keep)
    (first | (go_at_call 10; refine (o1 _).mono ?_; rintro e w4 ⟨bk2, rfl, hb, hk, hbl1⟩) | (go_at_call 16; refine (nw _ _ hk).mono ?_; rintro e w5 ⟨rfl, hbl2⟩))
  have hS := held10 (w := w) ⟨hs, c0, c1, c2, c3, c4, c5, d0, d1, d2, d3⟩ (chain3r (Below.refl _ w3) hbl1 hbl2)
  have HB4 : Kp (Below w.heap.size w w5) := ⟨chain3r HB3.out hbl1 hbl2⟩
  clear hbl1 hbl2 hk hb HB3 hs c0 c1 c2 c3 c4 c5 d0 d1 d2 d3
  obtain ⟨hs, c0, c1, c2, c3, c4, c5, d0, d1, d2, d3⟩ := hS
  go_wp2_with fail
  refine (awake_any _).mono ?_
  rintro e wE ⟨rfl, hbl⟩
  have HE : Kp (Below w.heap.size w wE) := ⟨Below.then HB4.out HB4.out.size hbl⟩
  clear hbl hs c0 c1 c2 c3 c4 c5 d0 d1 d2 d3
  go_wp2_with fail
  go_ret
  exact ⟨by simp, HE.out⟩
set_option maxHeartbeats 8000000 in
theorem ref_N1F (sraw time ppb left rate steps kind raw a b : Int) (ok : (CS.mk sraw time ppb left rate steps).Ok) (hr : raw ≤ 9223372036854775807) (k0 : kind < 0) (hlt : ¬ raw < sraw) (hle : 4503599627370496 < raw) (w : World) : Calls Try.prog 8 #[.agg #[.int .i64 sraw, .int .i64 time, .int .i64 ppb, .int .i64 left, .int .i64 rate, .int .i64 steps], .agg #[.int .i64 kind, .int .i64 raw, .int .i64 a, .int .i64 b]] w fun x w' => x = .returned (.bool true) ∧ Below w.heap.size w w' := by
  have o1 := fun w => of_good _ ok w
  unfold CS.vals at o1
  simp only at o1
  have ca := fun bk w hk => call_any bk (CS.mk sraw time ppb left rate steps) kind raw a b w hk ok hr
  have nw := fun bk w hk => now_any bk (CS.mk sraw time ppb left rate steps) raw w hk ok hr
  have tk0 : decide (0 ≤ kind) = false := by simp; omega
  obtain ⟨r, hrr⟩ : ∃ r, callF (CS.mk sraw time ppb left rate steps) kind raw a b = r := ⟨_, rfl⟩
  obtain ⟨rs, rn, re⟩ := r
  rw [hrr] at ca
  simp only at ca
  obtain ⟨f, hf⟩ : ∃ f, (nowF (CS.mk sraw time ppb left rate steps) raw).2 = f := ⟨_, rfl⟩
  rw [hf] at nw
  have f3 : f = 3 := by rw [← hf]; exact nowF_far hlt hle
  subst f3
  have tl : decide (raw < sraw) = false := by simp; omega
  have tm : decide (raw ≤ 4503599627370496) = false := by simp; omega
  have HF := Kp.mk hf
  clear hrr hf ok hr
  go_enter Try.func8, Try.ntmps8
  go_wp2_with fail
  have hS := box10 w (.int .i64 sraw) (.int .i64 time) (.int .i64 ppb) (.int .i64 left) (.int .i64 rate) (.int .i64 steps) (.int .i64 kind) (.int .i64 raw) (.int .i64 a) (.int .i64 b) 23 35
  have HX := below_alloc2 w (.cells #[.int .i64 sraw, .int .i64 time, .int .i64 ppb, .int .i64 left, .int .i64 rate, .int .i64 steps] 23) (.cells #[.int .i64 kind, .int .i64 raw, .int .i64 a, .int .i64 b] 35)
  refine (o1 _).mono ?_
  rintro e w1 ⟨bk, rfl, hbk, hk, hbl⟩
  have hS1 := held10 hS hbl
  have HB1 : Kp (Below w.heap.size w w1) := ⟨Below.then HX HX.size hbl⟩
  have hbk2 : w.heap.size + 2 ≤ bk := by simpa using hbk
  clear hS HX hbl hbk
  obtain ⟨hs, c0, c1, c2, c3, c4, c5, d0, d1, d2, d3⟩ := hS1
  have HK2 := Kp.mk hbk2
  clear hbk2
  go_wp2_with fail
  refine (ca _ _ hk).mono ?_
  rintro e w2 ⟨rfl, hk2, ho⟩
  have hS2 := held10o (w := w) ⟨hs, c0, c1, c2, c3, c4, c5, d0, d1, d2, d3⟩ ho HK2.out
  have HB2 : Kp (Below w.heap.size w w2) := ⟨chainO HB1.out ho (by have := HK2.out; omega)⟩
  clear hk ho HB1 hs c0 c1 c2 c3 c4 c5 d0 d1 d2 d3
  obtain ⟨hs, c0, c1, c2, c3, c4, c5, d0, d1, d2, d3⟩ := hS2
  clear hk2
  go_wp2_with fail
  go_quiet (fail)
  obtain ⟨w3, hC⟩ : ∃ W, W = w2.drewN nq := ⟨_, rfl⟩
  have hbl : Below w2.heap.size w2 w3 := by rw [hC]; exact Below.of_drewN _ _
  rw [← hC]
  clear hC
  have hS := held10 (w := w) ⟨hs, c0, c1, c2, c3, c4, c5, d0, d1, d2, d3⟩ hbl
  have HB3 : Kp (Below w.heap.size w w3) := ⟨Below.then HB2.out HB2.out.size hbl⟩
  clear hbl HB2 hs c0 c1 c2 c3 c4 c5 d0 d1 d2 d3
  obtain ⟨hs, c0, c1, c2, c3, c4, c5, d0, d1, d2, d3⟩ := hS
  go_wp2_with fail
  go_region_held3 (fun w' => w.heap.size + 1 < w'.heap.size ∧ w'.cell? ⟨w.heap.size, 0, none⟩ = some (.int .i64 sraw) ∧ w'.cell? ⟨w.heap.size, 1, none⟩ = some (.int .i64 time) ∧ w'.cell? ⟨w.heap.size, 2, none⟩ = some (.int .i64 ppb) ∧ w'.cell? ⟨w.heap.size, 3, none⟩ = some (.int .i64 left) ∧ w'.cell? ⟨w.heap.size, 4, none⟩ = some (.int .i64 rate) ∧ w'.cell? ⟨w.heap.size, 5, none⟩ = some (.int .i64 steps) ∧ w'.cell? ⟨w.heap.size + 1, 0, none⟩ = some (.int .i64 kind) ∧ w'.cell? ⟨w.heap.size + 1, 1, none⟩ = some (.int .i64 raw) ∧ w'.cell? ⟨w.heap.size + 1, 2, none⟩ = some (.int .i64 a) ∧ w'.cell? ⟨w.heap.size + 1, 3, none⟩ = some (.int .i64 b)) (first | exact held10 (by assumption) hbl2 | exact held10 (by assumption) hbl1 | go_keep)
    (first | (go_at_call 10; refine (o1 _).mono ?_; rintro e w4 ⟨bk2, rfl, hb, hk, hbl1⟩) | (go_at_call 16; refine (nw _ _ hk).mono ?_; rintro e w5 ⟨rfl, hbl2⟩))
  have hS := held10 (w := w) ⟨hs, c0, c1, c2, c3, c4, c5, d0, d1, d2, d3⟩ (chain3r (Below.refl _ w3) hbl1 hbl2)
  have HB4 : Kp (Below w.heap.size w w5) := ⟨chain3r HB3.out hbl1 hbl2⟩
  clear hbl1 hbl2 hk hb HB3 hs c0 c1 c2 c3 c4 c5 d0 d1 d2 d3
  obtain ⟨hs, c0, c1, c2, c3, c4, c5, d0, d1, d2, d3⟩ := hS
  go_wp2_with fail
  refine (awake_any _).mono ?_
  rintro e wE ⟨rfl, hbl⟩
  have HE : Kp (Below w.heap.size w wE) := ⟨Below.then HB4.out HB4.out.size hbl⟩
  clear hbl hs c0 c1 c2 c3 c4 c5 d0 d1 d2 d3
  go_wp2_with fail
  go_ret
  exact ⟨by simp, HE.out⟩
set_option maxHeartbeats 8000000 in
theorem ref_N2L (sraw time ppb left rate steps kind raw a b : Int) (ok : (CS.mk sraw time ppb left rate steps).Ok) (hr : raw ≤ 9223372036854775807) (k0 : 0 ≤ kind) (k3 : 3 < kind) (hlt : raw < sraw) (w : World) : Calls Try.prog 8 #[.agg #[.int .i64 sraw, .int .i64 time, .int .i64 ppb, .int .i64 left, .int .i64 rate, .int .i64 steps], .agg #[.int .i64 kind, .int .i64 raw, .int .i64 a, .int .i64 b]] w fun x w' => x = .returned (.bool true) ∧ Below w.heap.size w w' := by
  have o1 := fun w => of_good _ ok w
  unfold CS.vals at o1
  simp only at o1
  have ca := fun bk w hk => call_any bk (CS.mk sraw time ppb left rate steps) kind raw a b w hk ok hr
  have nw := fun bk w hk => now_any bk (CS.mk sraw time ppb left rate steps) raw w hk ok hr
  have tk0 : decide (0 ≤ kind) = true := by simpa using k0
  have tk3 : decide (kind ≤ 3) = false := by simp; omega
  obtain ⟨r, hrr⟩ : ∃ r, callF (CS.mk sraw time ppb left rate steps) kind raw a b = r := ⟨_, rfl⟩
  obtain ⟨rs, rn, re⟩ := r
  rw [hrr] at ca
  simp only at ca
  obtain ⟨f, hf⟩ : ∃ f, (nowF (CS.mk sraw time ppb left rate steps) raw).2 = f := ⟨_, rfl⟩
  rw [hf] at nw
  have f12 : f = 12 := by rw [← hf]; exact nowF_order hlt
  subst f12
  have tl : decide (raw < sraw) = true := by simpa using hlt
  have HF := Kp.mk hf
  clear hrr hf ok hr
  go_enter Try.func8, Try.ntmps8
  go_wp2_with fail
  have hS := box10 w (.int .i64 sraw) (.int .i64 time) (.int .i64 ppb) (.int .i64 left) (.int .i64 rate) (.int .i64 steps) (.int .i64 kind) (.int .i64 raw) (.int .i64 a) (.int .i64 b) 23 35
  have HX := below_alloc2 w (.cells #[.int .i64 sraw, .int .i64 time, .int .i64 ppb, .int .i64 left, .int .i64 rate, .int .i64 steps] 23) (.cells #[.int .i64 kind, .int .i64 raw, .int .i64 a, .int .i64 b] 35)
  refine (o1 _).mono ?_
  rintro e w1 ⟨bk, rfl, hbk, hk, hbl⟩
  have hS1 := held10 hS hbl
  have HB1 : Kp (Below w.heap.size w w1) := ⟨Below.then HX HX.size hbl⟩
  have hbk2 : w.heap.size + 2 ≤ bk := by simpa using hbk
  clear hS HX hbl hbk
  obtain ⟨hs, c0, c1, c2, c3, c4, c5, d0, d1, d2, d3⟩ := hS1
  have HK2 := Kp.mk hbk2
  clear hbk2
  go_wp2_with fail
  refine (ca _ _ hk).mono ?_
  rintro e w2 ⟨rfl, hk2, ho⟩
  have hS2 := held10o (w := w) ⟨hs, c0, c1, c2, c3, c4, c5, d0, d1, d2, d3⟩ ho HK2.out
  have HB2 : Kp (Below w.heap.size w w2) := ⟨chainO HB1.out ho (by have := HK2.out; omega)⟩
  clear hk ho HB1 hs c0 c1 c2 c3 c4 c5 d0 d1 d2 d3
  obtain ⟨hs, c0, c1, c2, c3, c4, c5, d0, d1, d2, d3⟩ := hS2
  clear hk2
  go_wp2_with fail
  go_quiet (fail)
  obtain ⟨w3, hC⟩ : ∃ W, W = w2.drewN nq := ⟨_, rfl⟩
  have hbl : Below w2.heap.size w2 w3 := by rw [hC]; exact Below.of_drewN _ _
  rw [← hC]
  clear hC
  have hS := held10 (w := w) ⟨hs, c0, c1, c2, c3, c4, c5, d0, d1, d2, d3⟩ hbl
  have HB3 : Kp (Below w.heap.size w w3) := ⟨Below.then HB2.out HB2.out.size hbl⟩
  clear hbl HB2 hs c0 c1 c2 c3 c4 c5 d0 d1 d2 d3
  obtain ⟨hs, c0, c1, c2, c3, c4, c5, d0, d1, d2, d3⟩ := hS
  go_wp2_with fail
  go_region_held3 (fun w' => w.heap.size + 1 < w'.heap.size ∧ w'.cell? ⟨w.heap.size, 0, none⟩ = some (.int .i64 sraw) ∧ w'.cell? ⟨w.heap.size, 1, none⟩ = some (.int .i64 time) ∧ w'.cell? ⟨w.heap.size, 2, none⟩ = some (.int .i64 ppb) ∧ w'.cell? ⟨w.heap.size, 3, none⟩ = some (.int .i64 left) ∧ w'.cell? ⟨w.heap.size, 4, none⟩ = some (.int .i64 rate) ∧ w'.cell? ⟨w.heap.size, 5, none⟩ = some (.int .i64 steps) ∧ w'.cell? ⟨w.heap.size + 1, 0, none⟩ = some (.int .i64 kind) ∧ w'.cell? ⟨w.heap.size + 1, 1, none⟩ = some (.int .i64 raw) ∧ w'.cell? ⟨w.heap.size + 1, 2, none⟩ = some (.int .i64 a) ∧ w'.cell? ⟨w.heap.size + 1, 3, none⟩ = some (.int .i64 b)) (first | exact held10 (by assumption) hbl2 | exact held10 (by assumption) hbl1 | go_keep)
    (first | (go_at_call 10; refine (o1 _).mono ?_; rintro e w4 ⟨bk2, rfl, hb, hk, hbl1⟩) | (go_at_call 16; refine (nw _ _ hk).mono ?_; rintro e w5 ⟨rfl, hbl2⟩))
  have hS := held10 (w := w) ⟨hs, c0, c1, c2, c3, c4, c5, d0, d1, d2, d3⟩ (chain3r (Below.refl _ w3) hbl1 hbl2)
  have HB4 : Kp (Below w.heap.size w w5) := ⟨chain3r HB3.out hbl1 hbl2⟩
  clear hbl1 hbl2 hk hb HB3 hs c0 c1 c2 c3 c4 c5 d0 d1 d2 d3
  obtain ⟨hs, c0, c1, c2, c3, c4, c5, d0, d1, d2, d3⟩ := hS
  go_wp2_with fail
  refine (awake_any _).mono ?_
  rintro e wE ⟨rfl, hbl⟩
  have HE : Kp (Below w.heap.size w wE) := ⟨Below.then HB4.out HB4.out.size hbl⟩
  clear hbl hs c0 c1 c2 c3 c4 c5 d0 d1 d2 d3
  go_wp2_with fail
  go_ret
  exact ⟨by simp, HE.out⟩
set_option maxHeartbeats 8000000 in
theorem ref_N2M (sraw time ppb left rate steps kind raw a b : Int) (ok : (CS.mk sraw time ppb left rate steps).Ok) (hr : raw ≤ 9223372036854775807) (k0 : 0 ≤ kind) (k3 : 3 < kind) (hlt : ¬ raw < sraw) (hle : raw ≤ 4503599627370496) (w : World) : Calls Try.prog 8 #[.agg #[.int .i64 sraw, .int .i64 time, .int .i64 ppb, .int .i64 left, .int .i64 rate, .int .i64 steps], .agg #[.int .i64 kind, .int .i64 raw, .int .i64 a, .int .i64 b]] w fun x w' => x = .returned (.bool true) ∧ Below w.heap.size w w' := by
  have o1 := fun w => of_good _ ok w
  unfold CS.vals at o1
  simp only at o1
  have ca := fun bk w hk => call_any bk (CS.mk sraw time ppb left rate steps) kind raw a b w hk ok hr
  have nw := fun bk w hk => now_any bk (CS.mk sraw time ppb left rate steps) raw w hk ok hr
  have tk0 : decide (0 ≤ kind) = true := by simpa using k0
  have tk3 : decide (kind ≤ 3) = false := by simp; omega
  obtain ⟨r, hrr⟩ : ∃ r, callF (CS.mk sraw time ppb left rate steps) kind raw a b = r := ⟨_, rfl⟩
  obtain ⟨rs, rn, re⟩ := r
  rw [hrr] at ca
  simp only at ca
  obtain ⟨f, hf⟩ : ∃ f, (nowF (CS.mk sraw time ppb left rate steps) raw).2 = f := ⟨_, rfl⟩
  rw [hf] at nw
  have tl : decide (raw < sraw) = false := by simp; omega
  have tm : decide (raw ≤ 4503599627370496) = true := by simpa using hle
  have HF := Kp.mk hf
  clear hrr hf ok hr
  go_enter Try.func8, Try.ntmps8
  go_wp2_with fail
  have hS := box10 w (.int .i64 sraw) (.int .i64 time) (.int .i64 ppb) (.int .i64 left) (.int .i64 rate) (.int .i64 steps) (.int .i64 kind) (.int .i64 raw) (.int .i64 a) (.int .i64 b) 23 35
  have HX := below_alloc2 w (.cells #[.int .i64 sraw, .int .i64 time, .int .i64 ppb, .int .i64 left, .int .i64 rate, .int .i64 steps] 23) (.cells #[.int .i64 kind, .int .i64 raw, .int .i64 a, .int .i64 b] 35)
  refine (o1 _).mono ?_
  rintro e w1 ⟨bk, rfl, hbk, hk, hbl⟩
  have hS1 := held10 hS hbl
  have HB1 : Kp (Below w.heap.size w w1) := ⟨Below.then HX HX.size hbl⟩
  have hbk2 : w.heap.size + 2 ≤ bk := by simpa using hbk
  clear hS HX hbl hbk
  obtain ⟨hs, c0, c1, c2, c3, c4, c5, d0, d1, d2, d3⟩ := hS1
  have HK2 := Kp.mk hbk2
  clear hbk2
  go_wp2_with fail
  refine (ca _ _ hk).mono ?_
  rintro e w2 ⟨rfl, hk2, ho⟩
  have hS2 := held10o (w := w) ⟨hs, c0, c1, c2, c3, c4, c5, d0, d1, d2, d3⟩ ho HK2.out
  have HB2 : Kp (Below w.heap.size w w2) := ⟨chainO HB1.out ho (by have := HK2.out; omega)⟩
  clear hk ho HB1 hs c0 c1 c2 c3 c4 c5 d0 d1 d2 d3
  obtain ⟨hs, c0, c1, c2, c3, c4, c5, d0, d1, d2, d3⟩ := hS2
  clear hk2
  go_wp2_with fail
  go_quiet (fail)
  obtain ⟨w3, hC⟩ : ∃ W, W = w2.drewN nq := ⟨_, rfl⟩
  have hbl : Below w2.heap.size w2 w3 := by rw [hC]; exact Below.of_drewN _ _
  rw [← hC]
  clear hC
  have hS := held10 (w := w) ⟨hs, c0, c1, c2, c3, c4, c5, d0, d1, d2, d3⟩ hbl
  have HB3 : Kp (Below w.heap.size w w3) := ⟨Below.then HB2.out HB2.out.size hbl⟩
  clear hbl HB2 hs c0 c1 c2 c3 c4 c5 d0 d1 d2 d3
  obtain ⟨hs, c0, c1, c2, c3, c4, c5, d0, d1, d2, d3⟩ := hS
  go_wp2_with fail
  go_region_held3 (fun w' => w.heap.size + 1 < w'.heap.size ∧ w'.cell? ⟨w.heap.size, 0, none⟩ = some (.int .i64 sraw) ∧ w'.cell? ⟨w.heap.size, 1, none⟩ = some (.int .i64 time) ∧ w'.cell? ⟨w.heap.size, 2, none⟩ = some (.int .i64 ppb) ∧ w'.cell? ⟨w.heap.size, 3, none⟩ = some (.int .i64 left) ∧ w'.cell? ⟨w.heap.size, 4, none⟩ = some (.int .i64 rate) ∧ w'.cell? ⟨w.heap.size, 5, none⟩ = some (.int .i64 steps) ∧ w'.cell? ⟨w.heap.size + 1, 0, none⟩ = some (.int .i64 kind) ∧ w'.cell? ⟨w.heap.size + 1, 1, none⟩ = some (.int .i64 raw) ∧ w'.cell? ⟨w.heap.size + 1, 2, none⟩ = some (.int .i64 a) ∧ w'.cell? ⟨w.heap.size + 1, 3, none⟩ = some (.int .i64 b)) (first | exact held10 (by assumption) hbl2 | exact held10 (by assumption) hbl1 | go_keep)
    (first | (go_at_call 10; refine (o1 _).mono ?_; rintro e w4 ⟨bk2, rfl, hb, hk, hbl1⟩) | (go_at_call 16; refine (nw _ _ hk).mono ?_; rintro e w5 ⟨rfl, hbl2⟩))
  have hS := held10 (w := w) ⟨hs, c0, c1, c2, c3, c4, c5, d0, d1, d2, d3⟩ (chain3r (Below.refl _ w3) hbl1 hbl2)
  have HB4 : Kp (Below w.heap.size w w5) := ⟨chain3r HB3.out hbl1 hbl2⟩
  clear hbl1 hbl2 hk hb HB3 hs c0 c1 c2 c3 c4 c5 d0 d1 d2 d3
  obtain ⟨hs, c0, c1, c2, c3, c4, c5, d0, d1, d2, d3⟩ := hS
  go_wp2_with fail
  refine (awake_any _).mono ?_
  rintro e wE ⟨rfl, hbl⟩
  have HE : Kp (Below w.heap.size w wE) := ⟨Below.then HB4.out HB4.out.size hbl⟩
  clear hbl hs c0 c1 c2 c3 c4 c5 d0 d1 d2 d3
  go_wp2_with fail
  go_ret
  exact ⟨by simp, HE.out⟩
set_option maxHeartbeats 8000000 in
theorem ref_N2F (sraw time ppb left rate steps kind raw a b : Int) (ok : (CS.mk sraw time ppb left rate steps).Ok) (hr : raw ≤ 9223372036854775807) (k0 : 0 ≤ kind) (k3 : 3 < kind) (hlt : ¬ raw < sraw) (hle : 4503599627370496 < raw) (w : World) : Calls Try.prog 8 #[.agg #[.int .i64 sraw, .int .i64 time, .int .i64 ppb, .int .i64 left, .int .i64 rate, .int .i64 steps], .agg #[.int .i64 kind, .int .i64 raw, .int .i64 a, .int .i64 b]] w fun x w' => x = .returned (.bool true) ∧ Below w.heap.size w w' := by
  have o1 := fun w => of_good _ ok w
  unfold CS.vals at o1
  simp only at o1
  have ca := fun bk w hk => call_any bk (CS.mk sraw time ppb left rate steps) kind raw a b w hk ok hr
  have nw := fun bk w hk => now_any bk (CS.mk sraw time ppb left rate steps) raw w hk ok hr
  have tk0 : decide (0 ≤ kind) = true := by simpa using k0
  have tk3 : decide (kind ≤ 3) = false := by simp; omega
  obtain ⟨r, hrr⟩ : ∃ r, callF (CS.mk sraw time ppb left rate steps) kind raw a b = r := ⟨_, rfl⟩
  obtain ⟨rs, rn, re⟩ := r
  rw [hrr] at ca
  simp only at ca
  obtain ⟨f, hf⟩ : ∃ f, (nowF (CS.mk sraw time ppb left rate steps) raw).2 = f := ⟨_, rfl⟩
  rw [hf] at nw
  have f3 : f = 3 := by rw [← hf]; exact nowF_far hlt hle
  subst f3
  have tl : decide (raw < sraw) = false := by simp; omega
  have tm : decide (raw ≤ 4503599627370496) = false := by simp; omega
  have HF := Kp.mk hf
  clear hrr hf ok hr
  go_enter Try.func8, Try.ntmps8
  go_wp2_with fail
  have hS := box10 w (.int .i64 sraw) (.int .i64 time) (.int .i64 ppb) (.int .i64 left) (.int .i64 rate) (.int .i64 steps) (.int .i64 kind) (.int .i64 raw) (.int .i64 a) (.int .i64 b) 23 35
  have HX := below_alloc2 w (.cells #[.int .i64 sraw, .int .i64 time, .int .i64 ppb, .int .i64 left, .int .i64 rate, .int .i64 steps] 23) (.cells #[.int .i64 kind, .int .i64 raw, .int .i64 a, .int .i64 b] 35)
  refine (o1 _).mono ?_
  rintro e w1 ⟨bk, rfl, hbk, hk, hbl⟩
  have hS1 := held10 hS hbl
  have HB1 : Kp (Below w.heap.size w w1) := ⟨Below.then HX HX.size hbl⟩
  have hbk2 : w.heap.size + 2 ≤ bk := by simpa using hbk
  clear hS HX hbl hbk
  obtain ⟨hs, c0, c1, c2, c3, c4, c5, d0, d1, d2, d3⟩ := hS1
  have HK2 := Kp.mk hbk2
  clear hbk2
  go_wp2_with fail
  refine (ca _ _ hk).mono ?_
  rintro e w2 ⟨rfl, hk2, ho⟩
  have hS2 := held10o (w := w) ⟨hs, c0, c1, c2, c3, c4, c5, d0, d1, d2, d3⟩ ho HK2.out
  have HB2 : Kp (Below w.heap.size w w2) := ⟨chainO HB1.out ho (by have := HK2.out; omega)⟩
  clear hk ho HB1 hs c0 c1 c2 c3 c4 c5 d0 d1 d2 d3
  obtain ⟨hs, c0, c1, c2, c3, c4, c5, d0, d1, d2, d3⟩ := hS2
  clear hk2
  go_wp2_with fail
  go_quiet (fail)
  obtain ⟨w3, hC⟩ : ∃ W, W = w2.drewN nq := ⟨_, rfl⟩
  have hbl : Below w2.heap.size w2 w3 := by rw [hC]; exact Below.of_drewN _ _
  rw [← hC]
  clear hC
  have hS := held10 (w := w) ⟨hs, c0, c1, c2, c3, c4, c5, d0, d1, d2, d3⟩ hbl
  have HB3 : Kp (Below w.heap.size w w3) := ⟨Below.then HB2.out HB2.out.size hbl⟩
  clear hbl HB2 hs c0 c1 c2 c3 c4 c5 d0 d1 d2 d3
  obtain ⟨hs, c0, c1, c2, c3, c4, c5, d0, d1, d2, d3⟩ := hS
  go_wp2_with fail
  go_region_held3 (fun w' => w.heap.size + 1 < w'.heap.size ∧ w'.cell? ⟨w.heap.size, 0, none⟩ = some (.int .i64 sraw) ∧ w'.cell? ⟨w.heap.size, 1, none⟩ = some (.int .i64 time) ∧ w'.cell? ⟨w.heap.size, 2, none⟩ = some (.int .i64 ppb) ∧ w'.cell? ⟨w.heap.size, 3, none⟩ = some (.int .i64 left) ∧ w'.cell? ⟨w.heap.size, 4, none⟩ = some (.int .i64 rate) ∧ w'.cell? ⟨w.heap.size, 5, none⟩ = some (.int .i64 steps) ∧ w'.cell? ⟨w.heap.size + 1, 0, none⟩ = some (.int .i64 kind) ∧ w'.cell? ⟨w.heap.size + 1, 1, none⟩ = some (.int .i64 raw) ∧ w'.cell? ⟨w.heap.size + 1, 2, none⟩ = some (.int .i64 a) ∧ w'.cell? ⟨w.heap.size + 1, 3, none⟩ = some (.int .i64 b)) (first | exact held10 (by assumption) hbl2 | exact held10 (by assumption) hbl1 | go_keep)
    (first | (go_at_call 10; refine (o1 _).mono ?_; rintro e w4 ⟨bk2, rfl, hb, hk, hbl1⟩) | (go_at_call 16; refine (nw _ _ hk).mono ?_; rintro e w5 ⟨rfl, hbl2⟩))
  have hS := held10 (w := w) ⟨hs, c0, c1, c2, c3, c4, c5, d0, d1, d2, d3⟩ (chain3r (Below.refl _ w3) hbl1 hbl2)
  have HB4 : Kp (Below w.heap.size w w5) := ⟨chain3r HB3.out hbl1 hbl2⟩
  clear hbl1 hbl2 hk hb HB3 hs c0 c1 c2 c3 c4 c5 d0 d1 d2 d3
  obtain ⟨hs, c0, c1, c2, c3, c4, c5, d0, d1, d2, d3⟩ := hS
  go_wp2_with fail
  refine (awake_any _).mono ?_
  rintro e wE ⟨rfl, hbl⟩
  have HE : Kp (Below w.heap.size w wE) := ⟨Below.then HB4.out HB4.out.size hbl⟩
  clear hbl hs c0 c1 c2 c3 c4 c5 d0 d1 d2 d3
  go_wp2_with fail
  go_ret
  exact ⟨by simp, HE.out⟩
set_option maxHeartbeats 8000000 in
theorem ref_N3L (sraw time ppb left rate steps kind raw a b : Int) (ok : (CS.mk sraw time ppb left rate steps).Ok) (hr : raw ≤ 9223372036854775807) (k0 : 0 ≤ kind) (k3 : kind ≤ 3) (he : (callF (CS.mk sraw time ppb left rate steps) kind raw a b).2.2 = 0) (hlt : raw < sraw) (w : World) : Calls Try.prog 8 #[.agg #[.int .i64 sraw, .int .i64 time, .int .i64 ppb, .int .i64 left, .int .i64 rate, .int .i64 steps], .agg #[.int .i64 kind, .int .i64 raw, .int .i64 a, .int .i64 b]] w fun x w' => x = .returned (.bool true) ∧ Below w.heap.size w w' := by
  have o1 := fun w => of_good _ ok w
  unfold CS.vals at o1
  simp only at o1
  have ca := fun bk w hk => call_any bk (CS.mk sraw time ppb left rate steps) kind raw a b w hk ok hr
  have nw := fun bk w hk => now_any bk (CS.mk sraw time ppb left rate steps) raw w hk ok hr
  have tk0 : decide (0 ≤ kind) = true := by simpa using k0
  have tk3 : decide (kind ≤ 3) = true := by simpa using k3
  obtain ⟨r, hrr⟩ : ∃ r, callF (CS.mk sraw time ppb left rate steps) kind raw a b = r := ⟨_, rfl⟩
  obtain ⟨rs, rn, re⟩ := r
  rw [hrr] at ca he
  simp only at ca he
  subst he
  obtain ⟨f, hf⟩ : ∃ f, (nowF (CS.mk sraw time ppb left rate steps) raw).2 = f := ⟨_, rfl⟩
  rw [hf] at nw
  have f12 : f = 12 := by rw [← hf]; exact nowF_order hlt
  subst f12
  have tl : decide (raw < sraw) = true := by simpa using hlt
  have HF := Kp.mk hf
  clear hrr hf ok hr
  go_enter Try.func8, Try.ntmps8
  go_wp2_with fail
  have hS := box10 w (.int .i64 sraw) (.int .i64 time) (.int .i64 ppb) (.int .i64 left) (.int .i64 rate) (.int .i64 steps) (.int .i64 kind) (.int .i64 raw) (.int .i64 a) (.int .i64 b) 23 35
  have HX := below_alloc2 w (.cells #[.int .i64 sraw, .int .i64 time, .int .i64 ppb, .int .i64 left, .int .i64 rate, .int .i64 steps] 23) (.cells #[.int .i64 kind, .int .i64 raw, .int .i64 a, .int .i64 b] 35)
  refine (o1 _).mono ?_
  rintro e w1 ⟨bk, rfl, hbk, hk, hbl⟩
  have hS1 := held10 hS hbl
  have HB1 : Kp (Below w.heap.size w w1) := ⟨Below.then HX HX.size hbl⟩
  have hbk2 : w.heap.size + 2 ≤ bk := by simpa using hbk
  clear hS HX hbl hbk
  obtain ⟨hs, c0, c1, c2, c3, c4, c5, d0, d1, d2, d3⟩ := hS1
  have HK2 := Kp.mk hbk2
  clear hbk2
  go_wp2_with fail
  refine (ca _ _ hk).mono ?_
  rintro e w2 ⟨rfl, hk2, ho⟩
  have hS2 := held10o (w := w) ⟨hs, c0, c1, c2, c3, c4, c5, d0, d1, d2, d3⟩ ho HK2.out
  have HB2 : Kp (Below w.heap.size w w2) := ⟨chainO HB1.out ho (by have := HK2.out; omega)⟩
  clear hk ho HB1 hs c0 c1 c2 c3 c4 c5 d0 d1 d2 d3
  obtain ⟨hs, c0, c1, c2, c3, c4, c5, d0, d1, d2, d3⟩ := hS2
  clear hk2
  go_wp2_with fail
  go_quiet (fail)
  obtain ⟨w3, hC⟩ : ∃ W, W = w2.drewN nq := ⟨_, rfl⟩
  have hbl : Below w2.heap.size w2 w3 := by rw [hC]; exact Below.of_drewN _ _
  rw [← hC]
  clear hC
  have hS := held10 (w := w) ⟨hs, c0, c1, c2, c3, c4, c5, d0, d1, d2, d3⟩ hbl
  have HB3 : Kp (Below w.heap.size w w3) := ⟨Below.then HB2.out HB2.out.size hbl⟩
  clear hbl HB2 hs c0 c1 c2 c3 c4 c5 d0 d1 d2 d3
  obtain ⟨hs, c0, c1, c2, c3, c4, c5, d0, d1, d2, d3⟩ := hS
  go_wp2_with fail
  go_region_held3 (fun w' => w.heap.size + 1 < w'.heap.size ∧ w'.cell? ⟨w.heap.size, 0, none⟩ = some (.int .i64 sraw) ∧ w'.cell? ⟨w.heap.size, 1, none⟩ = some (.int .i64 time) ∧ w'.cell? ⟨w.heap.size, 2, none⟩ = some (.int .i64 ppb) ∧ w'.cell? ⟨w.heap.size, 3, none⟩ = some (.int .i64 left) ∧ w'.cell? ⟨w.heap.size, 4, none⟩ = some (.int .i64 rate) ∧ w'.cell? ⟨w.heap.size, 5, none⟩ = some (.int .i64 steps) ∧ w'.cell? ⟨w.heap.size + 1, 0, none⟩ = some (.int .i64 kind) ∧ w'.cell? ⟨w.heap.size + 1, 1, none⟩ = some (.int .i64 raw) ∧ w'.cell? ⟨w.heap.size + 1, 2, none⟩ = some (.int .i64 a) ∧ w'.cell? ⟨w.heap.size + 1, 3, none⟩ = some (.int .i64 b)) (first | exact held10 (by assumption) hbl2 | exact held10 (by assumption) hbl1 | go_keep)
    (first | (go_at_call 10; refine (o1 _).mono ?_; rintro e w4 ⟨bk2, rfl, hb, hk, hbl1⟩) | (go_at_call 16; refine (nw _ _ hk).mono ?_; rintro e w5 ⟨rfl, hbl2⟩))
  have hS := held10 (w := w) ⟨hs, c0, c1, c2, c3, c4, c5, d0, d1, d2, d3⟩ (chain3r (Below.refl _ w3) hbl1 hbl2)
  have HB4 : Kp (Below w.heap.size w w5) := ⟨chain3r HB3.out hbl1 hbl2⟩
  clear hbl1 hbl2 hk hb HB3 hs c0 c1 c2 c3 c4 c5 d0 d1 d2 d3
  obtain ⟨hs, c0, c1, c2, c3, c4, c5, d0, d1, d2, d3⟩ := hS
  go_wp2_with fail
  refine (awake_any _).mono ?_
  rintro e wE ⟨rfl, hbl⟩
  have HE : Kp (Below w.heap.size w wE) := ⟨Below.then HB4.out HB4.out.size hbl⟩
  clear hbl hs c0 c1 c2 c3 c4 c5 d0 d1 d2 d3
  go_wp2_with fail
  go_ret
  exact ⟨by simp, HE.out⟩
set_option maxHeartbeats 8000000 in
theorem ref_N3M (sraw time ppb left rate steps kind raw a b : Int) (ok : (CS.mk sraw time ppb left rate steps).Ok) (hr : raw ≤ 9223372036854775807) (k0 : 0 ≤ kind) (k3 : kind ≤ 3) (he : (callF (CS.mk sraw time ppb left rate steps) kind raw a b).2.2 = 0) (hlt : ¬ raw < sraw) (hle : raw ≤ 4503599627370496) (w : World) : Calls Try.prog 8 #[.agg #[.int .i64 sraw, .int .i64 time, .int .i64 ppb, .int .i64 left, .int .i64 rate, .int .i64 steps], .agg #[.int .i64 kind, .int .i64 raw, .int .i64 a, .int .i64 b]] w fun x w' => x = .returned (.bool true) ∧ Below w.heap.size w w' := by
  have o1 := fun w => of_good _ ok w
  unfold CS.vals at o1
  simp only at o1
  have ca := fun bk w hk => call_any bk (CS.mk sraw time ppb left rate steps) kind raw a b w hk ok hr
  have nw := fun bk w hk => now_any bk (CS.mk sraw time ppb left rate steps) raw w hk ok hr
  have tk0 : decide (0 ≤ kind) = true := by simpa using k0
  have tk3 : decide (kind ≤ 3) = true := by simpa using k3
  obtain ⟨r, hrr⟩ : ∃ r, callF (CS.mk sraw time ppb left rate steps) kind raw a b = r := ⟨_, rfl⟩
  obtain ⟨rs, rn, re⟩ := r
  rw [hrr] at ca he
  simp only at ca he
  subst he
  obtain ⟨f, hf⟩ : ∃ f, (nowF (CS.mk sraw time ppb left rate steps) raw).2 = f := ⟨_, rfl⟩
  rw [hf] at nw
  have tl : decide (raw < sraw) = false := by simp; omega
  have tm : decide (raw ≤ 4503599627370496) = true := by simpa using hle
  have HF := Kp.mk hf
  clear hrr hf ok hr
  go_enter Try.func8, Try.ntmps8
  go_wp2_with fail
  have hS := box10 w (.int .i64 sraw) (.int .i64 time) (.int .i64 ppb) (.int .i64 left) (.int .i64 rate) (.int .i64 steps) (.int .i64 kind) (.int .i64 raw) (.int .i64 a) (.int .i64 b) 23 35
  have HX := below_alloc2 w (.cells #[.int .i64 sraw, .int .i64 time, .int .i64 ppb, .int .i64 left, .int .i64 rate, .int .i64 steps] 23) (.cells #[.int .i64 kind, .int .i64 raw, .int .i64 a, .int .i64 b] 35)
  refine (o1 _).mono ?_
  rintro e w1 ⟨bk, rfl, hbk, hk, hbl⟩
  have hS1 := held10 hS hbl
  have HB1 : Kp (Below w.heap.size w w1) := ⟨Below.then HX HX.size hbl⟩
  have hbk2 : w.heap.size + 2 ≤ bk := by simpa using hbk
  clear hS HX hbl hbk
  obtain ⟨hs, c0, c1, c2, c3, c4, c5, d0, d1, d2, d3⟩ := hS1
  have HK2 := Kp.mk hbk2
  clear hbk2
  go_wp2_with fail
  refine (ca _ _ hk).mono ?_
  rintro e w2 ⟨rfl, hk2, ho⟩
  have hS2 := held10o (w := w) ⟨hs, c0, c1, c2, c3, c4, c5, d0, d1, d2, d3⟩ ho HK2.out
  have HB2 : Kp (Below w.heap.size w w2) := ⟨chainO HB1.out ho (by have := HK2.out; omega)⟩
  clear hk ho HB1 hs c0 c1 c2 c3 c4 c5 d0 d1 d2 d3
  obtain ⟨hs, c0, c1, c2, c3, c4, c5, d0, d1, d2, d3⟩ := hS2
  clear hk2
  go_wp2_with fail
  go_quiet (fail)
  obtain ⟨w3, hC⟩ : ∃ W, W = w2.drewN nq := ⟨_, rfl⟩
  have hbl : Below w2.heap.size w2 w3 := by rw [hC]; exact Below.of_drewN _ _
  rw [← hC]
  clear hC
  have hS := held10 (w := w) ⟨hs, c0, c1, c2, c3, c4, c5, d0, d1, d2, d3⟩ hbl
  have HB3 : Kp (Below w.heap.size w w3) := ⟨Below.then HB2.out HB2.out.size hbl⟩
  clear hbl HB2 hs c0 c1 c2 c3 c4 c5 d0 d1 d2 d3
  obtain ⟨hs, c0, c1, c2, c3, c4, c5, d0, d1, d2, d3⟩ := hS
  go_wp2_with fail
  go_region_held3 (fun w' => w.heap.size + 1 < w'.heap.size ∧ w'.cell? ⟨w.heap.size, 0, none⟩ = some (.int .i64 sraw) ∧ w'.cell? ⟨w.heap.size, 1, none⟩ = some (.int .i64 time) ∧ w'.cell? ⟨w.heap.size, 2, none⟩ = some (.int .i64 ppb) ∧ w'.cell? ⟨w.heap.size, 3, none⟩ = some (.int .i64 left) ∧ w'.cell? ⟨w.heap.size, 4, none⟩ = some (.int .i64 rate) ∧ w'.cell? ⟨w.heap.size, 5, none⟩ = some (.int .i64 steps) ∧ w'.cell? ⟨w.heap.size + 1, 0, none⟩ = some (.int .i64 kind) ∧ w'.cell? ⟨w.heap.size + 1, 1, none⟩ = some (.int .i64 raw) ∧ w'.cell? ⟨w.heap.size + 1, 2, none⟩ = some (.int .i64 a) ∧ w'.cell? ⟨w.heap.size + 1, 3, none⟩ = some (.int .i64 b)) (first | exact held10 (by assumption) hbl2 | exact held10 (by assumption) hbl1 | go_keep)
    (first | (go_at_call 10; refine (o1 _).mono ?_; rintro e w4 ⟨bk2, rfl, hb, hk, hbl1⟩) | (go_at_call 16; refine (nw _ _ hk).mono ?_; rintro e w5 ⟨rfl, hbl2⟩))
  have hS := held10 (w := w) ⟨hs, c0, c1, c2, c3, c4, c5, d0, d1, d2, d3⟩ (chain3r (Below.refl _ w3) hbl1 hbl2)
  have HB4 : Kp (Below w.heap.size w w5) := ⟨chain3r HB3.out hbl1 hbl2⟩
  clear hbl1 hbl2 hk hb HB3 hs c0 c1 c2 c3 c4 c5 d0 d1 d2 d3
  obtain ⟨hs, c0, c1, c2, c3, c4, c5, d0, d1, d2, d3⟩ := hS
  go_wp2_with fail
  refine (awake_any _).mono ?_
  rintro e wE ⟨rfl, hbl⟩
  have HE : Kp (Below w.heap.size w wE) := ⟨Below.then HB4.out HB4.out.size hbl⟩
  clear hbl hs c0 c1 c2 c3 c4 c5 d0 d1 d2 d3
  go_wp2_with fail
  go_ret
  exact ⟨by simp, HE.out⟩
set_option maxHeartbeats 8000000 in
theorem ref_N3F (sraw time ppb left rate steps kind raw a b : Int) (ok : (CS.mk sraw time ppb left rate steps).Ok) (hr : raw ≤ 9223372036854775807) (k0 : 0 ≤ kind) (k3 : kind ≤ 3) (he : (callF (CS.mk sraw time ppb left rate steps) kind raw a b).2.2 = 0) (hlt : ¬ raw < sraw) (hle : 4503599627370496 < raw) (w : World) : Calls Try.prog 8 #[.agg #[.int .i64 sraw, .int .i64 time, .int .i64 ppb, .int .i64 left, .int .i64 rate, .int .i64 steps], .agg #[.int .i64 kind, .int .i64 raw, .int .i64 a, .int .i64 b]] w fun x w' => x = .returned (.bool true) ∧ Below w.heap.size w w' := by
  have o1 := fun w => of_good _ ok w
  unfold CS.vals at o1
  simp only at o1
  have ca := fun bk w hk => call_any bk (CS.mk sraw time ppb left rate steps) kind raw a b w hk ok hr
  have nw := fun bk w hk => now_any bk (CS.mk sraw time ppb left rate steps) raw w hk ok hr
  have tk0 : decide (0 ≤ kind) = true := by simpa using k0
  have tk3 : decide (kind ≤ 3) = true := by simpa using k3
  obtain ⟨r, hrr⟩ : ∃ r, callF (CS.mk sraw time ppb left rate steps) kind raw a b = r := ⟨_, rfl⟩
  obtain ⟨rs, rn, re⟩ := r
  rw [hrr] at ca he
  simp only at ca he
  subst he
  obtain ⟨f, hf⟩ : ∃ f, (nowF (CS.mk sraw time ppb left rate steps) raw).2 = f := ⟨_, rfl⟩
  rw [hf] at nw
  have f3 : f = 3 := by rw [← hf]; exact nowF_far hlt hle
  subst f3
  have tl : decide (raw < sraw) = false := by simp; omega
  have tm : decide (raw ≤ 4503599627370496) = false := by simp; omega
  have HF := Kp.mk hf
  clear hrr hf ok hr
  go_enter Try.func8, Try.ntmps8
  go_wp2_with fail
  have hS := box10 w (.int .i64 sraw) (.int .i64 time) (.int .i64 ppb) (.int .i64 left) (.int .i64 rate) (.int .i64 steps) (.int .i64 kind) (.int .i64 raw) (.int .i64 a) (.int .i64 b) 23 35
  have HX := below_alloc2 w (.cells #[.int .i64 sraw, .int .i64 time, .int .i64 ppb, .int .i64 left, .int .i64 rate, .int .i64 steps] 23) (.cells #[.int .i64 kind, .int .i64 raw, .int .i64 a, .int .i64 b] 35)
  refine (o1 _).mono ?_
  rintro e w1 ⟨bk, rfl, hbk, hk, hbl⟩
  have hS1 := held10 hS hbl
  have HB1 : Kp (Below w.heap.size w w1) := ⟨Below.then HX HX.size hbl⟩
  have hbk2 : w.heap.size + 2 ≤ bk := by simpa using hbk
  clear hS HX hbl hbk
  obtain ⟨hs, c0, c1, c2, c3, c4, c5, d0, d1, d2, d3⟩ := hS1
  have HK2 := Kp.mk hbk2
  clear hbk2
  go_wp2_with fail
  refine (ca _ _ hk).mono ?_
  rintro e w2 ⟨rfl, hk2, ho⟩
  have hS2 := held10o (w := w) ⟨hs, c0, c1, c2, c3, c4, c5, d0, d1, d2, d3⟩ ho HK2.out
  have HB2 : Kp (Below w.heap.size w w2) := ⟨chainO HB1.out ho (by have := HK2.out; omega)⟩
  clear hk ho HB1 hs c0 c1 c2 c3 c4 c5 d0 d1 d2 d3
  obtain ⟨hs, c0, c1, c2, c3, c4, c5, d0, d1, d2, d3⟩ := hS2
  clear hk2
  go_wp2_with fail
  go_quiet (fail)
  obtain ⟨w3, hC⟩ : ∃ W, W = w2.drewN nq := ⟨_, rfl⟩
  have hbl : Below w2.heap.size w2 w3 := by rw [hC]; exact Below.of_drewN _ _
  rw [← hC]
  clear hC
  have hS := held10 (w := w) ⟨hs, c0, c1, c2, c3, c4, c5, d0, d1, d2, d3⟩ hbl
  have HB3 : Kp (Below w.heap.size w w3) := ⟨Below.then HB2.out HB2.out.size hbl⟩
  clear hbl HB2 hs c0 c1 c2 c3 c4 c5 d0 d1 d2 d3
  obtain ⟨hs, c0, c1, c2, c3, c4, c5, d0, d1, d2, d3⟩ := hS
  go_wp2_with fail
  go_region_held3 (fun w' => w.heap.size + 1 < w'.heap.size ∧ w'.cell? ⟨w.heap.size, 0, none⟩ = some (.int .i64 sraw) ∧ w'.cell? ⟨w.heap.size, 1, none⟩ = some (.int .i64 time) ∧ w'.cell? ⟨w.heap.size, 2, none⟩ = some (.int .i64 ppb) ∧ w'.cell? ⟨w.heap.size, 3, none⟩ = some (.int .i64 left) ∧ w'.cell? ⟨w.heap.size, 4, none⟩ = some (.int .i64 rate) ∧ w'.cell? ⟨w.heap.size, 5, none⟩ = some (.int .i64 steps) ∧ w'.cell? ⟨w.heap.size + 1, 0, none⟩ = some (.int .i64 kind) ∧ w'.cell? ⟨w.heap.size + 1, 1, none⟩ = some (.int .i64 raw) ∧ w'.cell? ⟨w.heap.size + 1, 2, none⟩ = some (.int .i64 a) ∧ w'.cell? ⟨w.heap.size + 1, 3, none⟩ = some (.int .i64 b)) (first | exact held10 (by assumption) hbl2 | exact held10 (by assumption) hbl1 | go_keep)
    (first | (go_at_call 10; refine (o1 _).mono ?_; rintro e w4 ⟨bk2, rfl, hb, hk, hbl1⟩) | (go_at_call 16; refine (nw _ _ hk).mono ?_; rintro e w5 ⟨rfl, hbl2⟩))
  have hS := held10 (w := w) ⟨hs, c0, c1, c2, c3, c4, c5, d0, d1, d2, d3⟩ (chain3r (Below.refl _ w3) hbl1 hbl2)
  have HB4 : Kp (Below w.heap.size w w5) := ⟨chain3r HB3.out hbl1 hbl2⟩
  clear hbl1 hbl2 hk hb HB3 hs c0 c1 c2 c3 c4 c5 d0 d1 d2 d3
  obtain ⟨hs, c0, c1, c2, c3, c4, c5, d0, d1, d2, d3⟩ := hS
  go_wp2_with fail
  refine (awake_any _).mono ?_
  rintro e wE ⟨rfl, hbl⟩
  have HE : Kp (Below w.heap.size w wE) := ⟨Below.then HB4.out HB4.out.size hbl⟩
  clear hbl hs c0 c1 c2 c3 c4 c5 d0 d1 d2 d3
  go_wp2_with fail
  go_ret
  exact ⟨by simp, HE.out⟩
set_option maxHeartbeats 2000000 in
theorem ref_nil (sraw time ppb left rate steps kind raw a b : Int) (ok : ¬ (CS.mk sraw time ppb left rate steps).Ok) (hs : steps ≤ 9223372036854775807) (w : World) : Calls Try.prog 8 #[.agg #[.int .i64 sraw, .int .i64 time, .int .i64 ppb, .int .i64 left, .int .i64 rate, .int .i64 steps], .agg #[.int .i64 kind, .int .i64 raw, .int .i64 a, .int .i64 b]] w fun x w' => x = .returned (.bool true) ∧ Below w.heap.size w w' := by
  have o1 := fun w => of_bad _ ok hs w
  unfold CS.vals at o1
  simp only at o1
  clear ok hs
  go_enter Try.func8, Try.ntmps8
  go_wp2_with fail
  have HX := below_alloc2 w (.cells #[.int .i64 sraw, .int .i64 time, .int .i64 ppb, .int .i64 left, .int .i64 rate, .int .i64 steps] 23) (.cells #[.int .i64 kind, .int .i64 raw, .int .i64 a, .int .i64 b] 35)
  refine (o1 _).mono ?_
  rintro e w1 ⟨rfl, hbl⟩
  have HB1 : Kp (Below w.heap.size w w1) := ⟨Below.then HX HX.size hbl⟩
  clear HX hbl
  go_wp2_with fail
  refine (awake_any _).mono ?_
  rintro e wE ⟨rfl, hbl⟩
  have HE : Kp (Below w.heap.size w wE) := ⟨Below.then HB1.out HB1.out.size hbl⟩
  clear hbl
  go_wp2_with fail
  go_ret
  exact ⟨by simp, HE.out⟩
theorem refuses_walk (sraw time ppb left rate steps kind raw a b : Int) (_ : I64 sraw) (_ : I64 time) (_ : I64 ppb) (_ : I64 left) (_ : I64 rate) (hs : I64 steps) (_ : I64 kind) (hr : I64 raw) (_ : I64 a) (_ : I64 b) (w : World) : Calls Try.prog 8 #[.agg #[.int .i64 sraw, .int .i64 time, .int .i64 ppb, .int .i64 left, .int .i64 rate, .int .i64 steps], .agg #[.int .i64 kind, .int .i64 raw, .int .i64 a, .int .i64 b]] w fun x w' => x = .returned (.bool true) ∧ Below w.heap.size w w' := by
  by_cases ok : (CS.mk sraw time ppb left rate steps).Ok
  · rcases (show raw < sraw ∨ (¬ raw < sraw ∧ raw ≤ 4503599627370496) ∨ (¬ raw < sraw ∧ 4503599627370496 < raw) by omega) with o | ⟨o, o2⟩ | ⟨o, o2⟩
    · by_cases k0 : 0 ≤ kind
      · by_cases k3 : kind ≤ 3
        · by_cases he : (callF (CS.mk sraw time ppb left rate steps) kind raw a b).2.2 = 0
          · exact ref_N3L sraw time ppb left rate steps kind raw a b ok hr.2 k0 k3 he o w
          · exact ref_GL sraw time ppb left rate steps kind raw a b ok hr.2 k0 k3 he o w
        · exact ref_N2L sraw time ppb left rate steps kind raw a b ok hr.2 k0 (by omega) o w
      · exact ref_N1L sraw time ppb left rate steps kind raw a b ok hr.2 (by omega) o w
    · by_cases k0 : 0 ≤ kind
      · by_cases k3 : kind ≤ 3
        · by_cases he : (callF (CS.mk sraw time ppb left rate steps) kind raw a b).2.2 = 0
          · exact ref_N3M sraw time ppb left rate steps kind raw a b ok hr.2 k0 k3 he o o2 w
          · exact ref_GM sraw time ppb left rate steps kind raw a b ok hr.2 k0 k3 he o o2 w
        · exact ref_N2M sraw time ppb left rate steps kind raw a b ok hr.2 k0 (by omega) o o2 w
      · exact ref_N1M sraw time ppb left rate steps kind raw a b ok hr.2 (by omega) o o2 w
    · by_cases k0 : 0 ≤ kind
      · by_cases k3 : kind ≤ 3
        · by_cases he : (callF (CS.mk sraw time ppb left rate steps) kind raw a b).2.2 = 0
          · exact ref_N3F sraw time ppb left rate steps kind raw a b ok hr.2 k0 k3 he o o2 w
          · exact ref_GF sraw time ppb left rate steps kind raw a b ok hr.2 k0 k3 he o o2 w
        · exact ref_N2F sraw time ppb left rate steps kind raw a b ok hr.2 k0 (by omega) o o2 w
      · exact ref_N1F sraw time ppb left rate steps kind raw a b ok hr.2 (by omega) o o2 w
  · exact ref_nil sraw time ppb left rate steps kind raw a b ok hs.2 w
end Go.Proofs.Ytnfkffaogidleaa
