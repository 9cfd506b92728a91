/-
  The reference's loop of layer 13 in memory, and its small functions.
-/
import Derived.Test.YtbfobodaeimklaaDoorPllR
set_option linter.unusedSimpArgs false
set_option linter.unusedVariables false
namespace Go.Proofs.YtbfobodaeimklaaDoor
open Go.RowKit
/-- Block b is a loop of the reference in the state s, with the action (k, v). -/
structure Rp (w : World) (b : Nat) (s : LS) (k v : Int) : Prop where
  lt : b < w.heap.size
  c0 : w.cell? ⟨b, 0, none⟩ = some (.int .i64 s.mn)
  c1 : w.cell? ⟨b, 1, none⟩ = some (.int .i64 s.mx)
  c2 : w.cell? ⟨b, 2, none⟩ = some (.int .i64 s.sa)
  c3 : w.cell? ⟨b, 3, none⟩ = some (.int .i64 s.so)
  c4 : w.cell? ⟨b, 4, none⟩ = some (.int .i64 s.li)
  c5 : w.cell? ⟨b, 5, none⟩ = some (.int .i64 s.st)
  c6 : w.cell? ⟨b, 6, none⟩ = some (.int .i64 s.fr)
  c7 : w.cell? ⟨b, 7, none⟩ = some (.int .i64 s.ph)
  c8 : w.cell? ⟨b, 8, none⟩ = some (.bool s.up)
  c9 : w.cell? ⟨b, 9, none⟩ = some (.int .i64 s.la)
  c10 : w.cell? ⟨b, 10, none⟩ = some (.int .i64 s.po)
  c11 : w.cell? ⟨b, 11, none⟩ = some (.int .i64 s.sp)
  c12 : w.cell? ⟨b, 12, none⟩ = some (.int .i64 k)
  c13 : w.cell? ⟨b, 13, none⟩ = some (.int .i64 v)
  f5 : w.frozen? ⟨b, 5, none⟩ = false
  f6 : w.frozen? ⟨b, 6, none⟩ = false
  f7 : w.frozen? ⟨b, 7, none⟩ = false
  f8 : w.frozen? ⟨b, 8, none⟩ = false
  f9 : w.frozen? ⟨b, 9, none⟩ = false
  f10 : w.frozen? ⟨b, 10, none⟩ = false
  f11 : w.frozen? ⟨b, 11, none⟩ = false
  f12 : w.frozen? ⟨b, 12, none⟩ = false
  f13 : w.frozen? ⟨b, 13, none⟩ = false
theorem Rp.same {w W : World} {b : Nat} {s : LS} {k v : Int} (h : Rp w b s k v) (hs : w.heap.size ≤ W.heap.size) (hb : W.heap[b]? = w.heap[b]?) : Rp W b s k v :=
  have c : ∀ i, W.cell? ⟨b, i, none⟩ = w.cell? ⟨b, i, none⟩ := fun i => World.cell?_of_block (w := w) hb
  have f : ∀ i, W.frozen? ⟨b, i, none⟩ = w.frozen? ⟨b, i, none⟩ := fun i => World.frozen?_of_block (w := w) hb
  ⟨Nat.lt_of_lt_of_le h.lt hs, (c _).trans h.c0, (c _).trans h.c1, (c _).trans h.c2, (c _).trans h.c3, (c _).trans h.c4, (c _).trans h.c5, (c _).trans h.c6, (c _).trans h.c7, (c _).trans h.c8, (c _).trans h.c9, (c _).trans h.c10, (c _).trans h.c11, (c _).trans h.c12, (c _).trans h.c13, (f _).trans h.f5, (f _).trans h.f6, (f _).trans h.f7, (f _).trans h.f8, (f _).trans h.f9, (f _).trans h.f10, (f _).trans h.f11, (f _).trans h.f12, (f _).trans h.f13⟩
theorem Rp.setOther {w : World} {b : Nat} {s : LS} {k v : Int} (h : Rp w b s k v) {p : Addr} (hp : b ≠ p.block) (u : Value) : Rp (w.setCell p u) b s k v :=
  h.same (by simp [World.setCell]) (Below.heap_setCell _ _ _ _ hp)
theorem Oth.rp {b c : Nat} {w w' : World} {s : LS} {k v : Int} (h : Oth b w w') (j : Rp w c s k v) (hb : c ≠ b) : Rp w' c s k v := j.same h.size (h.block c j.lt hb)
theorem Rp.alloc {w : World} {b : Nat} {s : LS} {k v : Int} (h : Rp w b s k v) (o : Obj) : Rp (w.alloc o) b s k v := ((Oth.refl (b + 1) _).alloc o).rp h (by omega)
theorem Rp.drewN {w : World} {b : Nat} {s : LS} {k v : Int} (h : Rp w b s k v) (n : Nat) : Rp (w.drewN n) b s k v := ((Oth.refl (b + 1) _).drewN n).rp h (by omega)
theorem Rp.drew {w : World} {b : Nat} {s : LS} {k v : Int} (h : Rp w b s k v) : Rp w.drew b s k v := ((Oth.refl (b + 1) _).drew).rp h (by omega)
theorem Rp.set5 {w : World} {b : Nat} {s : LS} {k v : Int} (h : Rp w b s k v) (u : Int) : Rp (w.setCell ⟨b, 5, none⟩ (.int .i64 u)) b { s with st := u } k v := by
  obtain ⟨lt, c0, c1, c2, c3, c4, c5, c6, c7, c8, c9, c10, c11, c12, c13, f5, f6, f7, f8, f9, f10, f11, f12, f13⟩ := h
  refine ⟨by simp [World.setCell, lt], ?_, ?_, ?_, ?_, ?_, ?_, ?_, ?_, ?_, ?_, ?_, ?_, ?_, ?_, ?_, ?_, ?_, ?_, ?_, ?_, ?_, ?_, ?_⟩ <;> simp [go_sem, c0, c1, c2, c3, c4, c5, c6, c7, c8, c9, c10, c11, c12, c13, f5, f6, f7, f8, f9, f10, f11, f12, f13, World.frozen?_setCell]
theorem Rp.set6 {w : World} {b : Nat} {s : LS} {k v : Int} (h : Rp w b s k v) (u : Int) : Rp (w.setCell ⟨b, 6, none⟩ (.int .i64 u)) b { s with fr := u } k v := by
  obtain ⟨lt, c0, c1, c2, c3, c4, c5, c6, c7, c8, c9, c10, c11, c12, c13, f5, f6, f7, f8, f9, f10, f11, f12, f13⟩ := h
  refine ⟨by simp [World.setCell, lt], ?_, ?_, ?_, ?_, ?_, ?_, ?_, ?_, ?_, ?_, ?_, ?_, ?_, ?_, ?_, ?_, ?_, ?_, ?_, ?_, ?_, ?_, ?_⟩ <;> simp [go_sem, c0, c1, c2, c3, c4, c5, c6, c7, c8, c9, c10, c11, c12, c13, f5, f6, f7, f8, f9, f10, f11, f12, f13, World.frozen?_setCell]
theorem Rp.set7 {w : World} {b : Nat} {s : LS} {k v : Int} (h : Rp w b s k v) (u : Int) : Rp (w.setCell ⟨b, 7, none⟩ (.int .i64 u)) b { s with ph := u } k v := by
  obtain ⟨lt, c0, c1, c2, c3, c4, c5, c6, c7, c8, c9, c10, c11, c12, c13, f5, f6, f7, f8, f9, f10, f11, f12, f13⟩ := h
  refine ⟨by simp [World.setCell, lt], ?_, ?_, ?_, ?_, ?_, ?_, ?_, ?_, ?_, ?_, ?_, ?_, ?_, ?_, ?_, ?_, ?_, ?_, ?_, ?_, ?_, ?_, ?_⟩ <;> simp [go_sem, c0, c1, c2, c3, c4, c5, c6, c7, c8, c9, c10, c11, c12, c13, f5, f6, f7, f8, f9, f10, f11, f12, f13, World.frozen?_setCell]
theorem Rp.set8 {w : World} {b : Nat} {s : LS} {k v : Int} (h : Rp w b s k v) (u : Bool) : Rp (w.setCell ⟨b, 8, none⟩ (.bool u)) b { s with up := u } k v := by
  obtain ⟨lt, c0, c1, c2, c3, c4, c5, c6, c7, c8, c9, c10, c11, c12, c13, f5, f6, f7, f8, f9, f10, f11, f12, f13⟩ := h
  refine ⟨by simp [World.setCell, lt], ?_, ?_, ?_, ?_, ?_, ?_, ?_, ?_, ?_, ?_, ?_, ?_, ?_, ?_, ?_, ?_, ?_, ?_, ?_, ?_, ?_, ?_, ?_⟩ <;> simp [go_sem, c0, c1, c2, c3, c4, c5, c6, c7, c8, c9, c10, c11, c12, c13, f5, f6, f7, f8, f9, f10, f11, f12, f13, World.frozen?_setCell]
theorem Rp.set9 {w : World} {b : Nat} {s : LS} {k v : Int} (h : Rp w b s k v) (u : Int) : Rp (w.setCell ⟨b, 9, none⟩ (.int .i64 u)) b { s with la := u } k v := by
  obtain ⟨lt, c0, c1, c2, c3, c4, c5, c6, c7, c8, c9, c10, c11, c12, c13, f5, f6, f7, f8, f9, f10, f11, f12, f13⟩ := h
  refine ⟨by simp [World.setCell, lt], ?_, ?_, ?_, ?_, ?_, ?_, ?_, ?_, ?_, ?_, ?_, ?_, ?_, ?_, ?_, ?_, ?_, ?_, ?_, ?_, ?_, ?_, ?_⟩ <;> simp [go_sem, c0, c1, c2, c3, c4, c5, c6, c7, c8, c9, c10, c11, c12, c13, f5, f6, f7, f8, f9, f10, f11, f12, f13, World.frozen?_setCell]
theorem Rp.set10 {w : World} {b : Nat} {s : LS} {k v : Int} (h : Rp w b s k v) (u : Int) : Rp (w.setCell ⟨b, 10, none⟩ (.int .i64 u)) b { s with po := u } k v := by
  obtain ⟨lt, c0, c1, c2, c3, c4, c5, c6, c7, c8, c9, c10, c11, c12, c13, f5, f6, f7, f8, f9, f10, f11, f12, f13⟩ := h
  refine ⟨by simp [World.setCell, lt], ?_, ?_, ?_, ?_, ?_, ?_, ?_, ?_, ?_, ?_, ?_, ?_, ?_, ?_, ?_, ?_, ?_, ?_, ?_, ?_, ?_, ?_, ?_⟩ <;> simp [go_sem, c0, c1, c2, c3, c4, c5, c6, c7, c8, c9, c10, c11, c12, c13, f5, f6, f7, f8, f9, f10, f11, f12, f13, World.frozen?_setCell]
theorem Rp.set11 {w : World} {b : Nat} {s : LS} {k v : Int} (h : Rp w b s k v) (u : Int) : Rp (w.setCell ⟨b, 11, none⟩ (.int .i64 u)) b { s with sp := u } k v := by
  obtain ⟨lt, c0, c1, c2, c3, c4, c5, c6, c7, c8, c9, c10, c11, c12, c13, f5, f6, f7, f8, f9, f10, f11, f12, f13⟩ := h
  refine ⟨by simp [World.setCell, lt], ?_, ?_, ?_, ?_, ?_, ?_, ?_, ?_, ?_, ?_, ?_, ?_, ?_, ?_, ?_, ?_, ?_, ?_, ?_, ?_, ?_, ?_, ?_⟩ <;> simp [go_sem, c0, c1, c2, c3, c4, c5, c6, c7, c8, c9, c10, c11, c12, c13, f5, f6, f7, f8, f9, f10, f11, f12, f13, World.frozen?_setCell]
theorem Rp.set12 {w : World} {b : Nat} {s : LS} {k v : Int} (h : Rp w b s k v) (u : Int) : Rp (w.setCell ⟨b, 12, none⟩ (.int .i64 u)) b s u v := by
  obtain ⟨lt, c0, c1, c2, c3, c4, c5, c6, c7, c8, c9, c10, c11, c12, c13, f5, f6, f7, f8, f9, f10, f11, f12, f13⟩ := h
  refine ⟨by simp [World.setCell, lt], ?_, ?_, ?_, ?_, ?_, ?_, ?_, ?_, ?_, ?_, ?_, ?_, ?_, ?_, ?_, ?_, ?_, ?_, ?_, ?_, ?_, ?_, ?_⟩ <;> simp [go_sem, c0, c1, c2, c3, c4, c5, c6, c7, c8, c9, c10, c11, c12, c13, f5, f6, f7, f8, f9, f10, f11, f12, f13, World.frozen?_setCell]
theorem Rp.set13 {w : World} {b : Nat} {s : LS} {k v : Int} (h : Rp w b s k v) (u : Int) : Rp (w.setCell ⟨b, 13, none⟩ (.int .i64 u)) b s k u := by
  obtain ⟨lt, c0, c1, c2, c3, c4, c5, c6, c7, c8, c9, c10, c11, c12, c13, f5, f6, f7, f8, f9, f10, f11, f12, f13⟩ := h
  refine ⟨by simp [World.setCell, lt], ?_, ?_, ?_, ?_, ?_, ?_, ?_, ?_, ?_, ?_, ?_, ?_, ?_, ?_, ?_, ?_, ?_, ?_, ?_, ?_, ?_, ?_, ?_⟩ <;> simp [go_sem, c0, c1, c2, c3, c4, c5, c6, c7, c8, c9, c10, c11, c12, c13, f5, f6, f7, f8, f9, f10, f11, f12, f13, World.frozen?_setCell]
theorem rp_alloc (w : World) (mn mx sa so li : Int) (t : TypeId) : Rp (w.alloc (.cells #[.int .i64 mn, .int .i64 mx, .int .i64 sa, .int .i64 so, .int .i64 li, .int .i64 0, .int .i64 0, .int .i64 0, .bool false, .int .i64 0, .int .i64 mn, .int .i64 0, .int .i64 0, .int .i64 0] t)) w.heap.size (LS.new mn mx sa so li) 0 0 := by
  constructor
  · simp
  all_goals first | (rw [World.cell?_alloc_at _ _ _ _ rfl]; rfl) | exact World.frozen?_alloc_at _ _ _ _ rfl
/-- A call that leaves the reference's loop in block b in the state s with the action (k, v), and returns u. -/
def RPost (b : Nat) (s : LS) (k v : Int) (u : Value) (w : World) (x : Ending) (w' : World) : Prop := x = .returned u ∧ Rp w' b s k v ∧ Oth b w w'
def RNewPost (s : LS) (w : World) (x : Ending) (w' : World) : Prop := ∃ b, x = .returned (.pointer (some ⟨b, 0, none⟩)) ∧ w.heap.size ≤ b ∧ Rp w' b s 0 0 ∧ Below w.heap.size w w'

theorem rlstate_any (b : Nat) (s : LS) (k v : Int) (w : World) (h : Rp w b s k v) : Calls Tryd.prog 21 #[.pointer (some ⟨b, 0, none⟩)] w fun x w' => x = .returned (.int .i64 s.st) ∧ w = w' := by
  have c := h.c5
  clear h
  go_enter Tryd.func21, Tryd.ntmps21
  go_wp2
  go_ret
  exact ⟨rfl, rfl⟩
theorem rlfreq_any (b : Nat) (s : LS) (k v : Int) (w : World) (h : Rp w b s k v) : Calls Tryd.prog 23 #[.pointer (some ⟨b, 0, none⟩)] w fun x w' => x = .returned (.int .i64 s.fr) ∧ w = w' := by
  have c := h.c6
  clear h
  go_enter Tryd.func23, Tryd.ntmps23
  go_wp2
  go_ret
  exact ⟨rfl, rfl⟩
theorem rlphase_any (b : Nat) (s : LS) (k v : Int) (w : World) (h : Rp w b s k v) : Calls Tryd.prog 25 #[.pointer (some ⟨b, 0, none⟩)] w fun x w' => x = .returned (.int .i64 s.ph) ∧ w = w' := by
  have c := h.c7
  clear h
  go_enter Tryd.func25, Tryd.ntmps25
  go_wp2
  go_ret
  exact ⟨rfl, rfl⟩
set_option maxHeartbeats 1000000 in
theorem rtick_any (b : Nat) (s : LS) (k v : Int) (w : World) (h : Rp w b s k v) (p1 : 3 ≤ s.po) (p2 : s.po ≤ 17) (q1 : -1125899906842624 ≤ s.ph) (q2 : s.ph ≤ 1125899906842624) : Calls Tryd.prog 17 #[.pointer (some ⟨b, 0, none⟩)] w (RPost b (tickF s) k v (.int .i64 (tickV s)) w) := by
  have H := Kp.mk h
  obtain ⟨lt, c0, c1, c2, c3, c4, c5, c6, c7, c8, c9, c10, c11, c12, c13, f5, f6, f7, f8, f9, f10, f11, f12, f13⟩ := h
  have hp := pow_rows p1 p2
  unfold tickF tickV
  obtain ⟨D, hD⟩ : ∃ D, 16 * (2 : Int) ^ s.po.toNat = D := ⟨_, rfl⟩
  have hD1 : 0 < D := by omega
  have eD : IntKind.i64.wrap D = D := by rw [IntKind.wrap_i64]; omega
  have tb := tdiv_bound q1 q2 hD1
  rw [hD]
  have e3 : wrap64 (s.ph - s.ph.tdiv D) = s.ph - s.ph.tdiv D := by unfold wrap64; omega
  clear hp
  go_enter Tryd.func17, Tryd.ntmps17
  go_wp2
  go_quiet (fail)
  rename_i nq
  go_wp2
  refine bodyPost_ret (v := .int .i64 (s.ph.tdiv D)) (by simp [results, Tryd.results17, go_sem]) rfl ⟨rfl, ?_, ?_⟩
  · exact (H.out.drewN nq).set7 _
  · exact ((Oth.refl _ _).drewN nq).setCell (by rfl) _
theorem rnew_bad (mn mx sa so li : Int) (h : chkF mn mx sa so li ≠ 0) (w : World) : Calls Tryd.prog 14 #[.agg #[.int .i64 mn, .int .i64 mx, .int .i64 sa, .int .i64 so, .int .i64 li]] w (QPost (.pointer none) w) := by
  have ck := fun w => rcheck_any mn mx sa so li w
  generalize chkF mn mx sa so li = e at *
  have t1 : (e != 0) = true := by simpa using h
  clear h
  go_enter Tryd.func14, Tryd.ntmps14
  go_wp2_with fail
  refine (ck _).mono ?_
  rintro x w1 ⟨rfl, hb⟩
  go_wp2
  refine bodyPost_ret (v := .pointer none) (by simp [results, Tryd.results14, go_sem]) rfl ⟨rfl, ?_⟩
  exact Below.then ((Below.refl _ _).alloc (Nat.le_refl _) _) (by simp) hb
theorem rnew_good (mn mx sa so li : Int) (h : chkF mn mx sa so li = 0) (w : World) : Calls Tryd.prog 14 #[.agg #[.int .i64 mn, .int .i64 mx, .int .i64 sa, .int .i64 so, .int .i64 li]] w (RNewPost (LS.new mn mx sa so li) w) := by
  have ck := fun w => rcheck_any mn mx sa so li w
  rw [h] at ck
  clear h
  go_enter Tryd.func14, Tryd.ntmps14
  go_wp2_with fail
  refine (ck _).mono ?_
  rintro x w1 ⟨rfl, hb⟩
  have HB := Kp.mk hb
  obtain ⟨r0, r1, r2, r3, r4⟩ := box5 hb
  clear hb
  go_wp2
  exact bodyPost_ret (v := .pointer (some ⟨w1.heap.size, 0, none⟩)) (by simp [results, Tryd.results14, go_sem]) rfl ⟨_, rfl, Nat.le_trans (by simp) HB.out.size, rp_alloc w1 mn mx sa so li _, (Below.then ((Below.refl _ _).alloc (Nat.le_refl _) _) (by simp) HB.out).alloc (Nat.le_trans (by simp) HB.out.size) _⟩
theorem rfl_any (a b : Int) (ha : -9223372036854775808 < a) (ha2 : a ≤ 9223372036854775807) (hb : 0 < b) (w : World) : Calls Tryd.prog 36 #[.int .i64 a, .int .i64 b] w fun e w' => e = .returned (.int .i64 (a / b)) ∧ w = w' := by
  have hab := tdiv_abs hb (m := 9223372036854775807) (by omega) ha2
  have n0 : (b == 0) = false := by simp; omega
  by_cases hm : a.tmod b < 0
  · have t1 : decide (a.tmod b < 0) = true := by simpa using hm
    have e1 : a.tdiv b = a / b + 1 := tdiv_up hb (by
      rintro (h | h)
      · exact absurd (Int.tmod_nonneg b h) (by omega)
      · rw [Int.tmod_eq_zero_of_dvd h] at hm; omega)
    have e2 : wrap64 (a.tdiv b - 1) = a / b := by rw [e1]; unfold wrap64; omega
    clear e1 hab
    go_enter Tryd.func36, Tryd.ntmps36
    go_wp2
    exact bodyPost_ret (v := .int .i64 (a / b)) (by simp [results, Tryd.results36, go_sem, e2]) rfl ⟨rfl, rfl⟩
  · have t1 : decide (a.tmod b < 0) = false := by simpa using hm
    have e1 : a.tdiv b = a / b := tdiv_same (by
      by_cases h : 0 ≤ a
      · exact .inl h
      · right
        have h1 := Int.tmod_nonneg b (show 0 ≤ -a by omega)
        rw [Int.neg_tmod] at h1
        exact Int.dvd_of_tmod_eq_zero (by omega))
    have e2 : wrap64 (a / b) = a / b := by unfold wrap64; omega
    clear hab
    go_enter Tryd.func36, Tryd.ntmps36
    go_wp2
    exact bodyPost_ret (v := .int .i64 (a / b)) (by simp [results, Tryd.results36, go_sem, e2]) rfl ⟨rfl, rfl⟩
theorem steer_any (b : Nat) (s : LS) (k v : Int) (d : Int) (w : World) (h : Rp w b s k v) (p1 : -4503599627370496 ≤ s.fr + d) (p2 : s.fr + d ≤ 4503599627370496) (q1 : 1 ≤ s.li) (q2 : s.li ≤ 500000) : Calls Tryd.prog 35 #[.pointer (some ⟨b, 0, none⟩), .int .i64 d] w (RPost b { s with fr := clampF (s.fr + d) (-s.li) s.li } k v (.tuple #[]) w) := by
  have H := Kp.mk h
  obtain ⟨lt, c0, c1, c2, c3, c4, c5, c6, c7, c8, c9, c10, c11, c12, c13, f5, f6, f7, f8, f9, f10, f11, f12, f13⟩ := h
  have e1 : wrap64 (s.fr + d) = s.fr + d := by unfold wrap64; omega
  have e2 : wrap64 (-s.li) = -s.li := by unfold wrap64; omega
  have e3 : max (-s.li) (min s.li (s.fr + d)) = clampF (s.fr + d) (-s.li) s.li := by unfold clampF; split <;> (try split) <;> omega
  rw [← e3]
  clear e3
  go_enter Tryd.func35, Tryd.ntmps35
  go_wp2
  refine wp_region_quiet_tail 20 (by kernel_rfl) (by kernel_rfl) ?_
  simp only [List.take_succ_cons, List.take_zero, List.drop_succ_cons, List.drop_zero]
  repeat (go_big_quiet_step (fail))
  refine wpQuiet_nil ?_
  intro w5 hw'
  obtain ⟨nq, hw''⟩ := hw'
  subst hw''
  go_wp2
  refine bodyPost_end (results_none rfl _ _ _) rfl ⟨rfl, ?_, ?_⟩
  · exact (H.out.drewN nq).set6 _
  · exact ((Oth.refl _ _).drewN nq).setCell (by rfl) _
theorem step_any (b : Nat) (s : LS) (k v : Int) (o z : Int) (w : World) (h : Rp w b s k v) : Calls Tryd.prog 34 #[.pointer (some ⟨b, 0, none⟩), .int .i64 o, .int .i64 z] w (RPost b { s with ph := 0, st := z } 2 o (.tuple #[]) w) := by
  have H := Kp.mk h
  obtain ⟨lt, c0, c1, c2, c3, c4, c5, c6, c7, c8, c9, c10, c11, c12, c13, f5, f6, f7, f8, f9, f10, f11, f12, f13⟩ := h
  go_enter Tryd.func34, Tryd.ntmps34
  go_wp2
  refine bodyPost_end (results_none rfl _ _ _) rfl ⟨rfl, ?_, ?_⟩
  · exact (((H.out.set7 _).set5 _).set12 _).set13 _
  · exact ((((Oth.refl _ _).setCell (by rfl) _).setCell (by rfl) _).setCell (by rfl) _).setCell (by rfl) _
/-- The reference's product: the quotient of the whole. -/
theorem prod_div (o m D : Int) (hD : 0 < D) : o / D * m + (o - o / D * D) * m / D = o * m / D := by
  have h : o * m = (o - o / D * D) * m + D * (o / D * m) := by
    rw [Int.sub_mul]
    have : D * (o / D * m) = o / D * D * m := by rw [← Int.mul_assoc, Int.mul_comm D]
    omega
  rw [h, Int.add_mul_ediv_left _ _ (by omega : D ≠ 0)]
  omega
set_option maxHeartbeats 2000000 in
theorem rphase_any (o mu poll : Int) (w : World) (hm : 1 ≤ mu) (hm2 : mu ≤ 1073741824) (hp : 3 ≤ poll) (hp2 : poll ≤ 17) (ho : -1125899906842624 ≤ o) (ho2 : o ≤ 1125899906842624) : Calls Tryd.prog 37 #[.int .i64 o, .int .i64 mu, .int .i64 poll] w fun e w' => e = .returned (.int .i64 (o * min mu (2 ^ poll.toNat) / (16 * 2 ^ poll.toNat * 2 ^ poll.toNat))) ∧ w = w' := by
  have hpow := pow_rows hp hp2
  obtain ⟨T, hT⟩ : ∃ T, (2 : Int) ^ poll.toNat = T := ⟨_, rfl⟩
  have hpp := pow_prod hp hp2 hT
  rw [hT] at hpow
  have eT : IntKind.i64.wrap (1 * 2 ^ poll.toNat) = T := by rw [hT, IntKind.wrap_i64]; omega
  have eT2 : IntKind.i64.wrap (2 ^ poll.toNat) = T := by rw [hT, IntKind.wrap_i64]; omega
  rw [hT]
  have e0 : wrap64 T = T := by unfold wrap64; omega
  have e1 : wrap64 (16 * T) = 16 * T := by unfold wrap64; omega
  obtain ⟨D, hDd⟩ : ∃ D, 16 * T * T = D := ⟨_, rfl⟩
  rw [hDd] at hpp
  have e2 : wrap64 (16 * T * T) = D := by rw [hDd]; unfold wrap64; omega
  rw [hDd]
  obtain ⟨m, hmd⟩ : ∃ m, min mu T = m := ⟨_, rfl⟩
  have hm1 : 1 ≤ m ∧ m ≤ 131072 := by omega
  rw [hmd]
  have hD : 0 < D := by omega
  have f1 := fun w => rfl_any o D (by omega) (by omega) hD w
  have hq1 : o % D + D * (o / D) = o := Int.emod_add_mul_ediv o D
  have hr1 := Int.emod_nonneg o (show D ≠ 0 by omega)
  have hr2 := Int.emod_lt_of_pos o hD
  have hqd : o / D * D = o - o % D := by rw [Int.mul_comm]; omega
  have eD : wrap64 D = D := by unfold wrap64; omega
  have e3 : wrap64 (o / D * D) = o / D * D := by unfold wrap64; omega
  have e4 : wrap64 (o - o / D * D) = o - o / D * D := by unfold wrap64; omega
  obtain ⟨r, hrd⟩ : ∃ r, o - o / D * D = r := ⟨_, rfl⟩
  have hr : 0 ≤ r ∧ r < D := by omega
  have e8 : wrap64 r = r := by unfold wrap64; omega
  have hrm : 0 ≤ r * m ∧ r * m ≤ 36028797018963968 := by
    refine ⟨Int.mul_nonneg hr.1 (by omega), ?_⟩
    calc r * m ≤ D * m := Int.mul_le_mul_of_nonneg_right (by omega) (by omega)
      _ ≤ D * 131072 := Int.mul_le_mul_of_nonneg_left hm1.2 (by omega)
      _ ≤ 36028797018963968 := by omega
  have e5 : wrap64 (r * m) = r * m := by unfold wrap64; omega
  have f2 := fun w => rfl_any (r * m) D (by omega) (by omega) hD w
  have hq := quo_bound ho ho2 (show 0 ≤ m by omega) (show m ≤ D by omega) hD
  have hpd := prod_div o m D hD
  rw [hrd] at hpd
  have hrq : 0 ≤ r * m / D ∧ r * m / D ≤ 36028797018963968 := ⟨Int.ediv_nonneg hrm.1 (by omega), Int.le_trans (Int.ediv_le_self _ hrm.1) hrm.2⟩
  have e6 : wrap64 (o / D * m) = o / D * m := by unfold wrap64; omega
  have e7 : wrap64 (o / D * m + r * m / D) = o * m / D := by rw [hpd]; unfold wrap64; omega
  have e9 : wrap64 (o * m / D) = o * m / D := by unfold wrap64; omega
  clear hpow hpp hq hrq hrm hr hr1 hr2 hq1 hqd hm hm2 hm1 ho ho2
  go_enter Tryd.func37, Tryd.ntmps37
  go_wp2_with fail
  simp only [e0, e1, e2, eD, hmd]
  with_reducible refine (f1 _).mono ?_
  rintro e w' ⟨rfl, rfl⟩
  go_wp2_with fail
  with_reducible refine (f2 _).mono ?_
  rintro e w' ⟨rfl, rfl⟩
  go_wp2_with fail
  exact bodyPost_ret (v := .int .i64 (o * m / D)) (by simp [results, Tryd.results37, go_sem, e6, e7, e9, hpd]) rfl ⟨rfl, rfl⟩
end Go.Proofs.YtbfobodaeimklaaDoor
