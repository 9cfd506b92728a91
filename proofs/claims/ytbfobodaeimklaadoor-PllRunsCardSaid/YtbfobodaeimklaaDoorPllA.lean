/-
  The small functions below package pll, and a loop in memory.
-/
import Derived.Test.YtbfobodaeimklaaDoorFixed
import Derived.Test.YtbfobodaeimklaaDoorQTail
set_option linter.unusedSimpArgs false
set_option linter.unusedVariables false
namespace Go.Proofs.YtbfobodaeimklaaDoor
open Go.RowKit
def inB (n lo hi : Int) : Bool := decide (lo ≤ n) && decide (n ≤ hi)
theorem in_any (n lo hi : Int) (w : World) : Calls Tryd.prog 26 #[.int .i64 n, .int .i64 lo, .int .i64 hi] w fun e w' => e = .returned (.bool (inB n lo hi)) ∧ w = w' := by
  unfold inB
  by_cases h : lo ≤ n
  · go_enter Tryd.func26, Tryd.ntmps26
    go_wp2
    go_ret
    exact ⟨by simp [h], rfl⟩
  · go_enter Tryd.func26, Tryd.ntmps26
    go_wp2
    go_ret
    exact ⟨by rw [show decide (lo ≤ n) = false by simpa using h, Bool.false_and]; rfl, rfl⟩
def clampF (n lo hi : Int) : Int := if n < lo then lo else if hi < n then hi else n
theorem clamp_any (n lo hi : Int) (w : World) : Calls Tryd.prog 38 #[.int .i64 n, .int .i64 lo, .int .i64 hi] w fun e w' => e = .returned (.int .i64 (clampF n lo hi)) ∧ w = w' := by
  by_cases h1 : n < lo
  · rw [show clampF n lo hi = lo by simp [clampF, h1]]
    go_enter Tryd.func38, Tryd.ntmps38
    go_wp2
    go_ret
    exact ⟨rfl, rfl⟩
  · by_cases h2 : hi < n
    · rw [show clampF n lo hi = hi by simp [clampF, h1, h2]]
      go_enter Tryd.func38, Tryd.ntmps38
      go_wp2
      go_ret
      exact ⟨rfl, rfl⟩
    · rw [show clampF n lo hi = n by simp [clampF, h1, h2]]
      go_enter Tryd.func38, Tryd.ntmps38
      go_wp2
      go_ret
      exact ⟨rfl, rfl⟩
theorem divides_any (a b : Int) (hb : 0 < b) (w : World) : Calls Tryd.prog 44 #[.int .i64 a, .int .i64 b] w fun e w' => e = .returned (.bool true) ∧ w = w' := by
  have t1 : (b != 0) = true := by simp; omega
  have t2 : (b != -1) = true := by simp; omega
  go_enter Tryd.func44, Tryd.ntmps44
  go_wp2
  go_ret
  exact ⟨rfl, rfl⟩
theorem tdiv_same {a b : Int} (h : 0 ≤ a ∨ b ∣ a) : a.tdiv b = a / b := by rw [Int.tdiv_eq_ediv, if_pos h, Int.add_zero]
theorem tdiv_up {a b : Int} (hb : 0 < b) (h : ¬ (0 ≤ a ∨ b ∣ a)) : a.tdiv b = a / b + 1 := by rw [Int.tdiv_eq_ediv, if_neg h, Int.sign_eq_one_of_pos hb]
theorem tdiv_abs {a b : Int} {m : Int} (hb : 0 < b) (h1 : -m ≤ a) (h2 : a ≤ m) : -m ≤ a / b ∧ a / b ≤ m := by
  have hm : m * 1 ≤ m * b := Int.mul_le_mul_of_nonneg_left (by omega) (by omega)
  refine ⟨(Int.le_ediv_iff_mul_le hb).2 ?_, Int.lt_add_one_iff.1 ((Int.ediv_lt_iff_lt_mul hb).2 ?_)⟩
  · rw [Int.neg_mul]; omega
  · rw [Int.add_mul]; omega
set_option maxHeartbeats 1000000 in
theorem floor_any (a b : Int) (ha : -9223372036854775808 < a) (ha2 : a ≤ 9223372036854775807) (hb : 0 < b) (w : World) : Calls Tryd.prog 39 #[.int .i64 a, .int .i64 b] w fun e w' => e = .returned (.tuple #[.int .i64 (a / b), .bool true]) ∧ w = w' := by
  have dv := fun w => divides_any a b hb w
  go_enter Tryd.func39, Tryd.ntmps39
  go_wp2_with (go_at_call 44; refine (dv _).mono ?_; rintro e w' ⟨rfl, rfl⟩)
  · rename_i h
    go_ret2
    rw [tdiv_same (Or.inr (Int.dvd_of_tmod_eq_zero h))]
    exact ⟨rfl, rfl⟩
  · rename_i h0 h
    have hn : ¬ (0 ≤ a ∨ b ∣ a) := by
      intro k
      rcases k with k | k
      · have e1 : decide (a < 0) = false := by simpa using k
        have e2 : decide (b < 0) = false := by simp; omega
        rw [e1, e2] at h
        simp at h
      · exact h0 (Int.tmod_eq_zero_of_dvd k)
    have hb2 := tdiv_abs (m := 9223372036854775807) hb (by omega) ha2
    go_ret2
    rw [tdiv_up hb hn, show wrap64 (a / b + 1 - 1) = a / b by unfold wrap64; omega]
    exact ⟨rfl, rfl⟩
  · rename_i h0 h
    have hn : 0 ≤ a ∨ b ∣ a := by
      rcases h with h | h
      · simp at h; exact absurd h h0
      · have e2 : decide (b < 0) = false := by simp; omega
        rw [e2] at h
        simp at h
        exact Or.inl h
    go_ret2
    rw [tdiv_same hn]
    exact ⟨rfl, rfl⟩
theorem fl_any (a b : Int) (ha : -9223372036854775808 < a) (ha2 : a ≤ 9223372036854775807) (hb : 0 < b) (w : World) : Calls Tryd.prog 32 #[.int .i64 a, .int .i64 b] w fun e w' => e = .returned (.int .i64 (a / b)) ∧ w = w' := by
  have fl := fun w => floor_any a b ha ha2 hb w
  clear ha ha2 hb
  go_enter Tryd.func32, Tryd.ntmps32
  go_wp2_with (go_at_call 39; refine (fl _).mono ?_; rintro e w' ⟨rfl, rfl⟩)
  go_ret
  exact ⟨rfl, rfl⟩
/-- A state of a loop. -/
structure LS where
  mn : Int
  mx : Int
  sa : Int
  so : Int
  li : Int
  st : Int
  fr : Int
  ph : Int
  la : Int
  po : Int
  up : Bool
  sp : Int
/-- Its fields as values. -/
def LS.vals (s : LS) : Array Value := #[.int .i64 s.mn, .int .i64 s.mx, .int .i64 s.sa, .int .i64 s.so, .int .i64 s.li, .int .i64 s.st, .int .i64 s.fr, .int .i64 s.ph, .int .i64 s.la, .int .i64 s.po, .bool s.up, .int .i64 s.sp]
/-- Block b is a loop in the state s. -/
structure Lp (w : World) (b : Nat) (s : LS) : Prop where
  lt : b < w.heap.size
  c0 : w.cell? ⟨b, 0, none⟩ = some (.int .i64 s.mn)
  c1 : w.cell? ⟨b, 1, none⟩ = some (.int .i64 s.mx)
  c2 : w.cell? ⟨b, 2, none⟩ = some (.int .i64 s.sa)
  c3 : w.cell? ⟨b, 3, none⟩ = some (.int .i64 s.so)
  c4 : w.cell? ⟨b, 4, none⟩ = some (.int .i64 s.li)
  c5 : w.cell? ⟨b, 5, none⟩ = some (.int .i64 s.st)
  c6 : w.cell? ⟨b, 6, none⟩ = some (.int .i64 s.fr)
  c7 : w.cell? ⟨b, 7, none⟩ = some (.int .i64 s.ph)
  c8 : w.cell? ⟨b, 8, none⟩ = some (.int .i64 s.la)
  c9 : w.cell? ⟨b, 9, none⟩ = some (.int .i64 s.po)
  c10 : w.cell? ⟨b, 10, none⟩ = some (.bool s.up)
  c11 : w.cell? ⟨b, 11, none⟩ = some (.int .i64 s.sp)
  f5 : w.frozen? ⟨b, 5, none⟩ = false
  f6 : w.frozen? ⟨b, 6, none⟩ = false
  f7 : w.frozen? ⟨b, 7, none⟩ = false
  f8 : w.frozen? ⟨b, 8, none⟩ = false
  f9 : w.frozen? ⟨b, 9, none⟩ = false
  f10 : w.frozen? ⟨b, 10, none⟩ = false
  f11 : w.frozen? ⟨b, 11, none⟩ = false
theorem Lp.below {w W : World} {b B : Nat} {s : LS} (h : Lp w b s) (hB : Below B w W) (hb : b < B) : Lp W b s :=
  ⟨Nat.lt_of_lt_of_le h.lt hB.size, (hB.cell hb).trans h.c0, (hB.cell hb).trans h.c1, (hB.cell hb).trans h.c2, (hB.cell hb).trans h.c3, (hB.cell hb).trans h.c4, (hB.cell hb).trans h.c5, (hB.cell hb).trans h.c6, (hB.cell hb).trans h.c7, (hB.cell hb).trans h.c8, (hB.cell hb).trans h.c9, (hB.cell hb).trans h.c10, (hB.cell hb).trans h.c11,
    (hB.frozen hb).trans h.f5, (hB.frozen hb).trans h.f6, (hB.frozen hb).trans h.f7, (hB.frozen hb).trans h.f8, (hB.frozen hb).trans h.f9, (hB.frozen hb).trans h.f10, (hB.frozen hb).trans h.f11⟩
/-- What a call may change beside block b: nothing that was there. -/
structure Oth (b : Nat) (w w' : World) : Prop where
  os : w'.os = w.os
  tape : w'.tape = w.tape
  output : w'.output = w.output
  size : w.heap.size ≤ w'.heap.size
  block : ∀ k, k < w.heap.size → k ≠ b → w'.heap[k]? = w.heap[k]?
theorem lp_alloc (w : World) (s : LS) (t : TypeId) : Lp (w.alloc (.cells s.vals t)) w.heap.size s := by
  constructor
  · simp
  all_goals first | (rw [World.cell?_alloc_at _ _ _ _ rfl]; rfl) | exact World.frozen?_alloc_at _ _ _ _ rfl
theorem Oth.refl (b : Nat) (w : World) : Oth b w w := ⟨rfl, rfl, rfl, Nat.le_refl _, fun _ _ _ => rfl⟩
theorem Oth.of_below {b : Nat} {w w' : World} (h : Below w.heap.size w w') : Oth b w w' := ⟨h.os, h.tape, h.output, h.size, fun k hk _ => h.block k hk⟩
theorem Oth.trans {b : Nat} {w w1 w2 : World} (h : Oth b w w1) (k : Oth b w1 w2) : Oth b w w2 :=
  ⟨k.os.trans h.os, k.tape.trans h.tape, k.output.trans h.output, Nat.le_trans h.size k.size, fun i hi hb => (k.block i (Nat.lt_of_lt_of_le hi h.size) hb).trans (h.block i hi hb)⟩
theorem Oth.setCell {b : Nat} {w w' : World} (h : Oth b w w') {p : Addr} (hp : p.block = b) (u : Value) : Oth b w (w'.setCell p u) :=
  h.trans ⟨rfl, rfl, rfl, by simp [World.setCell], fun k _ hk => Below.heap_setCell _ _ _ _ (by omega)⟩
theorem Oth.setNew {b : Nat} {w w' : World} (h : Oth b w w') {p : Addr} (hp : w.heap.size ≤ p.block) (u : Value) : Oth b w (w'.setCell p u) :=
  ⟨h.os, h.tape, h.output, by have := h.size; simp [World.setCell]; omega, fun k hk hb => (Below.heap_setCell _ _ _ _ (by omega)).trans (h.block k hk hb)⟩
theorem Oth.alloc {b : Nat} {w w' : World} (h : Oth b w w') (o : Obj) : Oth b w (w'.alloc o) := h.trans (Oth.of_below ((Below.refl _ _).alloc (Nat.le_refl _) _))
theorem Oth.drewN {b : Nat} {w w' : World} (h : Oth b w w') (n : Nat) : Oth b w (w'.drewN n) := ⟨h.os, h.tape, h.output, h.size, h.block⟩
theorem Oth.drew {b : Nat} {w w' : World} (h : Oth b w w') : Oth b w w'.drew := ⟨h.os, h.tape, h.output, h.size, h.block⟩
theorem Oth.below {B b : Nat} {w w' : World} (h : Oth b w w') (hB : B ≤ b) (hw : B ≤ w.heap.size) : Below B w w' :=
  ⟨h.os, h.tape, h.output, h.size, fun k hk => h.block k (by omega) (by omega)⟩
theorem Oth.cell {b : Nat} {w w' : World} (h : Oth b w w') {p : Addr} (hp : p.block < w.heap.size) (hb : p.block ≠ b) : w'.cell? p = w.cell? p := World.cell?_of_block (w := w) (h.block p.block hp hb)
theorem Oth.frozen {b : Nat} {w w' : World} (h : Oth b w w') {p : Addr} (hp : p.block < w.heap.size) (hb : p.block ≠ b) : w'.frozen? p = w.frozen? p := World.frozen?_of_block (w := w) (h.block p.block hp hb)
theorem Lp.alloc {w : World} {b : Nat} {s : LS} (h : Lp w b s) (o : Obj) : Lp (w.alloc o) b s := h.below ((Below.refl _ _).alloc (Nat.le_refl _) _) h.lt
theorem Lp.drewN {w : World} {b : Nat} {s : LS} (h : Lp w b s) (n : Nat) : Lp (w.drewN n) b s := h.below (Below.of_drewN w n) h.lt
theorem Lp.drew {w : World} {b : Nat} {s : LS} (h : Lp w b s) : Lp w.drew b s := h.below (Below.of_drewN w 1) h.lt
theorem Lp.same {w W : World} {b : Nat} {s : LS} (h : Lp w b s) (hs : w.heap.size ≤ W.heap.size) (hb : W.heap[b]? = w.heap[b]?) : Lp W b s :=
  have c : ∀ i, W.cell? ⟨b, i, none⟩ = w.cell? ⟨b, i, none⟩ := fun i => World.cell?_of_block (w := w) hb
  have f : ∀ i, W.frozen? ⟨b, i, none⟩ = w.frozen? ⟨b, i, none⟩ := fun i => World.frozen?_of_block (w := w) hb
  ⟨Nat.lt_of_lt_of_le h.lt hs, (c _).trans h.c0, (c _).trans h.c1, (c _).trans h.c2, (c _).trans h.c3, (c _).trans h.c4, (c _).trans h.c5, (c _).trans h.c6, (c _).trans h.c7, (c _).trans h.c8, (c _).trans h.c9, (c _).trans h.c10, (c _).trans h.c11,
    (f _).trans h.f5, (f _).trans h.f6, (f _).trans h.f7, (f _).trans h.f8, (f _).trans h.f9, (f _).trans h.f10, (f _).trans h.f11⟩
theorem Lp.setOther {w : World} {b : Nat} {s : LS} (h : Lp w b s) {p : Addr} (hp : b ≠ p.block) (u : Value) : Lp (w.setCell p u) b s :=
  h.same (by simp [World.setCell]) (Below.heap_setCell _ _ _ _ hp)
theorem Oth.lp {b c : Nat} {w w' : World} {s : LS} (h : Oth b w w') (k : Lp w c s) (hb : c ≠ b) : Lp w' c s := k.same h.size (h.block c k.lt hb)
theorem Lp.set5 {w : World} {b : Nat} {s : LS} (h : Lp w b s) (v : Int) : Lp (w.setCell ⟨b, 5, none⟩ (.int .i64 v)) b { s with st := v } := by
  obtain ⟨lt, c0, c1, c2, c3, c4, c5, c6, c7, c8, c9, c10, c11, f5, f6, f7, f8, f9, f10, f11⟩ := h
  refine ⟨by simp [World.setCell, lt], ?_, ?_, ?_, ?_, ?_, ?_, ?_, ?_, ?_, ?_, ?_, ?_, ?_, ?_, ?_, ?_, ?_, ?_, ?_⟩ <;> simp [go_sem, c0, c1, c2, c3, c4, c5, c6, c7, c8, c9, c10, c11, f5, f6, f7, f8, f9, f10, f11, World.frozen?_setCell]
theorem Lp.set6 {w : World} {b : Nat} {s : LS} (h : Lp w b s) (v : Int) : Lp (w.setCell ⟨b, 6, none⟩ (.int .i64 v)) b { s with fr := v } := by
  obtain ⟨lt, c0, c1, c2, c3, c4, c5, c6, c7, c8, c9, c10, c11, f5, f6, f7, f8, f9, f10, f11⟩ := h
  refine ⟨by simp [World.setCell, lt], ?_, ?_, ?_, ?_, ?_, ?_, ?_, ?_, ?_, ?_, ?_, ?_, ?_, ?_, ?_, ?_, ?_, ?_, ?_⟩ <;> simp [go_sem, c0, c1, c2, c3, c4, c5, c6, c7, c8, c9, c10, c11, f5, f6, f7, f8, f9, f10, f11, World.frozen?_setCell]
theorem Lp.set7 {w : World} {b : Nat} {s : LS} (h : Lp w b s) (v : Int) : Lp (w.setCell ⟨b, 7, none⟩ (.int .i64 v)) b { s with ph := v } := by
  obtain ⟨lt, c0, c1, c2, c3, c4, c5, c6, c7, c8, c9, c10, c11, f5, f6, f7, f8, f9, f10, f11⟩ := h
  refine ⟨by simp [World.setCell, lt], ?_, ?_, ?_, ?_, ?_, ?_, ?_, ?_, ?_, ?_, ?_, ?_, ?_, ?_, ?_, ?_, ?_, ?_, ?_⟩ <;> simp [go_sem, c0, c1, c2, c3, c4, c5, c6, c7, c8, c9, c10, c11, f5, f6, f7, f8, f9, f10, f11, World.frozen?_setCell]
theorem Lp.set8 {w : World} {b : Nat} {s : LS} (h : Lp w b s) (v : Int) : Lp (w.setCell ⟨b, 8, none⟩ (.int .i64 v)) b { s with la := v } := by
  obtain ⟨lt, c0, c1, c2, c3, c4, c5, c6, c7, c8, c9, c10, c11, f5, f6, f7, f8, f9, f10, f11⟩ := h
  refine ⟨by simp [World.setCell, lt], ?_, ?_, ?_, ?_, ?_, ?_, ?_, ?_, ?_, ?_, ?_, ?_, ?_, ?_, ?_, ?_, ?_, ?_, ?_⟩ <;> simp [go_sem, c0, c1, c2, c3, c4, c5, c6, c7, c8, c9, c10, c11, f5, f6, f7, f8, f9, f10, f11, World.frozen?_setCell]
theorem Lp.set9 {w : World} {b : Nat} {s : LS} (h : Lp w b s) (v : Int) : Lp (w.setCell ⟨b, 9, none⟩ (.int .i64 v)) b { s with po := v } := by
  obtain ⟨lt, c0, c1, c2, c3, c4, c5, c6, c7, c8, c9, c10, c11, f5, f6, f7, f8, f9, f10, f11⟩ := h
  refine ⟨by simp [World.setCell, lt], ?_, ?_, ?_, ?_, ?_, ?_, ?_, ?_, ?_, ?_, ?_, ?_, ?_, ?_, ?_, ?_, ?_, ?_, ?_⟩ <;> simp [go_sem, c0, c1, c2, c3, c4, c5, c6, c7, c8, c9, c10, c11, f5, f6, f7, f8, f9, f10, f11, World.frozen?_setCell]
theorem Lp.set10 {w : World} {b : Nat} {s : LS} (h : Lp w b s) (v : Bool) : Lp (w.setCell ⟨b, 10, none⟩ (.bool v)) b { s with up := v } := by
  obtain ⟨lt, c0, c1, c2, c3, c4, c5, c6, c7, c8, c9, c10, c11, f5, f6, f7, f8, f9, f10, f11⟩ := h
  refine ⟨by simp [World.setCell, lt], ?_, ?_, ?_, ?_, ?_, ?_, ?_, ?_, ?_, ?_, ?_, ?_, ?_, ?_, ?_, ?_, ?_, ?_, ?_⟩ <;> simp [go_sem, c0, c1, c2, c3, c4, c5, c6, c7, c8, c9, c10, c11, f5, f6, f7, f8, f9, f10, f11, World.frozen?_setCell]
theorem Lp.set11 {w : World} {b : Nat} {s : LS} (h : Lp w b s) (v : Int) : Lp (w.setCell ⟨b, 11, none⟩ (.int .i64 v)) b { s with sp := v } := by
  obtain ⟨lt, c0, c1, c2, c3, c4, c5, c6, c7, c8, c9, c10, c11, f5, f6, f7, f8, f9, f10, f11⟩ := h
  refine ⟨by simp [World.setCell, lt], ?_, ?_, ?_, ?_, ?_, ?_, ?_, ?_, ?_, ?_, ?_, ?_, ?_, ?_, ?_, ?_, ?_, ?_, ?_⟩ <;> simp [go_sem, c0, c1, c2, c3, c4, c5, c6, c7, c8, c9, c10, c11, f5, f6, f7, f8, f9, f10, f11, World.frozen?_setCell]
/-- A call that leaves the loop in block b in the state s, and returns v. -/
def LPost (b : Nat) (s : LS) (v : Value) (w : World) (x : Ending) (w' : World) : Prop := x = .returned v ∧ Lp w' b s ∧ Oth b w w'
def QPost (v : Value) (w : World) (x : Ending) (w' : World) : Prop := x = .returned v ∧ Below w.heap.size w w'
theorem state_any (b : Nat) (s : LS) (w : World) (h : Lp w b s) : Calls Tryd.prog 20 #[.pointer (some ⟨b, 0, none⟩)] w fun x w' => x = .returned (.int .i64 s.st) ∧ w = w' := by
  have c := h.c5
  clear h
  go_enter Tryd.func20, Tryd.ntmps20
  go_wp2
  go_ret
  exact ⟨rfl, rfl⟩
theorem freq_any (b : Nat) (s : LS) (w : World) (h : Lp w b s) : Calls Tryd.prog 22 #[.pointer (some ⟨b, 0, none⟩)] w fun x w' => x = .returned (.int .i64 s.fr) ∧ w = w' := by
  have c := h.c6
  clear h
  go_enter Tryd.func22, Tryd.ntmps22
  go_wp2
  go_ret
  exact ⟨rfl, rfl⟩
theorem phase_any (b : Nat) (s : LS) (w : World) (h : Lp w b s) : Calls Tryd.prog 24 #[.pointer (some ⟨b, 0, none⟩)] w fun x w' => x = .returned (.int .i64 s.ph) ∧ w = w' := by
  have c := h.c7
  clear h
  go_enter Tryd.func24, Tryd.ntmps24
  go_wp2
  go_ret
  exact ⟨rfl, rfl⟩
theorem state_nil (w : World) : Calls Tryd.prog 20 #[.pointer none] w fun x w' => x = .returned (.int .i64 0) ∧ w = w' := by
  go_enter Tryd.func20, Tryd.ntmps20
  go_wp2
  go_ret
  exact ⟨rfl, rfl⟩
theorem freq_nil (w : World) : Calls Tryd.prog 22 #[.pointer none] w fun x w' => x = .returned (.int .i64 0) ∧ w = w' := by
  go_enter Tryd.func22, Tryd.ntmps22
  go_wp2
  go_ret
  exact ⟨rfl, rfl⟩
theorem phase_nil (w : World) : Calls Tryd.prog 24 #[.pointer none] w fun x w' => x = .returned (.int .i64 0) ∧ w = w' := by
  go_enter Tryd.func24, Tryd.ntmps24
  go_wp2
  go_ret
  exact ⟨rfl, rfl⟩
theorem tick_nil (w : World) : Calls Tryd.prog 16 #[.pointer none] w fun x w' => x = .returned (.int .i64 0) ∧ w = w' := by
  go_enter Tryd.func16, Tryd.ntmps16
  go_wp2
  go_ret
  exact ⟨rfl, rfl⟩
theorem update_nil (at' offset poll : Int) (w : World) : Calls Tryd.prog 18 #[.pointer none, .int .i64 at', .int .i64 offset, .int .i64 poll] w (QPost (.tuple #[.agg #[.int .i64 0, .int .i64 0], .int .i64 1]) w) := by
  have hmf : ∀ (fn : Fn) (first cap : Array Value) (w : World), (Instr.makeFunc fn first cap).run Tryd.prog w = .ok (.func fn first cap) w := fun _ _ _ _ => rfl
  go_enter Tryd.func18, Tryd.ntmps18
  go_wp2
  refine bodyPost_ret (v := .tuple #[.agg #[.int .i64 0, .int .i64 0], .int .i64 1]) (by simp [results, Tryd.results18, go_sem]) rfl ⟨rfl, ?_⟩
  exact (((Below.refl _ _).alloc (Nat.le_refl _) _))
end Go.Proofs.YtbfobodaeimklaaDoor
