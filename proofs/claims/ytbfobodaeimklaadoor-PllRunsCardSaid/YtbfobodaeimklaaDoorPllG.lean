/-
  The law's own examples (awake): they hold, and the call leaves what was there.
-/
import Derived.Test.YtbfobodaeimklaaDoorPllF
import Derived.Deep.RegionHeld3
import Derived.Deep.LoopGhost
set_option linter.unusedSimpArgs false
set_option linter.unusedVariables false
namespace Go.Proofs.YtbfobodaeimklaaDoor
open Go.RowKit
/-- The variable conf holds what the program's text lays. -/
structure ConfAt (w : World) : Prop where
  c0 : w.cell? ⟨0, 0, none⟩ = some (.int .i64 3)
  c1 : w.cell? ⟨0, 1, none⟩ = some (.int .i64 17)
  c2 : w.cell? ⟨0, 2, none⟩ = some (.int .i64 128000000)
  c3 : w.cell? ⟨0, 3, none⟩ = some (.int .i64 900)
  c4 : w.cell? ⟨0, 4, none⟩ = some (.int .i64 500000)
theorem ConfAt.below {w W : World} {B : Nat} (h : ConfAt w) (hB : Below B w W) (hb : 0 < B) : ConfAt W :=
  ⟨(hB.cell hb).trans h.c0, (hB.cell hb).trans h.c1, (hB.cell hb).trans h.c2, (hB.cell hb).trans h.c3, (hB.cell hb).trans h.c4⟩
theorem ConfAt.pos {w : World} (h : ConfAt w) : 0 < w.heap.size := by
  have := h.c0
  rcases Nat.lt_or_ge 0 w.heap.size with g | g
  · exact g
  · simp only [World.cell?] at this
    rw [Array.getElem?_eq_none g] at this
    cases this
theorem conf_ok : chkF 3 17 128000000 900 500000 = 0 := by decide
theorem conf_bad : chkF 0 0 0 0 0 ≠ 0 := by decide
def tickF (s : LS) : LS := { s with ph := s.ph - s.ph.tdiv (16 * 2 ^ s.po.toNat) }
def tickV (s : LS) : Int := s.ph.tdiv (16 * 2 ^ s.po.toNat)
def exT (k : Nat) : Int := [0, 0, 0, 0, 1, 0, 0].getD k 0
def exA (k : Nat) : Int := [10, 100, 1010, 1074, 1138, 2037, 2038].getD k 0
def exO (k : Nat) : Int := [1000, 5000, 50000, 64000, 128000000, -128000000, -128000000].getD k 0
def exK (k : Nat) : Int := [1, 0, 1, 1, 0, 0, 2].getD k 0
def exV (k : Nat) : Int := [0, 0, 50, 112, 0, 0, -128000000].getD k 0
def exS (k : Nat) : Int := [1, 1, 3, 3, 2, 2, 3].getD k 0
def exP (k : Nat) : Int := [1000, 1000, 50000, 64000, 63938, 63938, 0].getD k 0
/-- The examples' states. -/
def exL (k : Nat) : LS := [LS.new 3 17 128000000 900 500000, ⟨3, 17, 128000000, 900, 500000, 1, 0, 1000, 10, 6, true, 0⟩, ⟨3, 17, 128000000, 900, 500000, 1, 0, 1000, 10, 6, true, 0⟩,
  ⟨3, 17, 128000000, 900, 500000, 3, 50, 50000, 1010, 6, true, 0⟩, ⟨3, 17, 128000000, 900, 500000, 3, 112, 64000, 1074, 6, true, 0⟩, ⟨3, 17, 128000000, 900, 500000, 2, 112, 63938, 1138, 6, true, 1138⟩,
  ⟨3, 17, 128000000, 900, 500000, 2, 112, 63938, 2037, 6, true, 1138⟩].getD k ⟨3, 17, 128000000, 900, 500000, 3, 112, 0, 2038, 6, true, 1138⟩
theorem ex_ok (k : Nat) (h : k < 8) : (exL k).Ok := by
  rcases (show k = 0 ∨ k = 1 ∨ k = 2 ∨ k = 3 ∨ k = 4 ∨ k = 5 ∨ k = 6 ∨ k = 7 by omega) with h | h | h | h | h | h | h | h <;> subst h <;> constructor <;> simp [exL, LS.new]
def exU (k : Nat) : LS := if exT k = 1 then tickF (exL k) else exL k
theorem exU_ok (k : Nat) (h : k < 7) : (exU k).Ok := by
  rcases (show k = 0 ∨ k = 1 ∨ k = 2 ∨ k = 3 ∨ k = 4 ∨ k = 5 ∨ k = 6 by omega) with h | h | h | h | h | h | h <;> subst h <;> constructor <;> simp [exL, LS.new, exU, exT, tickF] <;> decide
theorem ex_tick (k : Nat) (h : k < 7) (ht : exT k = 1) : tickV (exL k) = 62 := by
  rcases (show k = 0 ∨ k = 1 ∨ k = 2 ∨ k = 3 ∨ k = 4 ∨ k = 5 ∨ k = 6 by omega) with h | h | h | h | h | h | h <;> subst h <;> first | (exfalso; revert ht; decide) | kernel_rfl
theorem ex_upd (k : Nat) (h : k < 7) : updF (exU k) (exA k) (exO k) 6 = (exL (k + 1), (exK k, exV k), 0) := by
  rcases (show k = 0 ∨ k = 1 ∨ k = 2 ∨ k = 3 ∨ k = 4 ∨ k = 5 ∨ k = 6 by omega) with h | h | h | h | h | h | h <;> subst h <;> kernel_rfl
theorem ex_st (k : Nat) (h : k < 7) : (exL (k + 1)).st = exS k ∧ (exL (k + 1)).ph = exP k := by
  rcases (show k = 0 ∨ k = 1 ∨ k = 2 ∨ k = 3 ∨ k = 4 ∨ k = 5 ∨ k = 6 by omega) with h | h | h | h | h | h | h <;> subst h <;> exact ⟨rfl, rfl⟩
theorem ex_last : updF (exL 7) 2038 0 6 = (exL 7, (0, 0), 12) := by kernel_rfl
/-- The examples' tables in memory. -/
structure Lits (w : World) (n : Nat) : Prop where
  lt : n + 3 < w.heap.size
  s0 : ∀ k, k < 7 → w.cell? ⟨n, k * 4, none⟩ = some (.int .i64 (exT k))
  s1 : ∀ k, k < 7 → w.cell? ⟨n, k * 4 + 1, none⟩ = some (.int .i64 (exA k))
  s2 : ∀ k, k < 7 → w.cell? ⟨n, k * 4 + 2, none⟩ = some (.int .i64 (exO k))
  s3 : ∀ k, k < 7 → w.cell? ⟨n, k * 4 + 3, none⟩ = some (.int .i64 6)
  w0 : ∀ k, k < 7 → w.cell? ⟨n + 1, k * 2, none⟩ = some (.int .i64 (exK k))
  w1 : ∀ k, k < 7 → w.cell? ⟨n + 1, k * 2 + 1, none⟩ = some (.int .i64 (exV k))
  st : ∀ k, k < 7 → w.cell? ⟨n + 1 + 1, k, none⟩ = some (.int .i64 (exS k))
  ph : ∀ k, k < 7 → w.cell? ⟨n + 1 + 1 + 1, k, none⟩ = some (.int .i64 (exP k))
theorem Lits.oth {w W : World} {n b : Nat} (h : Lits w n) (o : Oth b w W) (hb : b < n) : Lits W n := by
  have l := h.lt
  have c : ∀ m i, n ≤ m → m ≤ n + 3 → W.cell? ⟨m, i, none⟩ = w.cell? ⟨m, i, none⟩ := fun m i h1 h2 => o.cell (p := ⟨m, i, none⟩) (by show m < _; omega) (by show m ≠ b; omega)
  exact ⟨Nat.lt_of_lt_of_le l o.size, fun k hk => (c _ _ (by omega) (by omega)).trans (h.s0 k hk), fun k hk => (c _ _ (by omega) (by omega)).trans (h.s1 k hk), fun k hk => (c _ _ (by omega) (by omega)).trans (h.s2 k hk), fun k hk => (c _ _ (by omega) (by omega)).trans (h.s3 k hk),
    fun k hk => (c _ _ (by omega) (by omega)).trans (h.w0 k hk), fun k hk => (c _ _ (by omega) (by omega)).trans (h.w1 k hk), fun k hk => (c _ _ (by omega) (by omega)).trans (h.st k hk), fun k hk => (c _ _ (by omega) (by omega)).trans (h.ph k hk)⟩
theorem lits4 (w : World) (a1 a2 a3 a4 : Array Value) (t1 t2 t3 t4 : TypeId) (i : Nat) :
    ((((w.alloc (.cells a1 t1)).alloc (.cells a2 t2)).alloc (.cells a3 t3)).alloc (.cells a4 t4)).cell? ⟨w.heap.size, i, none⟩ = a1[i]? ∧
    ((((w.alloc (.cells a1 t1)).alloc (.cells a2 t2)).alloc (.cells a3 t3)).alloc (.cells a4 t4)).cell? ⟨w.heap.size + 1, i, none⟩ = a2[i]? ∧
    ((((w.alloc (.cells a1 t1)).alloc (.cells a2 t2)).alloc (.cells a3 t3)).alloc (.cells a4 t4)).cell? ⟨w.heap.size + 1 + 1, i, none⟩ = a3[i]? ∧
    ((((w.alloc (.cells a1 t1)).alloc (.cells a2 t2)).alloc (.cells a3 t3)).alloc (.cells a4 t4)).cell? ⟨w.heap.size + 1 + 1 + 1, i, none⟩ = a4[i]? := by
  have s1 : (w.alloc (.cells a1 t1)).heap.size = w.heap.size + 1 := by simp
  have s2 : ((w.alloc (.cells a1 t1)).alloc (.cells a2 t2)).heap.size = w.heap.size + 1 + 1 := by simp
  have s3 : (((w.alloc (.cells a1 t1)).alloc (.cells a2 t2)).alloc (.cells a3 t3)).heap.size = w.heap.size + 1 + 1 + 1 := by simp
  refine ⟨?_, ?_, ?_, ?_⟩
  · rw [World.cell?_alloc_lt _ _ _ (by rw [s3]; show w.heap.size < _; omega), World.cell?_alloc_lt _ _ _ (by rw [s2]; show w.heap.size < _; omega), World.cell?_alloc_lt _ _ _ (by rw [s1]; show w.heap.size < _; omega), World.cell?_alloc_at _ _ _ _ rfl]
  · rw [World.cell?_alloc_lt _ _ _ (by rw [s3]; show w.heap.size + 1 < _; omega), World.cell?_alloc_lt _ _ _ (by rw [s2]; show w.heap.size + 1 < _; omega), World.cell?_alloc_at _ _ _ _ s1.symm]
  · rw [World.cell?_alloc_lt _ _ _ (by rw [s3]; show w.heap.size + 1 + 1 < _; omega), World.cell?_alloc_at _ _ _ _ s2.symm]
  · rw [World.cell?_alloc_at _ _ _ _ s3.symm]
/-- What a round reads of a row: its cells in block n. -/
def Row3 (n i : Nat) (a b c : Int) (w : World) : Prop := n + 3 < w.heap.size ∧ w.cell? ⟨n, i * 4 + 1, none⟩ = some (.int .i64 a) ∧ w.cell? ⟨n, i * 4 + 2, none⟩ = some (.int .i64 b) ∧ w.cell? ⟨n, i * 4 + 3, none⟩ = some (.int .i64 c)
theorem Row3.oth {n i : Nat} {a b c : Int} {w w' : World} {k : Nat} (h : n + 3 < w.heap.size ∧ w.cell? ⟨n, i * 4 + 1, none⟩ = some (.int .i64 a) ∧ w.cell? ⟨n, i * 4 + 2, none⟩ = some (.int .i64 b) ∧ w.cell? ⟨n, i * 4 + 3, none⟩ = some (.int .i64 c)) (o : Oth k w w') (hk : n ≠ k) :
    n + 3 < w'.heap.size ∧ w'.cell? ⟨n, i * 4 + 1, none⟩ = some (.int .i64 a) ∧ w'.cell? ⟨n, i * 4 + 2, none⟩ = some (.int .i64 b) ∧ w'.cell? ⟨n, i * 4 + 3, none⟩ = some (.int .i64 c) := by
  obtain ⟨h0, h1, h2, h3⟩ := h
  have c : ∀ j, w'.cell? ⟨n, j, none⟩ = w.cell? ⟨n, j, none⟩ := fun j => o.cell (p := ⟨n, j, none⟩) (by show n < _; omega) hk
  exact ⟨Nat.lt_of_lt_of_le h0 o.size, (c _).trans h1, (c _).trans h2, (c _).trans h3⟩
theorem Row3.alloc {n i : Nat} {a b c : Int} {w : World} (o : Obj) (h : n + 3 < w.heap.size ∧ w.cell? ⟨n, i * 4 + 1, none⟩ = some (.int .i64 a) ∧ w.cell? ⟨n, i * 4 + 2, none⟩ = some (.int .i64 b) ∧ w.cell? ⟨n, i * 4 + 3, none⟩ = some (.int .i64 c)) :
    n + 3 < (w.alloc o).heap.size ∧ (w.alloc o).cell? ⟨n, i * 4 + 1, none⟩ = some (.int .i64 a) ∧ (w.alloc o).cell? ⟨n, i * 4 + 2, none⟩ = some (.int .i64 b) ∧ (w.alloc o).cell? ⟨n, i * 4 + 3, none⟩ = some (.int .i64 c) :=
  Row3.oth (k := n + 1) h ((Oth.refl _ _).alloc _) (by omega)
theorem Row3.again {n i : Nat} {a b c : Int} {w : World} (o o' : Obj) (h : n + 3 < (w.alloc o).heap.size ∧ (w.alloc o).cell? ⟨n, i * 4 + 1, none⟩ = some (.int .i64 a) ∧ (w.alloc o).cell? ⟨n, i * 4 + 2, none⟩ = some (.int .i64 b) ∧ (w.alloc o).cell? ⟨n, i * 4 + 3, none⟩ = some (.int .i64 c)) :
    n + 3 < (w.alloc o').heap.size ∧ (w.alloc o').cell? ⟨n, i * 4 + 1, none⟩ = some (.int .i64 a) ∧ (w.alloc o').cell? ⟨n, i * 4 + 2, none⟩ = some (.int .i64 b) ∧ (w.alloc o').cell? ⟨n, i * 4 + 3, none⟩ = some (.int .i64 c) := by
  obtain ⟨h0, h1, h2, h3⟩ := h
  have hs : (w.alloc o).heap.size = w.heap.size + 1 := World.size_alloc _ _
  have hs' : (w.alloc o').heap.size = w.heap.size + 1 := World.size_alloc _ _
  have c : ∀ j, (w.alloc o').cell? ⟨n, j, none⟩ = (w.alloc o).cell? ⟨n, j, none⟩ := fun j => by
    rw [World.cell?_alloc_lt _ _ _ (by show n < _; omega), World.cell?_alloc_lt _ _ _ (by show n < _; omega)]
  exact ⟨by omega, (c _).trans h1, (c _).trans h2, (c _).trans h3⟩
theorem one_new {W w1 : World} {b : Nat} {u v : Value} {t : TypeId} (h : Oth b (W.alloc (.cells #[u, v] t)) w1) (hb : b < W.heap.size) :
    w1.cell? ⟨W.heap.size, 0, none⟩ = some u ∧ w1.cell? ⟨W.heap.size, 1, none⟩ = some v ∧ w1.frozen? ⟨W.heap.size, 0, none⟩ = false ∧ w1.frozen? ⟨W.heap.size, 1, none⟩ = false := by
  have hs : (W.alloc (.cells #[u, v] t)).heap.size = W.heap.size + 1 := World.size_alloc _ _
  refine ⟨?_, ?_, ?_, ?_⟩
  · refine (h.cell (p := ⟨W.heap.size, 0, none⟩) (by show W.heap.size < _; omega) (by show W.heap.size ≠ b; omega)).trans ?_
    rw [World.cell?_alloc_at _ _ _ _ rfl]; rfl
  · refine (h.cell (p := ⟨W.heap.size, 1, none⟩) (by show W.heap.size < _; omega) (by show W.heap.size ≠ b; omega)).trans ?_
    rw [World.cell?_alloc_at _ _ _ _ rfl]; rfl
  · refine (h.frozen (p := ⟨W.heap.size, 0, none⟩) (by show W.heap.size < _; omega) (by show W.heap.size ≠ b; omega)).trans ?_
    rw [World.frozen?_alloc_at _ _ _ _ rfl]
  · refine (h.frozen (p := ⟨W.heap.size, 1, none⟩) (by show W.heap.size < _; omega) (by show W.heap.size ≠ b; omega)).trans ?_
    rw [World.frozen?_alloc_at _ _ _ _ rfl]
set_option maxRecDepth 4000 in
set_option maxHeartbeats 8000000 in
theorem awake_any (w : World) (hc : ConfAt w) : Calls Tryd.prog 13 #[] w fun x w' => x = .returned (.bool true) ∧ Below w.heap.size w w' := by
  obtain ⟨k0, k1, k2, k3, k4⟩ := hc
  have p1 := fun w => new_good 3 17 128000000 900 500000 conf_ok w
  have p2 := fun w => new_bad 0 0 0 0 0 conf_bad w
  go_enter Tryd.func13, Tryd.ntmps13
  go_wp2_with fail
  refine (p1 _).mono ?_
  rintro e w1 ⟨b, rfl, hb, hl, hb1⟩
  clear k0 k1 k2 k3 k4
  go_wp2_with fail
  refine (p2 _).mono ?_
  rintro e w2 ⟨rfl, hb2⟩
  have hl2 : Lp w2 b (exL 0) := hl.below hb2 hl.lt
  have hbn := hl2.lt
  have HB : Kp (Below w.heap.size w w2) := ⟨Below.then hb1 hb1.size hb2⟩
  have hbw := Kp.mk hb
  have HL2 := Kp.mk hl2
  clear hl hb1 hb2 p1 p2 hb hl2
  go_wp2_with fail
  generalize hnn : w2.heap.size = n at *
  go_loopw [6] (fun i wr => ∃ (k : Nat), k ≤ 7 ∧ i = .int .i64 k ∧ Lp wr b (exL k) ∧ Lits wr n ∧ Below w.heap.size w wr) (fun i _ => 7 - (intOf i).toNat)
  case atStart =>
    subst hnn
    refine ⟨0, by omega, rfl, ?_, ?_, ?_⟩
    · exact (((HL2.out.alloc _).alloc _).alloc _).alloc _
    · constructor
      · simp
      all_goals
        intro k hk
        first
          | refine (lits4 _ _ _ _ _ _ _ _ _ _).1.trans ?_
          | refine (lits4 _ _ _ _ _ _ _ _ _ _).2.1.trans ?_
          | refine (lits4 _ _ _ _ _ _ _ _ _ _).2.2.1.trans ?_
          | refine (lits4 _ _ _ _ _ _ _ _ _ _).2.2.2.trans ?_
        rcases (show k = 0 ∨ k = 1 ∨ k = 2 ∨ k = 3 ∨ k = 4 ∨ k = 5 ∨ k = 6 by omega) with h | h | h | h | h | h | h <;> subst h <;> rfl
    · have hs := HB.out.size
      have q : ∀ {W : World}, w2.heap.size ≤ W.heap.size → w.heap.size ≤ W.heap.size := fun h => Nat.le_trans hs h
      exact ((((HB.out).alloc hs _).alloc (q (by simp <;> omega)) _).alloc (q (by simp <;> omega)) _).alloc (q (by simp <;> omega)) _
  case round =>
    obtain ⟨k, hk, rfl, hl, hL, hB⟩ := hrel
    by_cases hlt : k < 7
    · have t1 : decide ((k : Int) < 7) = true := by simp; omega
      have kz : (0 : Int) ≤ (k : Int) := by omega
      have kl : (k : Int) < 7 := by omega
      have l0 := hL.s0 k hlt
      have l1 := hL.s1 k hlt
      have l2 := hL.s2 k hlt
      have l3 := hL.s3 k hlt
      have HL := Kp.mk hL
      clear hL
      have ok := ex_ok k (by omega)
      have hp : ∀ W, Lp W b (exU k) → Calls Tryd.prog 18 #[.pointer (some ⟨b, 0, none⟩), .int .i64 (exA k), .int .i64 (exO k), .int .i64 6] W (LPost b (exL (k + 1)) (.tuple #[.agg #[.int .i64 (exK k), .int .i64 (exV k)], .int .i64 0]) W) := by
        intro W hW
        have := upd_any b _ (exA k) (exO k) 6 W hW (exU_ok k hlt)
        rw [ex_upd k hlt] at this
        exact this
      obtain ⟨e1, e2⟩ := ex_st k hlt
      rcases (show exT k = 1 ∨ exT k ≠ 1 by omega) with ht | ht
      · have tk : Calls Tryd.prog 16 #[.pointer (some ⟨b, 0, none⟩)] wr (LPost b (tickF (exL k)) (.int .i64 (tickV (exL k))) wr) := tick_any b _ wr hl (Int.le_trans ok.mn1 ok.po1) (Int.le_trans ok.po2 ok.mx2) (by have := ok.ph1; have := ok.sa2; omega) (by have := ok.ph2; have := ok.sa2; omega)
        rw [ex_tick k hlt ht, show tickF (exL k) = exU k by rw [exU, if_pos ht]] at tk
        have t2 : (exT k == 1) = true := by simpa using ht
        generalize hs2 : exL (k + 1) = s2 at *
        generalize exT k = T at *
        generalize exA k = A at *
        generalize exO k = O at *
        generalize hK : exK k = K at *
        generalize hV : exV k = V at *
        go_wp2_with fail
        refine tk.mono ?_
        rintro e wt ⟨rfl, hu, hot⟩
        have hB := Kp.mk (hB.trans (hot.below hbw.out hB.size))
        have l1 := (hot.cell (p := ⟨n, k * 4 + 1, none⟩) (by have := HL.out.lt; show n < _; omega) (by show n ≠ b; omega)).trans l1
        have l2 := (hot.cell (p := ⟨n, k * 4 + 2, none⟩) (by have := HL.out.lt; show n < _; omega) (by show n ≠ b; omega)).trans l2
        have l3 := (hot.cell (p := ⟨n, k * 4 + 3, none⟩) (by have := HL.out.lt; show n < _; omega) (by show n ≠ b; omega)).trans l3
        have HL := Kp.mk (HL.out.oth hot hbn)
        clear tk hot hl
        go_wp2_with fail
        have hn := hbn
        have lt3 := HL.out.lt
        go_region_held3 (fun w' => n + 3 < w'.heap.size ∧ w'.cell? ⟨n, k * 4 + 1, none⟩ = some (.int .i64 A) ∧ w'.cell? ⟨n, k * 4 + 2, none⟩ = some (.int .i64 O) ∧ w'.cell? ⟨n, k * 4 + 3, none⟩ = some (.int .i64 6)) (first | exact Row3.oth (by assumption) ho4 (by omega) | exact Row3.alloc _ (by assumption) | exact Row3.again _ _ (by assumption) | exact Row3.oth (k := wt.heap.size) (by assumption) (((Oth.refl _ _).setCell (by rfl) _).setCell (by rfl) _) (by omega) | go_keep)
          (first
            | (go_at_call 18; refine (hp _ (hu.drew.alloc _)).mono ?_; rintro e w4 ⟨rfl, hl4, ho4⟩; have g0 : w4.cell? ⟨wt.heap.size, 0, none⟩ = _ := (one_new (W := wt.drew) ho4 hu.lt).1; have g1 : w4.cell? ⟨wt.heap.size, 1, none⟩ = _ := (one_new (W := wt.drew) ho4 hu.lt).2.1; have g2 : w4.frozen? ⟨wt.heap.size, 0, none⟩ = false := (one_new (W := wt.drew) ho4 hu.lt).2.2.1; have g3 : w4.frozen? ⟨wt.heap.size, 1, none⟩ = false := (one_new (W := wt.drew) ho4 hu.lt).2.2.2)
            | (go_at_call 18; refine (hp _ hu.drew).mono ?_; rintro e w4 ⟨rfl, hl4, ho4⟩))
        · obtain ⟨wX, hXd⟩ : ∃ W, W = w4.alloc (.cells #[.int .i64 K, .int .i64 V] 38) := ⟨_, rfl⟩
          have x1 : Lp wX b s2 := by rw [hXd]; exact hl4.alloc _
          have x2 : Oth b wt wX := by rw [hXd]; exact (((Oth.refl _ _).drew).trans ho4).alloc _
          have x3 : wX.cell? ⟨w4.heap.size, 0, none⟩ = some (.int .i64 K) := by rw [hXd, World.cell?_alloc_at _ _ _ _ rfl]; rfl
          have x4 : wX.cell? ⟨w4.heap.size, 1, none⟩ = some (.int .i64 V) := by rw [hXd, World.cell?_alloc_at _ _ _ _ rfl]; rfl
          rw [← hXd]
          clear hXd ho4
          generalize w4.heap.size = m at *
          have x5 := HL.out.oth x2 hbn
          have x6 : Below w.heap.size w wX := hB.out.trans (x2.below hbw.out hB.out.size)
          have m0 := x5.w0 k hlt
          have m1 := x5.w1 k hlt
          have m2 := x5.st k hlt
          have m3 := x5.ph k hlt
          rw [hK] at m0
          rw [hV] at m1
          rw [← e1] at m2
          rw [← e2] at m3
          have st := fun n => state_any b s2 (wX.drewN n) (x1.drewN n)
          have pv := fun n => phase_any b s2 (wX.drewN n) (x1.drewN n)
          have HX := Kp.mk (And.intro x1 (And.intro x5 x6))
          clear x1 x2 x5 x6 l0 l1 l2 l3 hu hp e1 e2 hl4
          go_wp2_with fail
          go_quiet ((first | (go_at_call 20; with_reducible exact qs (st _)) | (go_at_call 24; with_reducible exact qs (pv _))))
          rename_i nq
          go_wp2_with fail
          go_roundw
          case rel => exact ⟨k + 1, by omega, by go_num, (by rw [hs2]; exact HX.out.1.drewN nq), HX.out.2.1.oth ((Oth.refl b _).drewN nq) hbn, Below.drewN HX.out.2.2 nq⟩
          case measure => simp [intOf]; omega
        · obtain ⟨wX, hXd⟩ : ∃ W, W = (w4.setCell ⟨wt.heap.size, 0, none⟩ (.int .i64 K)).setCell ⟨wt.heap.size, 1, none⟩ (.int .i64 V) := ⟨_, rfl⟩
          have hbm : b ≠ wt.heap.size := by omega
          have x1 : Lp wX b s2 := by rw [hXd]; exact (hl4.setOther hbm _).setOther hbm _
          have x2 : Oth b wt wX := by rw [hXd]; exact (((((Oth.refl _ _).drew).alloc _).trans ho4).setNew (by exact Nat.le_refl _) _).setNew (by exact Nat.le_refl _) _
          have x3 : wX.cell? ⟨wt.heap.size, 0, none⟩ = some (.int .i64 K) := by rw [hXd]; simp [go_sem, g0, g1]
          have x4 : wX.cell? ⟨wt.heap.size, 1, none⟩ = some (.int .i64 V) := by rw [hXd]; simp [go_sem, g0, g1]
          rw [← hXd]
          clear hXd ho4 g0 g1 g2 g3 hbm
          have hBr := hB.out
          have hbr : b < wt.heap.size := hu.lt
          generalize wt.heap.size = m at x3 x4 ⊢
          have x5 := HL.out.oth x2 hbn
          have x6 : Below w.heap.size w wX := hB.out.trans (x2.below hbw.out hB.out.size)
          have m0 := x5.w0 k hlt
          have m1 := x5.w1 k hlt
          have m2 := x5.st k hlt
          have m3 := x5.ph k hlt
          rw [hK] at m0
          rw [hV] at m1
          rw [← e1] at m2
          rw [← e2] at m3
          have st := fun n => state_any b s2 (wX.drewN n) (x1.drewN n)
          have pv := fun n => phase_any b s2 (wX.drewN n) (x1.drewN n)
          have HX := Kp.mk (And.intro x1 (And.intro x5 x6))
          clear x1 x2 x5 x6 l0 l1 l2 l3 hu hp e1 e2 hl4
          go_wp2_with fail
          go_quiet ((first | (go_at_call 20; with_reducible exact qs (st _)) | (go_at_call 24; with_reducible exact qs (pv _))))
          rename_i nq
          go_wp2_with fail
          go_roundw
          case rel => exact ⟨k + 1, by omega, by go_num, (by rw [hs2]; exact HX.out.1.drewN nq), HX.out.2.1.oth ((Oth.refl b _).drewN nq) hbn, Below.drewN HX.out.2.2 nq⟩
          case measure => simp [intOf]; omega
      · have hu : Lp wr b (exU k) := by rwa [exU, if_neg ht]
        have t2 : (exT k == 1) = false := by simpa using ht
        generalize hs2 : exL (k + 1) = s2 at *
        generalize exT k = T at *
        generalize exA k = A at *
        generalize exO k = O at *
        generalize hK : exK k = K at *
        generalize hV : exV k = V at *
        go_wp2_with fail
        have hn := hbn
        have lt3 := HL.out.lt
        have hB := Kp.mk hB
        go_region_held3 (fun w' => n + 3 < w'.heap.size ∧ w'.cell? ⟨n, k * 4 + 1, none⟩ = some (.int .i64 A) ∧ w'.cell? ⟨n, k * 4 + 2, none⟩ = some (.int .i64 O) ∧ w'.cell? ⟨n, k * 4 + 3, none⟩ = some (.int .i64 6)) (first | exact Row3.oth (by assumption) ho4 (by omega) | exact Row3.alloc _ (by assumption) | exact Row3.again _ _ (by assumption) | exact Row3.oth (k := wr.heap.size) (by assumption) (((Oth.refl _ _).setCell (by rfl) _).setCell (by rfl) _) (by omega) | go_keep)
          (first
            | (go_at_call 18; refine (hp _ (hu.drew.alloc _)).mono ?_; rintro e w4 ⟨rfl, hl4, ho4⟩; have g0 : w4.cell? ⟨wr.heap.size, 0, none⟩ = _ := (one_new (W := wr.drew) ho4 hu.lt).1; have g1 : w4.cell? ⟨wr.heap.size, 1, none⟩ = _ := (one_new (W := wr.drew) ho4 hu.lt).2.1; have g2 : w4.frozen? ⟨wr.heap.size, 0, none⟩ = false := (one_new (W := wr.drew) ho4 hu.lt).2.2.1; have g3 : w4.frozen? ⟨wr.heap.size, 1, none⟩ = false := (one_new (W := wr.drew) ho4 hu.lt).2.2.2)
            | (go_at_call 18; refine (hp _ hu.drew).mono ?_; rintro e w4 ⟨rfl, hl4, ho4⟩))
        · obtain ⟨wX, hXd⟩ : ∃ W, W = w4.alloc (.cells #[.int .i64 K, .int .i64 V] 38) := ⟨_, rfl⟩
          have x1 : Lp wX b s2 := by rw [hXd]; exact hl4.alloc _
          have x2 : Oth b wr wX := by rw [hXd]; exact (((Oth.refl _ _).drew).trans ho4).alloc _
          have x3 : wX.cell? ⟨w4.heap.size, 0, none⟩ = some (.int .i64 K) := by rw [hXd, World.cell?_alloc_at _ _ _ _ rfl]; rfl
          have x4 : wX.cell? ⟨w4.heap.size, 1, none⟩ = some (.int .i64 V) := by rw [hXd, World.cell?_alloc_at _ _ _ _ rfl]; rfl
          rw [← hXd]
          clear hXd ho4
          generalize w4.heap.size = m at *
          have x5 := HL.out.oth x2 hbn
          have x6 : Below w.heap.size w wX := hB.out.trans (x2.below hbw.out hB.out.size)
          have m0 := x5.w0 k hlt
          have m1 := x5.w1 k hlt
          have m2 := x5.st k hlt
          have m3 := x5.ph k hlt
          rw [hK] at m0
          rw [hV] at m1
          rw [← e1] at m2
          rw [← e2] at m3
          have st := fun n => state_any b s2 (wX.drewN n) (x1.drewN n)
          have pv := fun n => phase_any b s2 (wX.drewN n) (x1.drewN n)
          have HX := Kp.mk (And.intro x1 (And.intro x5 x6))
          clear x1 x2 x5 x6 l0 l1 l2 l3 hl hu hp e1 e2 hl4
          go_wp2_with fail
          go_quiet ((first | (go_at_call 20; with_reducible exact qs (st _)) | (go_at_call 24; with_reducible exact qs (pv _))))
          rename_i nq
          go_wp2_with fail
          go_roundw
          case rel => exact ⟨k + 1, by omega, by go_num, (by rw [hs2]; exact HX.out.1.drewN nq), HX.out.2.1.oth ((Oth.refl b _).drewN nq) hbn, Below.drewN HX.out.2.2 nq⟩
          case measure => simp [intOf]; omega
        · obtain ⟨wX, hXd⟩ : ∃ W, W = (w4.setCell ⟨wr.heap.size, 0, none⟩ (.int .i64 K)).setCell ⟨wr.heap.size, 1, none⟩ (.int .i64 V) := ⟨_, rfl⟩
          have hbm : b ≠ wr.heap.size := by omega
          have x1 : Lp wX b s2 := by rw [hXd]; exact (hl4.setOther hbm _).setOther hbm _
          have x2 : Oth b wr wX := by rw [hXd]; exact (((((Oth.refl _ _).drew).alloc _).trans ho4).setNew (by exact Nat.le_refl _) _).setNew (by exact Nat.le_refl _) _
          have x3 : wX.cell? ⟨wr.heap.size, 0, none⟩ = some (.int .i64 K) := by rw [hXd]; simp [go_sem, g0, g1]
          have x4 : wX.cell? ⟨wr.heap.size, 1, none⟩ = some (.int .i64 V) := by rw [hXd]; simp [go_sem, g0, g1]
          rw [← hXd]
          clear hXd ho4 g0 g1 g2 g3 hbm
          have hBr := hB.out
          have hbr : b < wr.heap.size := hu.lt
          generalize wr.heap.size = m at x3 x4 ⊢
          have x5 := HL.out.oth x2 hbn
          have x6 : Below w.heap.size w wX := hB.out.trans (x2.below hbw.out hB.out.size)
          have m0 := x5.w0 k hlt
          have m1 := x5.w1 k hlt
          have m2 := x5.st k hlt
          have m3 := x5.ph k hlt
          rw [hK] at m0
          rw [hV] at m1
          rw [← e1] at m2
          rw [← e2] at m3
          have st := fun n => state_any b s2 (wX.drewN n) (x1.drewN n)
          have pv := fun n => phase_any b s2 (wX.drewN n) (x1.drewN n)
          have HX := Kp.mk (And.intro x1 (And.intro x5 x6))
          clear x1 x2 x5 x6 l0 l1 l2 l3 hl hu hp e1 e2 hl4
          go_wp2_with fail
          go_quiet ((first | (go_at_call 20; with_reducible exact qs (st _)) | (go_at_call 24; with_reducible exact qs (pv _))))
          rename_i nq
          go_wp2_with fail
          go_roundw
          case rel => exact ⟨k + 1, by omega, by go_num, (by rw [hs2]; exact HX.out.1.drewN nq), HX.out.2.1.oth ((Oth.refl b _).drewN nq) hbn, Below.drewN HX.out.2.2 nq⟩
          case measure => simp [intOf]; omega
    · obtain rfl : k = 7 := by omega
      have HX := Kp.mk hL
      clear hL hk hlt
      have HBr := Kp.mk hB
      have up := upd_any b _ 2038 0 6 wr hl (ex_ok 7 (by omega))
      rw [ex_last] at up
      clear hB
      unfold upv act at up
      go_wp2_with fail
      refine up.mono ?_
      rintro e w4 ⟨rfl, hl4, ho4⟩
      have HE : Kp (Below w.heap.size w w4) := ⟨HBr.out.trans (ho4.below hbw.out HBr.out.size)⟩
      have fq := fun (W : World) (hW : Lp W b (exL 7)) => freq_any b (exL 7) W hW
      rw [show (exL 7).fr = 112 from rfl] at fq
      have hl5 := Kp.mk hl4
      clear up ho4 hl hl4
      go_wp2_with fail
      refine (fq _ (hl5.out.alloc _)).mono ?_
      rintro e w' ⟨rfl, rfl⟩
      go_wp2_with fail
      go_ret
      exact ⟨by simp, HE.out.alloc HE.out.size _⟩
end Go.Proofs.YtbfobodaeimklaaDoor
