/-
  A slice of structs of four ints, in memory, opened to numbers.
-/
import Derived.Test.YtfpepiabpadjdaaStructsP
set_option linter.unusedVariables false
set_option linter.unusedSimpArgs false
namespace Go.Proofs.Ytfpepiabpadjdaa.St
open Go.Joins Go.ChangeShapes Go.WideShapes Go.RowKit Go.Deep
/-- A slice of structs of four ints, in memory. -/
def StepRow (w : World) (a : Option Addr) (len : Nat) (T A O P : Nat → Int) : Prop :=
  len ≤ 9223372036854775807 ∧ ∀ i, i < len → ∃ b off, a = some ⟨b, off, none⟩ ∧ b < w.heap.size ∧
    (w.cell? ⟨b, off + i * 4, none⟩ = some (.int .i64 (T i)) ∧ I64 (T i)) ∧ (w.cell? ⟨b, off + i * 4 + 1, none⟩ = some (.int .i64 (A i)) ∧ I64 (A i)) ∧
    (w.cell? ⟨b, off + i * 4 + 2, none⟩ = some (.int .i64 (O i)) ∧ I64 (O i)) ∧ (w.cell? ⟨b, off + i * 4 + 3, none⟩ = some (.int .i64 (P i)) ∧ I64 (P i))
section
variable {H : Type} {enc : TypeId × Value → H} {P : Program} {w : World} {base : Nat} {spare : Nat → Bool} {held : Bool}
theorem open_slice_steps {t e : TypeId} {f0 f1 f2 f3 : Field} {a : Option Addr} {len cap : Nat} {d : DataW H} {p : List MemPlace} (hu : P.underlying t = some (.slice e)) (he : P.underlying e = some (.struct #[f0, f1, f2, f3]))
    (hone : oneCellFields P #[f0, f1, f2, f3] = true) (hC : P.cellsOf e = 4)
    (i0 : P.underlying f0.type = some (.int .i64)) (i1 : P.underlying f1.type = some (.int .i64)) (i2 : P.underlying f2.type = some (.int .i64)) (i3 : P.underlying f3.type = some (.int .i64))
    (h : DataW.Trod enc P w base (fun _ => true) held t (.slice a len cap) d p) : ∃ T A O Q, StepRow w a len T A O Q := by
  obtain ⟨fuel, hf⟩ := h
  rcases open_slice_fields hu he hone hC hf with ⟨hcs, _⟩ | ⟨x, l, c, m, D, Pl, hcs, _, hl, hm, hmm, _, hi⟩
  · simp [Value.cells] at hcs
    obtain ⟨rfl, rfl, rfl⟩ := hcs
    exact ⟨fun _ => 0, fun _ => 0, fun _ => 0, fun _ => 0, by omega, fun i hi => absurd hi (by omega)⟩
  · simp [Value.cells] at hcs
    obtain ⟨rfl, rfl, rfl⟩ := hcs
    have hlen : len ≤ 9223372036854775807 := by unfold maxLen at hm; omega
    have hmm' : m = cap := by simpa using hmm
    subst hmm'
    have key : ∀ i, i < len → ∃ t a o q : Int, (w.cell? (x.add (i * 4 + 0)) = some (.int .i64 t) ∧ I64 t) ∧ (w.cell? (x.add (i * 4 + 1)) = some (.int .i64 a) ∧ I64 a) ∧ (w.cell? (x.add (i * 4 + 2)) = some (.int .i64 o) ∧ I64 o) ∧ (w.cell? (x.add (i * 4 + 3)) = some (.int .i64 q) ∧ I64 q) := by
      intro i hlt
      obtain ⟨ys, n, _, _, _, hg⟩ := hi i (by omega)
      obtain ⟨v0, y0, c0, _, t0⟩ := hg 0 f0 rfl
      obtain ⟨v1, y1, c1, _, t1⟩ := hg 1 f1 rfl
      obtain ⟨v2, y2, c2, _, t2⟩ := hg 2 f2 rfl
      obtain ⟨v3, y3, c3, _, t3⟩ := hg 3 f3 rfl
      obtain ⟨a0, rfl, w0⟩ := one_int i0 t0
      obtain ⟨a1, rfl, w1⟩ := one_int i1 t1
      obtain ⟨a2, rfl, w2⟩ := one_int i2 t2
      obtain ⟨a3, rfl, w3⟩ := one_int i3 t3
      exact ⟨a0, a1, a2, a3, ⟨c0, w0⟩, ⟨c1, w1⟩, ⟨c2, w2⟩, c3, w3⟩
    obtain ⟨b, off, spot⟩ := x
    rcases Nat.eq_zero_or_pos len with h0 | h0
    · exact ⟨fun _ => 0, fun _ => 0, fun _ => 0, fun _ => 0, hlen, fun i hi => absurd hi (by omega)⟩
    · have hs : spot = none := by
        obtain ⟨_, _, _, _, ⟨k0, _⟩, _⟩ := key 0 h0
        simpa [Addr.add] using World.cell?_spot k0
      subst hs
      have key2 : ∀ i, i < len → ∃ t a o q : Int, b < w.heap.size ∧ (w.cell? ⟨b, off + i * 4, none⟩ = some (.int .i64 t) ∧ I64 t) ∧ (w.cell? ⟨b, off + i * 4 + 1, none⟩ = some (.int .i64 a) ∧ I64 a) ∧ (w.cell? ⟨b, off + i * 4 + 2, none⟩ = some (.int .i64 o) ∧ I64 o) ∧ (w.cell? ⟨b, off + i * 4 + 3, none⟩ = some (.int .i64 q) ∧ I64 q) := by
        intro i hi
        obtain ⟨t, a, o, q, ⟨k0, x0⟩, ⟨k1, x1⟩, ⟨k2, x2⟩, k3, x3⟩ := key i hi
        rw [Go.WideShapes.add_plain] at k0 k1 k2 k3
        refine ⟨t, a, o, q, World.block_lt_of_cell? w _ k0, ⟨k0, x0⟩, ⟨?_, x1⟩, ⟨?_, x2⟩, ?_, x3⟩
        · rw [Nat.add_assoc]; exact k1
        · rw [Nat.add_assoc]; exact k2
        · rw [Nat.add_assoc]; exact k3
      refine ⟨fun i => if h : i < len then (key2 i h).choose else 0, fun i => if h : i < len then (key2 i h).choose_spec.choose else 0, fun i => if h : i < len then (key2 i h).choose_spec.choose_spec.choose else 0, fun i => if h : i < len then (key2 i h).choose_spec.choose_spec.choose_spec.choose else 0, hlen, fun i hlt => ?_⟩
      have hh := (key2 i hlt).choose_spec.choose_spec.choose_spec.choose_spec
      simp only [hlt, dif_pos]
      exact ⟨b, off, rfl, hh⟩
end
end Go.Proofs.Ytfpepiabpadjdaa.St
