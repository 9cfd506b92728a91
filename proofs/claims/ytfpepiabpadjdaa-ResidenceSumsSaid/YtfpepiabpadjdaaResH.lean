/-
  The table of package residence: its keys, what it holds; Len, New.
-/
import Derived.Test.YtfpepiabpadjdaaResG
import Derived.DeepKeys4
import Derived.MapViews
set_option linter.unusedSimpArgs false
set_option linter.unusedVariables false
namespace Go.Proofs.Ytfpepiabpadjdaa
open Go.RowKit Go.Maps
theorem laidOutT : laidOutB Try.prog = true := by kernel_rfl
theorem rowK : (76 : TypeId) < Try.prog.types.size := of_decide_eq_true (by kernel_rfl)
theorem wideK : (match Try.prog.underlying 76 with | some (.array _ _) | some (.struct _) => true | _ => false) = true := by rw [Try.underlying76]
theorem deepK : Try.prog.keyTypeAt (Try.prog.types.size + 1) 76 = true := by kernel_rfl
theorem lawK : Keyed Try.prog 76 := Keyed.of_law (deep_law_laid laidOutT (m := 3) (by omega) rowK (by kernel_rfl) wideK)
theorem cellsK : Try.prog.cellsOf 76 = 5 := by kernel_rfl
theorem cellsI : Try.prog.cellsOf 3 = 1 := by kernel_rfl
theorem cellsU : Try.prog.cellsOf 27 = 1 := by kernel_rfl
theorem formedK {c0 c1 c2 c3 c4 : Value} : (Value.agg #[c0, c1, c2, c3, c4]).formed Try.prog 76 = true := by simp [Value.formed, Try.underlying76, cellsK]
def keyD (k d c p s : Int) : DataW Unit := .agg [.lit (.int .i64 k), .lit (.int .i64 d), .lit (.int .u64 c), .lit (.int .i64 p), .lit (.int .i64 s)]
theorem key_trod {k d c p s : Int} (hk : (Lit.int .i64 k).wf = true) (hd : (Lit.int .i64 d).wf = true) (hc : (Lit.int .u64 c).wf = true) (hp : (Lit.int .i64 p).wf = true) (hs : (Lit.int .i64 s).wf = true) (w : World) :
    DataW.Trod (fun _ => ()) Try.prog w 0 (fun _ => false) true 76 (.agg #[.int .i64 k, .int .i64 d, .int .u64 c, .int .i64 p, .int .i64 s]) (keyD k d c p s) [] := by
  refine ⟨3, ?_⟩
  simp [DataW.trod, Value.cells, Try.underlying76, Try.underlying3, Try.underlying27, keyD, cellsK, cellsI, cellsU, hk, hd, hc, hp, hs]
/-- The parts of a message that a key has. -/
structure PWf (p : PM) : Prop where
  domain : (Lit.int .i64 p.domain).wf = true
  clock : (Lit.int .u64 p.clock).wf = true
  port : (Lit.int .i64 p.port).wf = true
  seq : (Lit.int .i64 p.seq).wf = true
def keyL (k : Int) (p : PM) : Lit := (keyD k p.domain p.clock p.port p.seq).asKey
theorem key_of {k : Int} {p : PM} (hk : (Lit.int .i64 k).wf = true) (h : PWf p) : keyOf Try.prog 76 (.agg #[.int .i64 k, .int .i64 p.domain, .int .u64 p.clock, .int .i64 p.port, .int .i64 p.seq]) = some (keyL k p) :=
  (keyOf_asKey deepK wideK formedK (key_trod hk h.domain h.clock h.port h.seq (default : World))).1
theorem keyL_inj {k k' : Int} {p q : PM} (hk : (Lit.int .i64 k).wf = true) (hk' : (Lit.int .i64 k').wf = true) (h : PWf p) (h' : PWf q) (e : keyL k p = keyL k' q) : k = k' ∧ p.domain = q.domain ∧ p.clock = q.clock ∧ p.port = q.port ∧ p.seq = q.seq := by
  have h1 := key_of hk h
  rw [e] at h1
  have := lawK.inj h1 (key_of hk' h')
  simpa using this
/-- What a table holds, as it reads; a nil map holds nothing. -/
def Held (w : World) (m : Option Nat) (D : DataW Unit) : Prop := match m with
  | none => D = .map []
  | some b => ∃ n, w.ownsMap Try.prog 76 (plainElem Try.prog 3) b n D
theorem Held.drewN {w : World} {m : Option Nat} {D : DataW Unit} (h : Held w m D) (k : Nat) : Held (w.drewN k) m D := by cases m <;> exact h
theorem Held.kept {w w' : World} {m row : Option Nat} {D : DataW Unit} (h : Held w m D) (hg : w.grownBy w' row) (hne : ∀ b, m = some b → row ≠ some b) : Held w' m D := by
  cases m with
  | none => exact h
  | some b => obtain ⟨n, h⟩ := h; exact ⟨n, h.kept hg (fun e => hne b rfl e.symm)⟩
theorem Held.look {w : World} {m : Option Nat} {D : DataW Unit} (h : Held w m D) {key : Value} {kl : Lit} (hk : keyOf Try.prog 76 key = some kl) : ∃ c : Int, D.atKey kl (.lit (.int .i64 0)) = .lit (.int .i64 c) ∧ (Lit.int .i64 c).wf = true ∧ ∀ k, (Instr.lookup 53 (.map m) key true).run Try.prog (w.drewN k) = .ok (.tuple #[.int .i64 c, .bool (Maps.has D kl)]) (w.drewN k) := by
  cases m with
  | none =>
    obtain rfl : D = .map [] := h
    exact ⟨0, rfl, by decide, fun k => Maps.look_nil (w := w.drewN k) true lawK Try.underlying53 (zeroI _) hk⟩
  | some b =>
    obtain ⟨n, h⟩ := h
    obtain ⟨v, ps, hrun, hv⟩ := World.ownsMap.look_ok h lawK Try.underlying53 (zeroI _) (plainElem_int Try.underlying3 (by decide)) hk
    obtain ⟨c, rfl, hc, hwc⟩ := plainElem_int_inv Try.underlying3 hv
    refine ⟨c, congrArg Prod.fst hc, hwc, fun k => ?_⟩
    obtain ⟨v, ps, hrun, hv⟩ := World.ownsMap.look_ok (w := w.drewN k) h lawK Try.underlying53 (zeroI _) (plainElem_int Try.underlying3 (by decide)) hk
    obtain ⟨c', rfl, hc', hwc⟩ := plainElem_int_inv Try.underlying3 hv
    have e1 : D.atKey kl (.lit (.int .i64 0)) = .lit (.int .i64 c) := congrArg Prod.fst hc
    have e2 : D.atKey kl (.lit (.int .i64 0)) = .lit (.int .i64 c') := congrArg Prod.fst hc'
    rw [e1] at e2
    simp at e2
    rw [e2]
    exact hrun
theorem Held.len {w : World} {m : Option Nat} {D : DataW Unit} (h : Held w m D) (k : Nat) (ty : TypeId) : (Builtin.len_ #[53] ty #[.map m]).run Try.prog (w.drewN k) = .ok (.int .i64 (Maps.size D)) (w.drewN k) := by
  cases m with
  | none =>
    obtain rfl : D = .map [] := h
    exact Maps.len_nil (w := w.drewN k) Try.underlying53 ty
  | some b => obtain ⟨n, h⟩ := h; exact World.ownsMap.len (w := w.drewN k) h Try.underlying53 ty
/-- A table in memory: its block, its map's, its limit, what it holds. -/
structure TabAt (w : World) (tb : Nat) (m : Option Nat) (lim : Int) (D : DataW Unit) : Prop where
  c0 : w.cell? ⟨tb, 0, none⟩ = some (.map m)
  c1 : w.cell? ⟨tb, 1, none⟩ = some (.int .i64 lim)
  lt : tb < w.heap.size
  limit : lim ≤ 64
  own : Held w m D
theorem TabAt.ne {w : World} {tb : Nat} {m : Option Nat} {lim : Int} {D : DataW Unit} (h : TabAt w tb m lim D) : m ≠ some tb := by
  rintro rfl
  obtain ⟨n, es, clock, hb, _⟩ := h.own
  have := h.c0
  simp [World.cell?, hb] at this
theorem TabAt.kept {w w' : World} {tb : Nat} {m row : Option Nat} {lim : Int} {D : DataW Unit} (h : TabAt w tb m lim D) (hg : w.grownBy w' row) (h1 : row ≠ some tb) (h2 : ∀ b, m = some b → row ≠ some b) : TabAt w' tb m lim D :=
  ⟨hg.cell h.c0 h1.symm, hg.cell h.c1 h1.symm, Nat.lt_of_lt_of_le h.lt hg.size, h.limit, h.own.kept hg h2⟩
theorem Below.grownBy {w w' : World} (h : Below w.heap.size w w') (row : Option Nat) : w.grownBy w' row := ⟨h.os, h.tape, h.output, h.size, fun i hi _ => h.block i hi⟩
theorem TabAt.below {w w' : World} {tb : Nat} {m : Option Nat} {lim : Int} {D : DataW Unit} (h : TabAt w tb m lim D) (hB : Below w.heap.size w w') : TabAt w' tb m lim D :=
  h.kept (Below.grownBy hB none) (by simp) (by simp)
theorem len_any {w : World} {tb : Nat} {m : Option Nat} {lim : Int} {D : DataW Unit} (h : TabAt w tb m lim D) : Calls Try.prog 23 #[.pointer (some ⟨tb, 0, none⟩)] w fun x w' => x = .returned (.int .i64 (Maps.size D)) ∧ w = w' := by
  have c0 := h.c0
  have hl := h.own.len 0
  have e0 : w.drewN 0 = w := rfl
  rw [e0] at hl
  generalize Maps.size D = n at *
  clear h
  go_enter Try.func23, Try.ntmps23
  go_wp2
  go_ret
  exact ⟨rfl, rfl⟩
theorem len_nil_any (w : World) : Calls Try.prog 23 #[.pointer none] w fun x w' => x = .returned (.int .i64 0) ∧ w = w' := by
  go_enter Try.func23, Try.ntmps23
  go_wp2
  go_ret
  exact ⟨rfl, rfl⟩
theorem new_any (lim : Int) (h : 1 ≤ lim) (h2 : lim ≤ 64) (w : World) : Calls Try.prog 16 #[.int .i64 lim] w fun x w' => x = .returned (.pointer (some ⟨w.heap.size + 1, 0, none⟩)) ∧ TabAt w' (w.heap.size + 1) (some w.heap.size) lim (.map []) ∧ Below w.heap.size w w' := by
  have hmm := @run_makeMap Try.prog
  have hown := World.ownsMap_made (H := Unit) w Try.prog 76 (plainElem Try.prog 3)
  have hnx : Below w.heap.size w (w.alloc (.map #[] 0)) := (Below.refl _ _).alloc (Nat.le_refl _) _
  have t1 : decide (lim < 1) = false := by simp; omega
  have t2 : decide (64 < lim) = false := by simp; omega
  have HK := Kp.mk (And.intro h h2)
  clear h h2
  go_enter Try.func16, Try.ntmps16
  go_wp2
  go_ret
  refine ⟨rfl, ⟨?_, ?_, by simp, HK.out.2, ⟨0, hown.alloc _⟩⟩, hnx.alloc hnx.size _⟩
  · rw [World.cell?_alloc_at _ _ _ _ (by simp)]; rfl
  · rw [World.cell?_alloc_at _ _ _ _ (by simp)]; rfl
theorem new_none (lim : Int) (h : ¬ (1 ≤ lim ∧ lim ≤ 64)) (w : World) : Calls Try.prog 16 #[.int .i64 lim] w fun x w' => x = .returned (.pointer none) ∧ w = w' := by
  by_cases h1 : 1 ≤ lim
  · have t1 : decide (lim < 1) = false := by simp; omega
    have t2 : decide (64 < lim) = true := by simp; omega
    clear h h1
    go_enter Try.func16, Try.ntmps16
    go_wp2
    go_ret
    exact ⟨rfl, rfl⟩
  · have t1 : decide (lim < 1) = true := by simp; omega
    clear h h1
    go_enter Try.func16, Try.ntmps16
    go_wp2
    go_ret
    exact ⟨rfl, rfl⟩
end Go.Proofs.Ytfpepiabpadjdaa
