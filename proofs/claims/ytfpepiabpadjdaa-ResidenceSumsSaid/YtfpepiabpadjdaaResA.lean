/-
  The small functions below package residence: the lengths of messages, their check.
-/
import Derived.Test.YtfpepiabpadjdaaFixed
import Derived.Test.YtfpepiabpadjdaaQTail
import Derived.Maps.Own
import Derived.Maps.OwnOps
import Derived.Maps.OwnSet
set_option linter.unusedSimpArgs false
set_option linter.unusedVariables false
namespace Go.Proofs.Ytfpepiabpadjdaa
open Go.RowKit Go.Maps
def sizeF (kind : Int) : Int := if kind = 0 then 44 else if kind = 1 then 44 else if kind = 2 then 54 else if kind = 3 then 54 else if kind = 8 then 44 else if kind = 9 then 54 else if kind = 10 then 54 else if kind = 11 then 64 else 0
theorem lawI : Keyed Try.prog 3 := int_keyed Try.underlying3
theorem zeroI (w : World) : (zeroValue 3).run Try.prog w = .ok (.int .i64 0) w := by kernel_rfl
/-- The table of the lengths, as it reads. -/
def DS : DataW Unit := (((((((((DataW.map []).put (.int .i64 0) (.lit (.int .i64 44))).put (.int .i64 1) (.lit (.int .i64 44))).put (.int .i64 2) (.lit (.int .i64 54))).put (.int .i64 3) (.lit (.int .i64 54))).put (.int .i64 8) (.lit (.int .i64 44))).put (.int .i64 9) (.lit (.int .i64 54))).put (.int .i64 10) (.lit (.int .i64 54))).put (.int .i64 11) (.lit (.int .i64 64)))
/-- 'insert' into a map that the call owns (a map literal's entry). -/
theorem wpList_insert_own {H : Type} {P : Program} (w : World) {ops : Array Oper} {rest : List Oper} {o : Oper} {a : Act} {Q : Exit → Act → World → Prop}
    (hg : o.guard = none) (m x v : Operand) (t : TypeId) (hop : o.op = Op.insert t m x v)
    (k e : TypeId) (K : Keyed P k) (ht : P.underlying t = some (.map k e)) (R : Value → Option (DataW H × List MemPlace)) (b n : Nat) (D : DataW H)
    (hm : a.eval m = .map (some b)) (hown : w.ownsMap P k R b n D) (hn : n < maxLen) (key val : Value) (kl : Lit) (hx : a.eval x = key) (hv : a.eval v = val) (hkey : keyOf P k key = some kl)
    (d : DataW H) (ps : List MemPlace) (hval : R val = some (d, ps))
    (hK : ∀ w', w'.ownsMap P k R b (n + 1) (D.put kl d) → w.grownBy w' (some b) → wpList P ops Q rest (a.put o.dst undef) w') :
    wpList P ops Q (o :: rest) a w := by
  refine wpList_plain hg fun K' hK' => ?_
  obtain ⟨w', hrun, r1, r2⟩ := hown.update K ht hn hkey hval
  unfold Oper.wp
  simp [execOp, hop, hm, hx, hv, hrun, Result.andThen]
  exact hK' _ _ (hK w' r1 r2)
set_option maxRecDepth 100000 in
theorem msizes_any (w : World) : Calls Try.prog 61 #[] w fun x w' => x = .returned (.map (some w.heap.size)) ∧ w'.ownsMap Try.prog 3 (plainElem Try.prog 3) w.heap.size 8 DS ∧ Below w.heap.size w w' := by
  have hmm := @run_makeMap Try.prog
  have hown := World.ownsMap_made (H := Unit) w Try.prog 3 (plainElem Try.prog 3)
  have hnx : Below w.heap.size w (w.alloc (.map #[] 0)) := (Below.refl _ _).alloc (Nat.le_refl _) _
  go_enter Try.func61, Try.ntmps61
  go_wp2_with (first
    | (refine wpList_insert_own _ rfl _ _ _ 92 rfl 3 3 lawI Try.underlying92 _ w.heap.size _ _ rfl hown (by unfold maxLen; omega) _ _ _ rfl rfl (keyOf_int_mk Try.underlying3 (by decide)) _ [] (plainElem_int Try.underlying3 (by decide)) ?_; clear hown; intro w1 hown hgrow1; have hnx := hnx.grown hgrow1 hnx.size (fun j hj => by cases hj; exact Nat.le_refl _); clear hgrow1)
    | go_in)
  go_ret
  exact ⟨rfl, hown, hnx⟩
theorem at_DS (kind : Int) : DS.atKey (.int .i64 kind) (.lit (.int .i64 0)) = .lit (.int .i64 (sizeF kind)) := by
  have hD : DS = .map [(.int .i64 0, .lit (.int .i64 44)), (.int .i64 1, .lit (.int .i64 44)), (.int .i64 2, .lit (.int .i64 54)), (.int .i64 3, .lit (.int .i64 54)), (.int .i64 8, .lit (.int .i64 44)), (.int .i64 9, .lit (.int .i64 54)), (.int .i64 10, .lit (.int .i64 54)), (.int .i64 11, .lit (.int .i64 64))] := by kernel_rfl
  rw [hD]
  by_cases h0 : kind = 0
  · subst h0; rfl
  by_cases h1 : kind = 1
  · subst h1; rfl
  by_cases h2 : kind = 2
  · subst h2; rfl
  by_cases h3 : kind = 3
  · subst h3; rfl
  by_cases h8 : kind = 8
  · subst h8; rfl
  by_cases h9 : kind = 9
  · subst h9; rfl
  by_cases h10 : kind = 10
  · subst h10; rfl
  by_cases h11 : kind = 11
  · subst h11; rfl
  have e : sizeF kind = 0 := by unfold sizeF; simp [h0, h1, h2, h3, h8, h9, h10, h11]
  have g0 : ¬ (0 : Int) = kind := fun h => h0 h.symm
  have g1 : ¬ (1 : Int) = kind := fun h => h1 h.symm
  have g2 : ¬ (2 : Int) = kind := fun h => h2 h.symm
  have g3 : ¬ (3 : Int) = kind := fun h => h3 h.symm
  have g8 : ¬ (8 : Int) = kind := fun h => h8 h.symm
  have g9 : ¬ (9 : Int) = kind := fun h => h9 h.symm
  have g10 : ¬ (10 : Int) = kind := fun h => h10 h.symm
  have g11 : ¬ (11 : Int) = kind := fun h => h11 h.symm
  rw [e]
  simp [DataW.atKey, List.find?, Lit.sameKey, g0, g1, g2, g3, g8, g9, g10, g11]
set_option maxRecDepth 100000 in
theorem msize_any (kind : Int) (w : World) (hk : (Lit.int .i64 kind).wf = true) : Calls Try.prog 42 #[.int .i64 kind] w fun x w' => x = .returned (.int .i64 (sizeF kind)) ∧ Below w.heap.size w w' := by
  go_enter Try.func42, Try.ntmps42
  go_wp2_with fail
  refine (msizes_any _).mono ?_
  rintro e w1 ⟨rfl, hown, hb⟩
  go_wp2_with (first
    | (at_lookup; refine wpList_lookup_own_int _ rfl _ _ 92 rfl 3 3 .i64 lawI Try.underlying92 Try.underlying3 (zeroI _) w.heap.size _ _ rfl hown _ _ rfl (keyOf_int_mk Try.underlying3 hk) ?_; intro c hat hwc)
    | go_in)
  have hc := at_DS kind
  rw [hat] at hc
  have hc : c = sizeF kind := by simpa using hc
  rw [← hc]
  go_ret
  exact ⟨rfl, hb⟩
end Go.Proofs.Ytfpepiabpadjdaa
