/-
  The walk of PllNobody: whatever the update, it returns true, and what was there is as it was.
-/
import Derived.Test.YtbfobodaeimklaaDoorPllG
import Derived.Test.YtbfobodaeimklaaDoorStructs
set_option linter.unusedSimpArgs false
set_option linter.unusedVariables false
namespace Go.Proofs.YtbfobodaeimklaaDoor
open Go.RowKit
set_option maxHeartbeats 4000000 in
theorem nobody_any (a o p : Int) (w : World) (hc : ConfAt w) : Calls Tryd.prog 9 #[.int .i64 a, .int .i64 o, .int .i64 p] w fun x w' => x = .returned (.bool true) ∧ Below w.heap.size w w' := by
  have hpos := hc.pos
  go_enter Tryd.func9, Tryd.ntmps9
  go_wp2_with fail
  refine (update_nil _ _ _ _).mono ?_
  rintro e w1 ⟨rfl, hb⟩
  have hc1 := hc.below hb hpos
  have HB1 := Kp.mk hb
  clear hb
  have hcC := Kp.mk hc1
  clear hc1 hc
  go_wp2_with fail
  refine (tick_nil _).mono ?_
  rintro e w' ⟨rfl, rfl⟩
  go_wp2_with fail
  refine (freq_nil _).mono ?_
  rintro e w' ⟨rfl, rfl⟩
  go_wp2_with fail
  refine (phase_nil _).mono ?_
  rintro e w' ⟨rfl, rfl⟩
  go_wp2_with fail
  refine (state_nil _).mono ?_
  rintro e w' ⟨rfl, rfl⟩
  go_wp2_with fail
  have hX : Below w.heap.size w (w1.alloc (Obj.cells #[Value.int IntKind.i64 0, Value.int IntKind.i64 0] 38)) := HB1.out.alloc HB1.out.size _
  refine (awake_any _ (hcC.out.below ((Below.refl _ _).alloc (Nat.le_refl _) _) hcC.out.pos)).mono ?_
  rintro e w2 ⟨rfl, hb⟩
  have HE := Kp.mk (Below.then hX hX.size hb)
  clear hb hX
  go_wp2_with fail
  go_ret
  exact ⟨by simp, HE.out⟩
theorem nobody_walk (a o p : Int) (w : World) (_ : I64 a) (_ : I64 o) (_ : I64 p) (hc : ConfAt w) : Calls Tryd.prog 9 #[.int .i64 a, .int .i64 o, .int .i64 p] w fun x w' => x = .returned (.bool true) ∧ Below w.heap.size w w' := nobody_any a o p w hc
end Go.Proofs.YtbfobodaeimklaaDoor
