/-
  The walk of SysclockNobody: whatever the call, it returns true, and what was there is as it was.
-/
import Derived.Test.YtnfkffaogidleaaAwake10
import Derived.Test.YtnfkffaogidleaaStructs
set_option linter.unusedSimpArgs false
set_option linter.unusedVariables false
namespace Go.Proofs.Ytnfkffaogidleaa
open Go.RowKit
def ErrPost (er : Int) (w : World) (x : Ending) (w' : World) : Prop := x = .returned (.int .i64 er) ∧ Below w.heap.size w w'
set_option maxHeartbeats 1000000 in
theorem freq_nil (raw ppb : Int) (w : World) : Calls Try.prog 18 #[.pointer none, .int .i64 raw, .int .i64 ppb] w (ErrPost 1 w) := by
  have hmf : ∀ (fn : Fn) (first cap : Array Value) (w : World), (Instr.makeFunc fn first cap).run Try.prog w = .ok (.func fn first cap) w := fun _ _ _ _ => rfl
  go_enter Try.func18, Try.ntmps18
  go_wp2
  all_goals (go_ret; exact ⟨rfl, (Below.refl _ _).alloc (Nat.le_refl _) _⟩)
set_option maxHeartbeats 1000000 in
theorem slew_nil (raw delta rate : Int) (w : World) : Calls Try.prog 19 #[.pointer none, .int .i64 raw, .int .i64 delta, .int .i64 rate] w (ErrPost 1 w) := by
  have hmf : ∀ (fn : Fn) (first cap : Array Value) (w : World), (Instr.makeFunc fn first cap).run Try.prog w = .ok (.func fn first cap) w := fun _ _ _ _ => rfl
  go_enter Try.func19, Try.ntmps19
  go_wp2
  all_goals (go_ret; exact ⟨rfl, below_alloc2 _ _ _⟩)
set_option maxHeartbeats 1000000 in
theorem step_nil (raw delta : Int) (w : World) : Calls Try.prog 21 #[.pointer none, .int .i64 raw, .int .i64 delta] w (ErrPost 1 w) := by
  have hmf : ∀ (fn : Fn) (first cap : Array Value) (w : World), (Instr.makeFunc fn first cap).run Try.prog w = .ok (.func fn first cap) w := fun _ _ _ _ => rfl
  go_enter Try.func21, Try.ntmps21
  go_wp2
  all_goals (go_ret; exact ⟨rfl, (Below.refl _ _).alloc (Nat.le_refl _) _⟩)
theorem loc4 {w W : World} {v0 v1 v2 v3 : Value} {t : TypeId} (h : Below (w.alloc (.cells #[v0, v1, v2, v3] t)).heap.size (w.alloc (.cells #[v0, v1, v2, v3] t)) W) :
    W.cell? ⟨w.heap.size, 0, none⟩ = some v0 ∧ W.cell? ⟨w.heap.size, 1, none⟩ = some v1 ∧ W.cell? ⟨w.heap.size, 2, none⟩ = some v2 ∧ W.cell? ⟨w.heap.size, 3, none⟩ = some v3 := by
  refine ⟨?_, ?_, ?_, ?_⟩ <;> (rw [h.cell (by simp), World.cell?_alloc_at _ _ _ _ rfl]; rfl)
theorem below_box {w W : World} {o : Obj} (h : Below (w.alloc o).heap.size (w.alloc o) W) : Below w.heap.size w W := ((Below.refl _ _).alloc (Nat.le_refl _) _).trans (h.mono (by simp))
set_option maxHeartbeats 4000000 in
theorem nobody_any (kind raw a b : Int) (w : World) : Calls Try.prog 9 #[.agg #[.int .i64 kind, .int .i64 raw, .int .i64 a, .int .i64 b]] w fun x w' => x = .returned (.bool true) ∧ Below w.heap.size w w' := by
  go_enter Try.func9, Try.ntmps9
  go_wp2_with fail
  refine (now_nil _ _).mono ?_
  rintro e w1 ⟨rfl, rfl⟩
  go_wp2_with fail
  refine (freq_nil _ _ _).mono ?_
  rintro e w2 ⟨rfl, hb⟩
  obtain ⟨c0, c1, c2, c3⟩ := loc4 hb
  have HB2 := Kp.mk hb
  clear hb
  go_wp2_with fail
  refine (slew_nil _ _ _ _).mono ?_
  rintro e w3 ⟨rfl, hb⟩
  have HB3 := Kp.mk (Below.then HB2.out HB2.out.size hb)
  clear hb HB2 c0 c1 c2 c3
  obtain ⟨c0, c1, c2, c3⟩ := loc4 HB3.out
  go_wp2_with fail
  refine (step_nil _ _ _).mono ?_
  rintro e w4 ⟨rfl, hb⟩
  have HB4 := Kp.mk (Below.then HB3.out HB3.out.size hb)
  clear hb HB3 c0 c1 c2 c3
  obtain ⟨c0, c1, c2, c3⟩ := loc4 HB4.out
  go_wp2_with fail
  refine (pending_nil _ _).mono ?_
  rintro e w5 ⟨rfl, rfl⟩
  go_wp2_with fail
  have q := state_nil w4
  unfold StatePost CS.vals CS.zero at q
  simp only at q
  refine q.mono ?_
  rintro e w5 ⟨rfl, hb⟩
  have HB5 := Kp.mk (Below.then HB4.out HB4.out.size hb)
  clear hb HB4 c0 c1 c2 c3 q
  go_wp2_with fail
  refine (awake_any _).mono ?_
  rintro e w6 ⟨rfl, hb⟩
  have HB6 := Kp.mk (Below.then HB5.out HB5.out.size hb)
  clear hb HB5
  go_wp2_with fail
  go_ret
  exact ⟨by simp, below_box HB6.out⟩
theorem nobody_walk (kind raw a b : Int) (_ : I64 kind) (_ : I64 raw) (_ : I64 a) (_ : I64 b) (w : World) : Calls Try.prog 9 #[.agg #[.int .i64 kind, .int .i64 raw, .int .i64 a, .int .i64 b]] w fun x w' => x = .returned (.bool true) ∧ Below w.heap.size w w' := nobody_any kind raw a b w
end Go.Proofs.Ytnfkffaogidleaa
