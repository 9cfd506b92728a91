/-
  Release of a nil table; messages that are compared; loads under a guard.
-/
import Derived.Test.YtfpepiabpadjdaaResK
import Derived.Test.YtfpepiabpadjdaaResS
import Derived.BigFrame
import Derived.Laws.StructEq
set_option linter.unusedSimpArgs false
set_option linter.unusedVariables false
namespace Go.Proofs.Ytfpepiabpadjdaa
open Go.RowKit Go.Maps
set_option maxRecDepth 10000 in
theorem release_nil (w : World) (p : PM) : Calls Try.prog 21 #[.pointer none, .agg p.vals] w (MPost PM.zero 1 w) := by
  have hX : Below w.heap.size w (w.alloc (.cells p.vals 33)) := (Below.refl _ _).alloc (Nat.le_refl _) _
  have hth := there_new (w.alloc (.cells p.vals 33)) #[.int .i64 0, .int .i64 0, .int .i64 0, .int .i64 0, .int .u64 0, .int .i64 0, .int .i64 0, .int .i64 0, .int .i64 0, .int .i64 0, .int .u64 0, .int .i64 0, .int .i64 0, .int .i64 0, .int .i64 0, .int .i64 0, .int .i64 0, .int .i64 0, .int .u64 0, .int .i64 0, .int .i64 0] 33
  rw [World.size_alloc] at hth
  simp only [PM.vals] at hX hth
  unfold PM.vals
  go_enter Try.func21, Try.ntmps21
  go_wp2_with (first | ((with_reducible show wpList _ _ _ ({ dst := _, op := Op.store _ _ _, type := _, pos := _, after := _, guard := _ } :: _) _ _); refine wpList_store_mid rfl 33 _ _ rfl (w.heap.size + 1) 0 PM.zero.vals rfl rfl hth (by kernel_rfl) (by kernel_rfl) ?_) | fail)
  exact bodyPost_ret (v := .tuple #[.agg (PM.zero).vals, .int .i64 1]) (res_msg Try.results21 _ _ (w.heap.size + 1) (PM.zero) 1 rfl rfl (PBox.stored (PM.zero) (by simp) hth)) rfl ⟨rfl, Below.setCells _ (by omega) _ _ _ (hX.alloc hX.size _)⟩
theorem wpList_guard {P : Program} {ops : Array Oper} {Q : Exit → Act → World → Prop} {a : Act} {w : World} {rest : List Oper} {o : Oper} (hw : Region.wanted o (yielded ops a.tmps) = true) (h : o.wp P a w (wpList P ops Q rest) Q) : wpList P ops Q (o :: rest) a w := by
  unfold wpList
  rw [if_pos hw]
  exact .inl h
/-- A whole message loaded, under a guard that lets it. -/
theorem wpList_load_ptp {ops : Array Oper} {Q : Exit → Act → World → Prop} {a : Act} {w : World} {rest : List Oper} {o : Oper} (x : Operand) (ho : o.op = .load 33 x) (b : Nat) (q : PM) (hq : PBox w b q) (hx : a.eval x = .pointer (some ⟨b, 0, none⟩)) (hw : Region.wanted o (yielded ops a.tmps) = true)
    (h : wpList Try.prog ops Q rest (a.put o.dst (.agg q.vals)) w) : wpList Try.prog ops Q (o :: rest) a w :=
  wpList_guard hw (wp_load_mid 33 x ho b 0 hx _ _ hq.row Try.underlying33 rfl (by kernel_rfl) h)
theorem eqFields_refl {P : Program} {d : Nat} {xs : Array Value} : ∀ (fs : List Field), (∀ f ∈ fs, ∃ v, (∀ w, (part f.type xs f.offset).run P w = .ok v w) ∧ ∀ w, (Op.equalIn d f.type v v).run P w = .ok true w) → ∀ (w : World), (Op.eqFields d xs xs fs).run P w = .ok true w
  | [], _, w => rfl
  | f :: fs, h, w => by
    obtain ⟨v, h1, h2⟩ := h f (by simp)
    have ih := eqFields_refl fs (fun g hg => h g (by simp [hg])) w
    unfold Op.eqFields
    split
    · simp only [Sem.run_bind, h1, Result.andThen_ok, h2, Bool.not_true, Bool.false_eq_true, if_false]
      exact ih
    · exact ih
theorem eqI (d : Nat) (a : Int) (w : World) : (Op.equalIn (d + 1) 3 (.int .i64 a) (.int .i64 a)).run Try.prog w = .ok true w := by rw [run_equalIn_int w d 3 .i64 .i64 a a Try.underlying3]; simp
theorem eqU (d : Nat) (a : Int) (w : World) : (Op.equalIn (d + 1) 27 (.int .u64 a) (.int .u64 a)).run Try.prog w = .ok true w := by rw [run_equalIn_int w d 27 .u64 .u64 a a Try.underlying27]; simp
theorem eqIn_stamp (d : Nat) (a b : Int) (w : World) : (Op.equalIn (d + 2) 29 (.agg #[.int .i64 a, .int .i64 b]) (.agg #[.int .i64 a, .int .i64 b])).run Try.prog w = .ok true w := by
  rw [run_equalIn_struct w (d + 1) 29 _ _ (by kernel_rfl) (by kernel_rfl), show Try.prog.fieldsOf 29 = _ from by unfold Program.fieldsOf; rw [Try.underlying29]]
  refine eqFields_refl _ (fun f hf => ?_) w
  simp only [List.mem_cons, List.not_mem_nil, or_false] at hf
  rcases hf with rfl | rfl
  · exact ⟨.int .i64 a, fun w => by kernel_rfl, eqI d a⟩
  · exact ⟨.int .i64 b, fun w => by kernel_rfl, eqI d b⟩
theorem eqIn_ann (d : Nat) (p : PM) (w : World) : (Op.equalIn (d + 2) 31 (.agg #[.int .i64 p.utc, .int .i64 p.p1, .int .i64 p.cls, .int .i64 p.acc, .int .i64 p.vr, .int .i64 p.p2, .int .u64 p.gm, .int .i64 p.steps, .int .i64 p.src]) (.agg #[.int .i64 p.utc, .int .i64 p.p1, .int .i64 p.cls, .int .i64 p.acc, .int .i64 p.vr, .int .i64 p.p2, .int .u64 p.gm, .int .i64 p.steps, .int .i64 p.src])).run Try.prog w = .ok true w := by
  rw [run_equalIn_struct w (d + 1) 31 _ _ (by kernel_rfl) (by kernel_rfl), show Try.prog.fieldsOf 31 = _ from by unfold Program.fieldsOf; rw [Try.underlying31]]
  refine eqFields_refl _ (fun f hf => ?_) w
  simp only [List.mem_cons, List.not_mem_nil, or_false] at hf
  rcases hf with rfl | rfl | rfl | rfl | rfl | rfl | rfl | rfl | rfl
  · exact ⟨.int .i64 p.utc, fun w => by kernel_rfl, eqI (d) _⟩
  · exact ⟨.int .i64 p.p1, fun w => by kernel_rfl, eqI (d) _⟩
  · exact ⟨.int .i64 p.cls, fun w => by kernel_rfl, eqI (d) _⟩
  · exact ⟨.int .i64 p.acc, fun w => by kernel_rfl, eqI (d) _⟩
  · exact ⟨.int .i64 p.vr, fun w => by kernel_rfl, eqI (d) _⟩
  · exact ⟨.int .i64 p.p2, fun w => by kernel_rfl, eqI (d) _⟩
  · exact ⟨.int .u64 p.gm, fun w => by kernel_rfl, eqU (d) _⟩
  · exact ⟨.int .i64 p.steps, fun w => by kernel_rfl, eqI (d) _⟩
  · exact ⟨.int .i64 p.src, fun w => by kernel_rfl, eqI (d) _⟩
theorem eqIn_ptp (d : Nat) (p : PM) (w : World) : (Op.equalIn (d + 3) 33 (.agg p.vals) (.agg p.vals)).run Try.prog w = .ok true w := by
  rw [run_equalIn_struct w (d + 2) 33 _ _ (by kernel_rfl) (by kernel_rfl), show Try.prog.fieldsOf 33 = _ from by unfold Program.fieldsOf; rw [Try.underlying33]]
  refine eqFields_refl _ (fun f hf => ?_) w
  simp only [List.mem_cons, List.not_mem_nil, or_false] at hf
  rcases hf with rfl | rfl | rfl | rfl | rfl | rfl | rfl | rfl | rfl | rfl | rfl | rfl
  · exact ⟨.int .i64 p.kind, fun w => by kernel_rfl, eqI (d + 1) _⟩
  · exact ⟨.int .i64 p.domain, fun w => by kernel_rfl, eqI (d + 1) _⟩
  · exact ⟨.int .i64 p.flags, fun w => by kernel_rfl, eqI (d + 1) _⟩
  · exact ⟨.int .i64 p.corr, fun w => by kernel_rfl, eqI (d + 1) _⟩
  · exact ⟨.int .u64 p.clock, fun w => by kernel_rfl, eqU (d + 1) _⟩
  · exact ⟨.int .i64 p.port, fun w => by kernel_rfl, eqI (d + 1) _⟩
  · exact ⟨.int .i64 p.seq, fun w => by kernel_rfl, eqI (d + 1) _⟩
  · exact ⟨.int .i64 p.logint, fun w => by kernel_rfl, eqI (d + 1) _⟩
  · exact ⟨.agg #[.int .i64 p.sec, .int .i64 p.nano], fun w => by kernel_rfl, eqIn_stamp d _ _⟩
  · exact ⟨.int .u64 p.reqclock, fun w => by kernel_rfl, eqU (d + 1) _⟩
  · exact ⟨.int .i64 p.reqport, fun w => by kernel_rfl, eqI (d + 1) _⟩
  · exact ⟨.agg #[.int .i64 p.utc, .int .i64 p.p1, .int .i64 p.cls, .int .i64 p.acc, .int .i64 p.vr, .int .i64 p.p2, .int .u64 p.gm, .int .i64 p.steps, .int .i64 p.src], fun w => by kernel_rfl, eqIn_ann d p⟩
theorem run_eq_ptp (w : World) (p : PM) : (binOp .eql 33 (.agg p.vals) (.agg p.vals)).run Try.prog w = .ok (.bool true) w := by
  rw [run_eql_struct w, show (10000 : Nat) = 9997 + 3 from rfl, eqIn_ptp]
  rfl
theorem run_ne_ptp (w : World) (p : PM) : (binOp .neq 33 (.agg p.vals) (.agg p.vals)).run Try.prog w = .ok (.bool false) w := by
  rw [run_neq_struct w, show (10000 : Nat) = 9997 + 3 from rfl, eqIn_ptp]
  rfl
theorem guardP : Try.prog.eqGuardType Try.prog.depth 33 = false := by kernel_rfl
theorem wpList_eq_ptp {ops : Array Oper} {Q : Exit → Act → World → Prop} {a : Act} {w : World} {rest : List Oper} {o : Oper} (x y : Operand) (ho : o.op = .binOp .eql 33 x y 33) (q : PM) (hx : a.eval x = .agg q.vals) (hy : a.eval y = .agg q.vals) (hw : Region.wanted o (yielded ops a.tmps) = true)
    (h : wpList Try.prog ops Q rest (a.put o.dst (.bool true)) w) : wpList Try.prog ops Q (o :: rest) a w := by
  refine wpList_guard hw ?_
  have hev : (execOp a.eval o).run Try.prog w = .ok (.value (.bool true)) w := by
    generalize a.eval = ev at *
    have h1 := run_eq_ptp w q
    have h2 := fun op => run_eqGuard_agg (P := Try.prog) w op 33 x y q.vals q.vals guardP
    unfold execOp
    simp only [ho, hx, hy, Sem.run_bind, h2, Result.andThen_ok, h1]
    rfl
  unfold Oper.wp
  simp [hev]
  exact h
theorem wpList_ne_ptp {ops : Array Oper} {Q : Exit → Act → World → Prop} {a : Act} {w : World} {rest : List Oper} {o : Oper} (x y : Operand) (ho : o.op = .binOp .neq 33 x y 33) (q : PM) (hx : a.eval x = .agg q.vals) (hy : a.eval y = .agg q.vals) (hw : Region.wanted o (yielded ops a.tmps) = true)
    (h : wpList Try.prog ops Q rest (a.put o.dst (.bool false)) w) : wpList Try.prog ops Q (o :: rest) a w := by
  refine wpList_guard hw ?_
  have hev : (execOp a.eval o).run Try.prog w = .ok (.value (.bool false)) w := by
    generalize a.eval = ev at *
    have h1 := run_ne_ptp w q
    have h2 := fun op => run_eqGuard_agg (P := Try.prog) w op 33 x y q.vals q.vals guardP
    unfold execOp
    simp only [ho, hx, hy, Sem.run_bind, h2, Result.andThen_ok, h1]
    rfl
  unfold Oper.wp
  simp [hev]
  exact h
end Go.Proofs.Ytfpepiabpadjdaa
