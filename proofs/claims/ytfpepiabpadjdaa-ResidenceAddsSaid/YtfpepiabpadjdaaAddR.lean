/-
  ResidenceAdds' walk.
-/
import Derived.Test.YtfpepiabpadjdaaRefC
set_option linter.unusedSimpArgs false
set_option linter.unusedVariables false
namespace Go.Proofs.Ytfpepiabpadjdaa
open Go.RowKit Go.Maps
set_option maxRecDepth 10000 in
set_option maxHeartbeats 8000000 in
theorem adds_any (p : PM) (stay link : Int) (hp : p.Wf) (_ : -9223372036854775808 ≤ stay ∧ stay ≤ 9223372036854775807) (_ : -9223372036854775808 ≤ link ∧ link ≤ 9223372036854775807) (w : World) :
    Calls Try.prog 4 #[.agg p.vals, .int .i64 stay, .int .i64 link] w fun x w' => x = .returned (.bool true) ∧ Below w.heap.size w w' := by
  have c1 := fun w => add_any p hp.kind (wf_i64 hp.corr) stay link w
  have c2 := fun w => raddp_any p (wf_i64 hp.corr) stay link w
  have aw := fun w => awake_any w
  generalize addPF p stay link = r at *
  obtain ⟨q, e⟩ := r
  unfold MPost at c1 c2
  simp only at c1 c2
  have hm := PBox.made w p 33
  have hX : Below w.heap.size w (w.alloc (.cells p.vals 33)) := (Below.refl _ _).alloc (Nat.le_refl _) _
  obtain ⟨W, hW⟩ : ∃ W, W = w.alloc (.cells p.vals 33) := ⟨_, rfl⟩
  rw [← hW] at hm hX
  have H := Kp.mk (And.intro hm hX)
  clear hm hX hp
  unfold PM.vals at hW ⊢
  go_enter Try.func4, Try.ntmps4
  go_upto_region 1 with fail
  rw [← hW]
  clear hW
  go_wp2_with (first | ((with_reducible show wpList _ _ _ ({ dst := _, op := Op.load 33 (Operand.tmp 3), type := _, pos := _, after := _, guard := _ } :: _) _ _); refine wpList_load_ptp _ rfl (w.heap.size) (p) (H.out.1) rfl (by kernel_rfl) ?_) | fail)
  refine (c1 _).mono ?_
  rintro x w1 ⟨rfl, hX⟩
  have hm := H.out.1.below hX H.out.1.lt
  have hB := Below.then H.out.2 H.out.2.size hX
  clear hX H
  have H := Kp.mk (And.intro hm hB)
  clear hm hB
  have hth := there_new w1 #[.int .i64 0, .int .i64 0, .int .i64 0, .int .i64 0, .int .u64 0, .int .i64 0, .int .i64 0, .int .i64 0, .int .i64 0, .int .i64 0, .int .u64 0, .int .i64 0, .int .i64 0, .int .i64 0, .int .i64 0, .int .i64 0, .int .i64 0, .int .i64 0, .int .u64 0, .int .i64 0, .int .i64 0] 33
  go_upto_region 2 with (first | ((with_reducible show wpList _ _ _ ({ dst := _, op := Op.store _ _ _, type := _, pos := _, after := _, guard := _ } :: _) _ _); refine wpList_store_mid rfl 33 _ _ rfl w1.heap.size 0 (q).vals rfl rfl hth (by kernel_rfl) (by kernel_rfl) ?_; obtain ⟨w2, hn⟩ : ∃ W, W = (w1.alloc (.cells #[.int .i64 0, .int .i64 0, .int .i64 0, .int .i64 0, .int .u64 0, .int .i64 0, .int .i64 0, .int .i64 0, .int .i64 0, .int .i64 0, .int .u64 0, .int .i64 0, .int .i64 0, .int .i64 0, .int .i64 0, .int .i64 0, .int .i64 0, .int .i64 0, .int .u64 0, .int .i64 0, .int .i64 0] 33)).setCells w1.heap.size 0 (q).vals.toList := ⟨_, rfl⟩; rw [← hn]; have hX := Below.setCells w1.heap.size (Nat.le_refl _) (q).vals.toList 0 _ ((Below.refl w1.heap.size w1).alloc (Nat.le_refl _) (.cells #[.int .i64 0, .int .i64 0, .int .i64 0, .int .i64 0, .int .u64 0, .int .i64 0, .int .i64 0, .int .i64 0, .int .i64 0, .int .i64 0, .int .u64 0, .int .i64 0, .int .i64 0, .int .i64 0, .int .i64 0, .int .i64 0, .int .i64 0, .int .i64 0, .int .u64 0, .int .i64 0, .int .i64 0] 33)); have hq := PBox.stored (q) (by simp) hth; rw [← hn] at hX hq; clear hn hth) | fail)
  have hm := H.out.1.below hX H.out.1.lt
  have hB := Below.then H.out.2 H.out.2.size hX
  clear hX H
  have H := Kp.mk (And.intro hm (And.intro hB hq))
  clear hm hB hq
  go_wp2_with (first | ((with_reducible show wpList _ _ _ ({ dst := _, op := Op.load 33 (Operand.tmp 3), type := _, pos := _, after := _, guard := _ } :: _) _ _); refine wpList_load_ptp _ rfl (w.heap.size) (p) (H.out.1) rfl (by kernel_rfl) ?_) | fail)
  refine (c2 _).mono ?_
  rintro x w3 ⟨rfl, hX⟩
  have hB := Below.then H.out.2.1 H.out.2.1.size hX
  have hq := H.out.2.2.below hX H.out.2.2.lt
  clear hX H
  have H := Kp.mk (And.intro hB hq)
  clear hB hq
  have hth := there_new w3 #[.int .i64 0, .int .i64 0, .int .i64 0, .int .i64 0, .int .u64 0, .int .i64 0, .int .i64 0, .int .i64 0, .int .i64 0, .int .i64 0, .int .u64 0, .int .i64 0, .int .i64 0, .int .i64 0, .int .i64 0, .int .i64 0, .int .i64 0, .int .i64 0, .int .u64 0, .int .i64 0, .int .i64 0] 33
  go_upto_region 3 with (first | ((with_reducible show wpList _ _ _ ({ dst := _, op := Op.store _ _ _, type := _, pos := _, after := _, guard := _ } :: _) _ _); refine wpList_store_mid rfl 33 _ _ rfl w3.heap.size 0 (q).vals rfl rfl hth (by kernel_rfl) (by kernel_rfl) ?_; obtain ⟨w4, hn⟩ : ∃ W, W = (w3.alloc (.cells #[.int .i64 0, .int .i64 0, .int .i64 0, .int .i64 0, .int .u64 0, .int .i64 0, .int .i64 0, .int .i64 0, .int .i64 0, .int .i64 0, .int .u64 0, .int .i64 0, .int .i64 0, .int .i64 0, .int .i64 0, .int .i64 0, .int .i64 0, .int .i64 0, .int .u64 0, .int .i64 0, .int .i64 0] 33)).setCells w3.heap.size 0 (q).vals.toList := ⟨_, rfl⟩; rw [← hn]; have hX := Below.setCells w3.heap.size (Nat.le_refl _) (q).vals.toList 0 _ ((Below.refl w3.heap.size w3).alloc (Nat.le_refl _) (.cells #[.int .i64 0, .int .i64 0, .int .i64 0, .int .i64 0, .int .u64 0, .int .i64 0, .int .i64 0, .int .i64 0, .int .i64 0, .int .i64 0, .int .u64 0, .int .i64 0, .int .i64 0, .int .i64 0, .int .i64 0, .int .i64 0, .int .i64 0, .int .i64 0, .int .u64 0, .int .i64 0, .int .i64 0] 33)); have hq2 := PBox.stored (q) (by simp) hth; rw [← hn] at hX hq2; clear hn hth) | fail)
  have hB := Below.then H.out.1 H.out.1.size hX
  have hq := H.out.2.below hX H.out.2.lt
  clear hX H
  go_wp2_with (first | ((with_reducible show wpList _ _ _ ({ dst := _, op := Op.load 33 (Operand.tmp 7), type := _, pos := _, after := _, guard := _ } :: _) _ _); refine wpList_load_ptp _ rfl (w1.heap.size) (q) (hq) rfl (by kernel_rfl) ?_) | ((with_reducible show wpList _ _ _ ({ dst := _, op := Op.load 33 (Operand.tmp 9), type := _, pos := _, after := _, guard := _ } :: _) _ _); refine wpList_load_ptp _ rfl (w3.heap.size) (q) (hq2) rfl (by kernel_rfl) ?_) | ((with_reducible show wpList _ _ _ ({ dst := _, op := Op.binOp BinOp.eql 33 (Operand.tmp 25) (Operand.tmp 26) _, type := _, pos := _, after := _, guard := _ } :: _) _ _); refine wpList_eq_ptp _ _ rfl (q) rfl rfl (by kernel_rfl) ?_) | fail)
  refine (aw _).mono ?_
  rintro x w5 ⟨rfl, hX⟩
  have HB := Below.then hB hB.size hX
  clear hX hB hq hq2
  go_wp2_with fail
  go_ret
  exact ⟨rfl, HB⟩
end Go.Proofs.Ytfpepiabpadjdaa
