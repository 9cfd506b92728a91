/-
  The reference's check of a message.
-/
import Derived.Test.YtfpepiabpadjdaaRefA
set_option linter.unusedSimpArgs false
set_option linter.unusedVariables false
namespace Go.Proofs.Ytfpepiabpadjdaa
open Go.RowKit
theorem rin_any (n lo hi : Int) (w : World) : Calls Try.prog 48 #[.int .i64 n, .int .i64 lo, .int .i64 hi] w fun e w' => e = .returned (.bool (inB n lo hi)) ∧ w = w' := by
  unfold inB
  by_cases h : lo ≤ n
  · go_enter Try.func48, Try.ntmps48
    go_wp2
    all_goals (go_ret; exact ⟨by simp_all, rfl⟩)
  · go_enter Try.func48, Try.ntmps48
    go_wp2
    all_goals (go_ret; exact ⟨by first | (simp_all; done) | (simp; omega), rfl⟩)
theorem rreq_any (k : Int) (w : World) : Calls Try.prog 50 #[.int .i64 k] w fun e w' => e = .returned (.bool (reqB k)) ∧ w = w' := by
  have h : reqB k = (k == 9 || k == 3 || k == 10) := rfl
  rw [h]
  clear h
  go_enter Try.func50, Try.ntmps50
  go_wp2
  all_goals
    go_ret
    first | exact ⟨rfl, rfl⟩ | exact ⟨by simp_all, rfl⟩
theorem rsizeof_any (k : Int) (w : World) : Calls Try.prog 47 #[.int .i64 k] w fun e w' => e = .returned (.int .i64 (sizeF k)) ∧ w = w' := by
  obtain ⟨r, hr⟩ : ∃ r, sizeF k = r := ⟨_, rfl⟩
  rw [hr]
  unfold sizeF at hr
  have H := Kp.mk hr
  clear hr
  go_enter Try.func47, Try.ntmps47
  go_wp2
  all_goals
    have hr := H.out
    go_ret
    exact ⟨by rw [← hr]; clear hr H; simp_all, rfl⟩
theorem rstamp_any (s n : Int) (w : World) : Calls Try.prog 49 #[.agg #[.int .i64 s, .int .i64 n]] w (EPost (stampB s n) w) := by
  rcases Bool.eq_false_or_eq_true (stampB s n) with h | h
  all_goals
    rw [h]
    have H := Kp.mk h
    clear h
    go_enter Try.func49, Try.ntmps49
    go_wp2
    all_goals
      have h := H.out
      simp [stampB] at h
      first
        | (exfalso; omega)
        | exact bodyPost_ret (v := .int .i64 0) (by simp [results, Try.results49, go_sem]; done) rfl ⟨0, rfl, rfl, (Below.refl _ _).alloc (Nat.le_refl _) _⟩
        | exact bodyPost_ret (v := .int .i64 3) (by simp [results, Try.results49, go_sem]; done) rfl ⟨3, rfl, rfl, (Below.refl _ _).alloc (Nat.le_refl _) _⟩
theorem eqFields_val {P : Program} {d : Nat} {xs ys : Array Value} : ∀ (fs : List (Field × Bool)), (∀ x ∈ fs, x.1.name ≠ "_" ∧ ∃ u v, (∀ w, (part x.1.type xs x.1.offset).run P w = .ok u w) ∧ (∀ w, (part x.1.type ys x.1.offset).run P w = .ok v w) ∧ ∀ w, (Op.equalIn d x.1.type u v).run P w = .ok x.2 w) → ∀ (w : World), (Op.eqFields d xs ys (fs.map (·.1))).run P w = .ok (fs.all (·.2)) w
  | [], _, w => rfl
  | f :: fs, h, w => by
    obtain ⟨hn, u, v, h1, h2, h3⟩ := h f (by simp)
    have ih := eqFields_val fs (fun g hg => h g (by simp [hg])) w
    simp only [List.map_cons]
    unfold Op.eqFields
    rw [if_pos hn]
    simp only [Sem.run_bind, h1, h2, Result.andThen_ok, h3, List.all_cons]
    cases f.2
    · rfl
    · simpa using ih
theorem eqI0 (d : Nat) (a : Int) (w : World) : (Op.equalIn (d + 1) 3 (.int .i64 a) (.int .i64 0)).run Try.prog w = .ok (a == 0) w := run_equalIn_int w d 3 .i64 .i64 a 0 Try.underlying3
theorem eqU0 (d : Nat) (a : Int) (w : World) : (Op.equalIn (d + 1) 27 (.int .u64 a) (.int .u64 0)).run Try.prog w = .ok (a == 0) w := run_equalIn_int w d 27 .u64 .u64 a 0 Try.underlying27
theorem eqIn_annZ (d : Nat) (p : PM) (w : World) : (Op.equalIn (d + 2) 31 (.agg #[.int .i64 p.utc, .int .i64 p.p1, .int .i64 p.cls, .int .i64 p.acc, .int .i64 p.vr, .int .i64 p.p2, .int .u64 p.gm, .int .i64 p.steps, .int .i64 p.src]) (.agg #[.int .i64 0, .int .i64 0, .int .i64 0, .int .i64 0, .int .i64 0, .int .i64 0, .int .u64 0, .int .i64 0, .int .i64 0])).run Try.prog w = .ok (annZ p) w := by
  rw [run_equalIn_struct w (d + 1) 31 _ _ (by kernel_rfl) (by kernel_rfl), show Try.prog.fieldsOf 31 = _ from by unfold Program.fieldsOf; rw [Try.underlying31]]
  have h := eqFields_val (P := Try.prog) (d := d + 1) (xs := #[.int .i64 p.utc, .int .i64 p.p1, .int .i64 p.cls, .int .i64 p.acc, .int .i64 p.vr, .int .i64 p.p2, .int .u64 p.gm, .int .i64 p.steps, .int .i64 p.src]) (ys := #[.int .i64 0, .int .i64 0, .int .i64 0, .int .i64 0, .int .i64 0, .int .i64 0, .int .u64 0, .int .i64 0, .int .i64 0]) [(⟨ "Utc", 3, 0, false, "", "", 0⟩, p.utc == 0), (⟨ "P1", 3, 1, false, "", "", 8⟩, p.p1 == 0), (⟨ "Class", 3, 2, false, "", "", 16⟩, p.cls == 0), (⟨ "Acc", 3, 3, false, "", "", 24⟩, p.acc == 0), (⟨ "Var", 3, 4, false, "", "", 32⟩, p.vr == 0), (⟨ "P2", 3, 5, false, "", "", 40⟩, p.p2 == 0), (⟨ "Gm", 27, 6, false, "", "", 48⟩, p.gm == 0), (⟨ "Steps", 3, 7, false, "", "", 56⟩, p.steps == 0), (⟨ "Source", 3, 8, false, "", "", 64⟩, p.src == 0)] ?_ w
  · rw [show annZ p = _ from ?_]
    · exact h
    · simp only [List.all_cons, List.all_nil, Bool.and_true, annZ, Bool.and_assoc]
  · intro x hx
    simp only [List.mem_cons, List.not_mem_nil, or_false] at hx
    rcases hx with rfl | rfl | rfl | rfl | rfl | rfl | rfl | rfl | rfl
    · exact ⟨(show ( "Utc" : String) ≠ "_" by decide), _, _, fun w => by kernel_rfl, fun w => by kernel_rfl, eqI0 d p.utc⟩
    · exact ⟨(show ( "P1" : String) ≠ "_" by decide), _, _, fun w => by kernel_rfl, fun w => by kernel_rfl, eqI0 d p.p1⟩
    · exact ⟨(show ( "Class" : String) ≠ "_" by decide), _, _, fun w => by kernel_rfl, fun w => by kernel_rfl, eqI0 d p.cls⟩
    · exact ⟨(show ( "Acc" : String) ≠ "_" by decide), _, _, fun w => by kernel_rfl, fun w => by kernel_rfl, eqI0 d p.acc⟩
    · exact ⟨(show ( "Var" : String) ≠ "_" by decide), _, _, fun w => by kernel_rfl, fun w => by kernel_rfl, eqI0 d p.vr⟩
    · exact ⟨(show ( "P2" : String) ≠ "_" by decide), _, _, fun w => by kernel_rfl, fun w => by kernel_rfl, eqI0 d p.p2⟩
    · exact ⟨(show ( "Gm" : String) ≠ "_" by decide), _, _, fun w => by kernel_rfl, fun w => by kernel_rfl, eqU0 d p.gm⟩
    · exact ⟨(show ( "Steps" : String) ≠ "_" by decide), _, _, fun w => by kernel_rfl, fun w => by kernel_rfl, eqI0 d p.steps⟩
    · exact ⟨(show ( "Source" : String) ≠ "_" by decide), _, _, fun w => by kernel_rfl, fun w => by kernel_rfl, eqI0 d p.src⟩
theorem run_ne_ann (w : World) (p : PM) : (binOp .neq 31 (.agg #[.int .i64 p.utc, .int .i64 p.p1, .int .i64 p.cls, .int .i64 p.acc, .int .i64 p.vr, .int .i64 p.p2, .int .u64 p.gm, .int .i64 p.steps, .int .i64 p.src]) (.agg #[.int .i64 0, .int .i64 0, .int .i64 0, .int .i64 0, .int .i64 0, .int .i64 0, .int .u64 0, .int .i64 0, .int .i64 0])).run Try.prog w = .ok (.bool (!annZ p)) w := by
  rw [run_neq_struct w, show (10000 : Nat) = 9998 + 2 from rfl, eqIn_annZ]
  rfl
theorem guardA : Try.prog.eqGuardType Try.prog.depth 31 = false := by kernel_rfl
theorem wpList_ne_ann {ops : Array Oper} {Q : Exit → Act → World → Prop} {a : Act} {w : World} {rest : List Oper} {o : Oper} (x y : Operand) (ho : o.op = .binOp .neq 31 x y 31) (p : PM) (hx : a.eval x = .agg #[.int .i64 p.utc, .int .i64 p.p1, .int .i64 p.cls, .int .i64 p.acc, .int .i64 p.vr, .int .i64 p.p2, .int .u64 p.gm, .int .i64 p.steps, .int .i64 p.src]) (hy : a.eval y = .agg #[.int .i64 0, .int .i64 0, .int .i64 0, .int .i64 0, .int .i64 0, .int .i64 0, .int .u64 0, .int .i64 0, .int .i64 0]) (hw : Region.wanted o (yielded ops a.tmps) = true)
    (h : wpList Try.prog ops Q rest (a.put o.dst (.bool (!annZ p))) w) : wpList Try.prog ops Q (o :: rest) a w := by
  refine wpList_guard hw ?_
  have hev : (execOp a.eval o).run Try.prog w = .ok (.value (.bool (!annZ p))) w := by
    generalize a.eval = ev at *
    have h1 := run_ne_ann w p
    have h2 := fun op => run_eqGuard_agg (P := Try.prog) w op 31 x y #[.int .i64 p.utc, .int .i64 p.p1, .int .i64 p.cls, .int .i64 p.acc, .int .i64 p.vr, .int .i64 p.p2, .int .u64 p.gm, .int .i64 p.steps, .int .i64 p.src] #[.int .i64 0, .int .i64 0, .int .i64 0, .int .i64 0, .int .i64 0, .int .i64 0, .int .u64 0, .int .i64 0, .int .i64 0] guardA
    unfold execOp
    simp only [ho, hx, hy, Sem.run_bind, h2, Result.andThen_ok, h1]
    rfl
  unfold Oper.wp
  simp [hev]
  exact h
set_option maxRecDepth 10000 in
set_option maxHeartbeats 8000000 in
theorem rcheck_any (p : PM) (w : World) : Calls Try.prog 35 #[.agg p.vals] w (EPost (okP p) w) := by
  obtain ⟨r, hr⟩ : ∃ r, okP p = r := ⟨_, rfl⟩
  rw [hr]
  unfold okP inRB formB at hr
  have sz := fun w => rsizeof_any p.kind w
  have rq := fun w => rreq_any p.kind w
  have i1 := fun w => rin_any p.domain 0 255 w
  have i2 := fun w => rin_any p.flags 0 65535 w
  have i3 := fun w => rin_any p.port 0 65535 w
  have i4 := fun w => rin_any p.seq 0 65535 w
  have i5 := fun w => rin_any p.logint (-128) 127 w
  have i6 := fun w => rstamp_any p.sec p.nano w
  have i7 := fun w => rin_any p.reqport 0 65535 w
  have i8 := fun w => rin_any p.utc (-32768) 32767 w
  have i9 := fun w => rin_any p.p1 0 255 w
  have i10 := fun w => rin_any p.cls 0 255 w
  have i11 := fun w => rin_any p.acc 0 255 w
  have i12 := fun w => rin_any p.vr 0 65535 w
  have i13 := fun w => rin_any p.p2 0 255 w
  have i14 := fun w => rin_any p.steps 0 65535 w
  have i15 := fun w => rin_any p.src 0 255 w
  generalize inB p.domain 0 255 = b1 at *
  generalize inB p.flags 0 65535 = b2 at *
  generalize inB p.port 0 65535 = b3 at *
  generalize inB p.seq 0 65535 = b4 at *
  generalize inB p.logint (-128) 127 = b5 at *
  generalize stampB p.sec p.nano = b6 at *
  generalize inB p.reqport 0 65535 = b7 at *
  generalize inB p.utc (-32768) 32767 = b8 at *
  generalize inB p.p1 0 255 = b9 at *
  generalize inB p.cls 0 255 = b10 at *
  generalize inB p.acc 0 255 = b11 at *
  generalize inB p.vr 0 65535 = b12 at *
  generalize inB p.p2 0 255 = b13 at *
  generalize inB p.steps 0 65535 = b14 at *
  generalize inB p.src 0 255 = b15 at *
  generalize hzz : sizeF p.kind = zz at *
  generalize hbq : reqB p.kind = bq at *
  generalize haz : annZ p = az at *
  have HR := Kp.mk hr
  have HZ := Kp.mk haz
  clear hr hzz hbq haz
  have hm := PBox.made w p 33
  have hX : Below w.heap.size w (w.alloc (.cells p.vals 33)) := (Below.refl _ _).alloc (Nat.le_refl _) _
  have hs1 : (w.alloc (.cells p.vals 33)).heap.size = w.heap.size + 1 := World.size_alloc _ _
  obtain ⟨W1, hW1⟩ : ∃ W, W = w.alloc (.cells p.vals 33) := ⟨_, rfl⟩
  rw [← hW1] at hm hX hs1
  have hann := hm.ann
  have H := Kp.mk (And.intro hm hX)
  clear hm hX
  unfold PM.vals at hW1 ⊢
  go_enter Try.func35, Try.ntmps35
  go_upto_region 1 with fail
  rw [← hW1]
  clear hW1
  have hth := there_new W1 #[.int .i64 0, .int .i64 0, .int .i64 0, .int .i64 0, .int .i64 0, .int .i64 0, .int .u64 0, .int .i64 0, .int .i64 0] 31
  go_upto_region 2 with (first | ((with_reducible show wpList _ _ _ ({ dst := _, op := Op.load 31 _, type := _, pos := _, after := _, guard := _ } :: _) _ _); refine wpList_load_mid rfl 31 _ rfl w.heap.size 12 rfl _ _ hann Try.underlying31 rfl (by kernel_rfl) ?_) | ((with_reducible show wpList _ _ _ ({ dst := _, op := Op.store _ _ _, type := _, pos := _, after := _, guard := _ } :: _) _ _); refine wpList_store_mid rfl 31 _ _ rfl W1.heap.size 0 #[.int .i64 p.utc, .int .i64 p.p1, .int .i64 p.cls, .int .i64 p.acc, .int .i64 p.vr, .int .i64 p.p2, .int .u64 p.gm, .int .i64 p.steps, .int .i64 p.src] rfl rfl hth (by kernel_rfl) (by kernel_rfl) ?_) | fail)
  obtain ⟨W2, hW2⟩ : ∃ W, W = W1.alloc (.cells #[.int .i64 p.utc, .int .i64 p.p1, .int .i64 p.cls, .int .i64 p.acc, .int .i64 p.vr, .int .i64 p.p2, .int .u64 p.gm, .int .i64 p.steps, .int .i64 p.src] 31) := ⟨_, rfl⟩
  rw [← hW2]
  have hX12 : Below W1.heap.size W1 W2 := by rw [hW2]; exact (Below.refl _ _).alloc (Nat.le_refl _) _
  have hs2 : W2.heap.size = w.heap.size + 2 := by rw [hW2, World.size_alloc, hs1]
  have hrowA : W2.rangeAt (w.heap.size + 1) 0 [.int .i64 p.utc, .int .i64 p.p1, .int .i64 p.cls, .int .i64 p.acc, .int .i64 p.vr, .int .i64 p.p2, .int .u64 p.gm, .int .i64 p.steps, .int .i64 p.src] := by
    intro j v hv
    rw [hW2, World.cell?_alloc_at _ _ _ _ hs1.symm]
    simp only [Nat.zero_add]
    rw [← hv]
    simp
  clear hW2
  have hm := H.out.1.below hX12 (by rw [hs1]; omega)
  have hB := Below.then H.out.2 H.out.2.size hX12
  clear H hX12 hs1 hann hth
  have H := Kp.mk (And.intro hm (And.intro hB hrowA))
  have c0 := hm.c0
  clear hm hB hrowA
  go_wp2_with fail
  refine (sz _).mono ?_
  rintro e w' ⟨rfl, rfl⟩
  rcases Bool.eq_false_or_eq_true (zz == 0) with hz | hz
  · as_aux_lemma =>
    go_wp2_with fail
    have hz0 : zz = 0 := by simpa using hz
    exact bodyPost_ret (v := .int .i64 8) (by simp [results, Try.results35, go_sem]) rfl ⟨8, rfl, by rw [← HR.out, hz0]; rfl, H.out.2.1⟩
  have hz1 : (zz != 0) = true := by simp [bne, hz]
  rw [hz1] at HR
  clear sz
  have d1 := H.out.1.c1
  have d2 := H.out.1.c2
  have d5 := H.out.1.c5
  have d6 := H.out.1.c6
  have d7 := H.out.1.c7
  have d8 := H.out.1.c8
  have d9 := H.out.1.c9
  go_wp2_with fail
  with_reducible refine (i1 _).mono ?_
  rintro e w' ⟨rfl, rfl⟩
  cases b1
  · as_aux_lemma =>
    go_wp2_with fail
    exact bodyPost_ret (v := .int .i64 3) (by simp [results, Try.results35, go_sem]) rfl ⟨3, rfl, by rw [← HR.out]; simp, H.out.2.1⟩
  go_wp2_with fail
  with_reducible refine (i2 _).mono ?_
  rintro e w' ⟨rfl, rfl⟩
  cases b2
  · as_aux_lemma =>
    go_wp2_with fail
    exact bodyPost_ret (v := .int .i64 3) (by simp [results, Try.results35, go_sem]) rfl ⟨3, rfl, by rw [← HR.out]; simp, H.out.2.1⟩
  go_wp2_with fail
  with_reducible refine (i3 _).mono ?_
  rintro e w' ⟨rfl, rfl⟩
  cases b3
  · as_aux_lemma =>
    go_wp2_with fail
    exact bodyPost_ret (v := .int .i64 3) (by simp [results, Try.results35, go_sem]) rfl ⟨3, rfl, by rw [← HR.out]; simp, H.out.2.1⟩
  go_wp2_with fail
  with_reducible refine (i4 _).mono ?_
  rintro e w' ⟨rfl, rfl⟩
  cases b4
  · as_aux_lemma =>
    go_wp2_with fail
    exact bodyPost_ret (v := .int .i64 3) (by simp [results, Try.results35, go_sem]) rfl ⟨3, rfl, by rw [← HR.out]; simp, H.out.2.1⟩
  go_wp2_with fail
  with_reducible refine (i5 _).mono ?_
  rintro e w' ⟨rfl, rfl⟩
  cases b5
  · as_aux_lemma =>
    go_wp2_with fail
    exact bodyPost_ret (v := .int .i64 3) (by simp [results, Try.results35, go_sem]) rfl ⟨3, rfl, by rw [← HR.out]; simp, H.out.2.1⟩
  go_wp2_with fail
  refine (i6 _).mono ?_
  rintro e w3 ⟨es, rfl, hes, hb⟩
  have hm := H.out.1.below hb (by rw [hs2]; omega)
  have hB := Below.then H.out.2.1 H.out.2.1.size hb
  have hrowA : w3.rangeAt (w.heap.size + 1) 0 [.int .i64 p.utc, .int .i64 p.p1, .int .i64 p.cls, .int .i64 p.acc, .int .i64 p.vr, .int .i64 p.p2, .int .u64 p.gm, .int .i64 p.steps, .int .i64 p.src] := fun j v hv => (hb.cell (p := ⟨w.heap.size + 1, 0 + j, none⟩) (by show w.heap.size + 1 < _; rw [hs2]; omega)).trans (H.out.2.2 j v hv)
  have hs3 : w.heap.size + 1 < w3.heap.size := Nat.lt_of_lt_of_le (by rw [hs2]; omega) hb.size
  clear H hb d1 d2 d5 d6 d7 d8 d9 c0 hs2
  have H := Kp.mk (And.intro hm (And.intro hB hrowA))
  clear hm hB hrowA
  have c0 := H.out.1.c0
  have f10 := H.out.1.c10
  have f11 := H.out.1.c11
  have a0 : w3.cell? ⟨w.heap.size + 1, 0, none⟩ = some (.int .i64 p.utc) := by have := H.out.2.2 0 _ rfl; simpa using this
  have a1 : w3.cell? ⟨w.heap.size + 1, 1, none⟩ = some (.int .i64 p.p1) := by have := H.out.2.2 1 _ rfl; simpa using this
  have a2 : w3.cell? ⟨w.heap.size + 1, 2, none⟩ = some (.int .i64 p.cls) := by have := H.out.2.2 2 _ rfl; simpa using this
  have a3 : w3.cell? ⟨w.heap.size + 1, 3, none⟩ = some (.int .i64 p.acc) := by have := H.out.2.2 3 _ rfl; simpa using this
  have a4 : w3.cell? ⟨w.heap.size + 1, 4, none⟩ = some (.int .i64 p.vr) := by have := H.out.2.2 4 _ rfl; simpa using this
  have a5 : w3.cell? ⟨w.heap.size + 1, 5, none⟩ = some (.int .i64 p.p2) := by have := H.out.2.2 5 _ rfl; simpa using this
  have a6 : w3.cell? ⟨w.heap.size + 1, 6, none⟩ = some (.int .u64 p.gm) := by have := H.out.2.2 6 _ rfl; simpa using this
  have a7 : w3.cell? ⟨w.heap.size + 1, 7, none⟩ = some (.int .i64 p.steps) := by have := H.out.2.2 7 _ rfl; simpa using this
  have a8 : w3.cell? ⟨w.heap.size + 1, 8, none⟩ = some (.int .i64 p.src) := by have := H.out.2.2 8 _ rfl; simpa using this
  have hes' : (es != 0) = !b6 := by rw [← hes]; rfl
  cases b6
  · as_aux_lemma =>
    simp only [Bool.not_false] at hes'
    go_wp2_with fail
    exact bodyPost_ret (v := .int .i64 3) (by simp [results, Try.results35, go_sem]) rfl ⟨3, rfl, by rw [← HR.out]; simp, H.out.2.1⟩
  simp only [Bool.not_true] at hes'
  clear hes
  go_wp2_with fail
  with_reducible refine (i7 _).mono ?_
  rintro e w' ⟨rfl, rfl⟩
  cases b7
  · as_aux_lemma =>
    go_wp2_with fail
    exact bodyPost_ret (v := .int .i64 3) (by simp [results, Try.results35, go_sem]) rfl ⟨3, rfl, by rw [← HR.out]; simp, H.out.2.1⟩
  go_wp2_with fail
  with_reducible refine (i8 _).mono ?_
  rintro e w' ⟨rfl, rfl⟩
  cases b8
  · as_aux_lemma =>
    go_wp2_with fail
    exact bodyPost_ret (v := .int .i64 3) (by simp [results, Try.results35, go_sem]) rfl ⟨3, rfl, by rw [← HR.out]; simp, H.out.2.1⟩
  go_wp2_with fail
  with_reducible refine (i9 _).mono ?_
  rintro e w' ⟨rfl, rfl⟩
  cases b9
  · as_aux_lemma =>
    go_wp2_with fail
    exact bodyPost_ret (v := .int .i64 3) (by simp [results, Try.results35, go_sem]) rfl ⟨3, rfl, by rw [← HR.out]; simp, H.out.2.1⟩
  go_wp2_with fail
  with_reducible refine (i10 _).mono ?_
  rintro e w' ⟨rfl, rfl⟩
  cases b10
  · as_aux_lemma =>
    go_wp2_with fail
    exact bodyPost_ret (v := .int .i64 3) (by simp [results, Try.results35, go_sem]) rfl ⟨3, rfl, by rw [← HR.out]; simp, H.out.2.1⟩
  go_wp2_with fail
  with_reducible refine (i11 _).mono ?_
  rintro e w' ⟨rfl, rfl⟩
  cases b11
  · as_aux_lemma =>
    go_wp2_with fail
    exact bodyPost_ret (v := .int .i64 3) (by simp [results, Try.results35, go_sem]) rfl ⟨3, rfl, by rw [← HR.out]; simp, H.out.2.1⟩
  go_wp2_with fail
  with_reducible refine (i12 _).mono ?_
  rintro e w' ⟨rfl, rfl⟩
  cases b12
  · as_aux_lemma =>
    go_wp2_with fail
    exact bodyPost_ret (v := .int .i64 3) (by simp [results, Try.results35, go_sem]) rfl ⟨3, rfl, by rw [← HR.out]; simp, H.out.2.1⟩
  go_wp2_with fail
  with_reducible refine (i13 _).mono ?_
  rintro e w' ⟨rfl, rfl⟩
  cases b13
  · as_aux_lemma =>
    go_wp2_with fail
    exact bodyPost_ret (v := .int .i64 3) (by simp [results, Try.results35, go_sem]) rfl ⟨3, rfl, by rw [← HR.out]; simp, H.out.2.1⟩
  go_wp2_with fail
  with_reducible refine (i14 _).mono ?_
  rintro e w' ⟨rfl, rfl⟩
  cases b14
  · as_aux_lemma =>
    go_wp2_with fail
    exact bodyPost_ret (v := .int .i64 3) (by simp [results, Try.results35, go_sem]) rfl ⟨3, rfl, by rw [← HR.out]; simp, H.out.2.1⟩
  go_wp2_with fail
  with_reducible refine (i15 _).mono ?_
  rintro e w' ⟨rfl, rfl⟩
  cases b15
  · as_aux_lemma =>
    go_wp2_with fail
    exact bodyPost_ret (v := .int .i64 3) (by simp [results, Try.results35, go_sem]) rfl ⟨3, rfl, by rw [← HR.out]; simp, H.out.2.1⟩
  go_wp2_with fail
  refine (rq _).mono ?_
  rintro e w' ⟨rfl, rfl⟩
  clear i1 i2 i3 i4 i5 i6 i7 i8 i9 i10 i11 i12 i13 i14 i15 rq a0 a1 a2 a3 a4 a5 a6 a7 a8
  have hrowA := H.out.2.2
  obtain ⟨x1, hx1⟩ : ∃ x, (p.reqclock != 0) = x := ⟨_, rfl⟩
  obtain ⟨x2, hx2⟩ : ∃ x, (p.reqport != 0) = x := ⟨_, rfl⟩
  obtain ⟨x3, hx3⟩ : ∃ x, (p.kind != 11) = x := ⟨_, rfl⟩
  have y1 : (p.reqclock == 0) = !x1 := by rw [← hx1]; simp [bne]
  have y2 : (p.reqport == 0) = !x2 := by rw [← hx2]; simp [bne]
  have y3 : (p.kind == 11) = !x3 := by rw [← hx3]; simp [bne]
  rw [y1, y2, y3] at HR
  clear y1 y2 y3
  cases bq
  · cases x1
    · cases x2
      · cases x3
        · as_aux_lemma =>
          go_wp2_with fail
          exact bodyPost_ret (v := .int .i64 0) (by simp [results, Try.results35, go_sem]) rfl ⟨0, rfl, by rw [← HR.out]; simp, H.out.2.1⟩
        · as_aux_lemma =>
          go_wp2_with (first | ((with_reducible show wpList _ _ _ ({ dst := _, op := Op.load 31 (Operand.tmp 3), type := _, pos := _, after := _, guard := _ } :: _) _ _); refine wpList_guard (by kernel_rfl) ?_; refine wp_load_mid 31 _ rfl (w.heap.size + 1) 0 rfl _ _ hrowA Try.underlying31 rfl (by kernel_rfl) ?_) | ((with_reducible show wpList _ _ _ ({ dst := _, op := Op.binOp BinOp.neq 31 _ _ _, type := _, pos := _, after := _, guard := _ } :: _) _ _); refine wpList_ne_ann _ _ rfl p rfl rfl (by kernel_rfl) ?_; rw [HZ.out]; clear HZ; cases az) | fail)
          all_goals first
            | (refine bodyPost_ret (v := .int .i64 0) ?_ rfl ⟨0, rfl, ?_, H.out.2.1⟩
               · simp [results, Try.results35, go_sem]; done
               · rw [← HR.out]; simp; done)
            | (refine bodyPost_ret (v := .int .i64 7) ?_ rfl ⟨7, rfl, ?_, H.out.2.1⟩
               · simp [results, Try.results35, go_sem]; done
               · rw [← HR.out]; simp; done)
      · as_aux_lemma =>
        go_wp2_with fail
        exact bodyPost_ret (v := .int .i64 7) (by simp [results, Try.results35, go_sem]) rfl ⟨7, rfl, by rw [← HR.out]; simp, H.out.2.1⟩
    · as_aux_lemma =>
      go_wp2_with fail
      exact bodyPost_ret (v := .int .i64 7) (by simp [results, Try.results35, go_sem]) rfl ⟨7, rfl, by rw [← HR.out]; simp, H.out.2.1⟩
  · cases x3
    · as_aux_lemma =>
      go_wp2_with fail
      exact bodyPost_ret (v := .int .i64 0) (by simp [results, Try.results35, go_sem]) rfl ⟨0, rfl, by rw [← HR.out]; simp, H.out.2.1⟩
    · as_aux_lemma =>
      go_wp2_with (first | ((with_reducible show wpList _ _ _ ({ dst := _, op := Op.load 31 (Operand.tmp 3), type := _, pos := _, after := _, guard := _ } :: _) _ _); refine wpList_guard (by kernel_rfl) ?_; refine wp_load_mid 31 _ rfl (w.heap.size + 1) 0 rfl _ _ hrowA Try.underlying31 rfl (by kernel_rfl) ?_) | ((with_reducible show wpList _ _ _ ({ dst := _, op := Op.binOp BinOp.neq 31 _ _ _, type := _, pos := _, after := _, guard := _ } :: _) _ _); refine wpList_ne_ann _ _ rfl p rfl rfl (by kernel_rfl) ?_; rw [HZ.out]; clear HZ; cases az) | fail)
      all_goals first
        | (refine bodyPost_ret (v := .int .i64 0) ?_ rfl ⟨0, rfl, ?_, H.out.2.1⟩
           · simp [results, Try.results35, go_sem]; done
           · rw [← HR.out]; simp; done)
        | (refine bodyPost_ret (v := .int .i64 7) ?_ rfl ⟨7, rfl, ?_, H.out.2.1⟩
           · simp [results, Try.results35, go_sem]; done
           · rw [← HR.out]; simp; done)
end Go.Proofs.Ytfpepiabpadjdaa
