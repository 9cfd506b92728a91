/-
  The contract of the reference's Path.
-/
import Derived.Test.YtfpepiabpadjdaaPathA
import Derived.Test.YtfpepiabpadjdaaRefE
import Derived.Test.YtfpepiabpadjdaaQOpen
set_option linter.unusedSimpArgs false
set_option linter.unusedVariables false
namespace Go.Proofs.Ytfpepiabpadjdaa
open Go.RowKit
set_option maxHeartbeats 2000000 in
theorem rstay_same (i o ppb : Int) (w : World) : Calls Try.prog 12 #[.int .i64 i, .int .i64 o, .int .i64 ppb] w (fun x w' => x = .returned (.tuple #[.int .i64 (stayF i o ppb).1, .int .i64 (stayF i o ppb).2]) ∧ w = w') := by
  by_cases hall : (-4503599627370496 ≤ i ∧ i ≤ 4503599627370496) ∧ (-4503599627370496 ≤ o ∧ o ≤ 4503599627370496) ∧ (-500000 ≤ ppb ∧ ppb ≤ 500000)
  · obtain ⟨h1, h2, h3⟩ := hall
    have t1 : decide (i < -4503599627370496) = false := by simp; omega
    have t2 : decide (4503599627370496 < i) = false := by simp; omega
    have t3 : decide (o < -4503599627370496) = false := by simp; omega
    have t4 : decide (4503599627370496 < o) = false := by simp; omega
    have t5 : decide (ppb < -500000) = false := by simp; omega
    have t6 : decide (500000 < ppb) = false := by simp; omega
    have eS : stayF i o ppb = if o < i then (0, 12) else ((mdiv (o - i) 1000000000 (1000000000 + ppb)).1, 0) := by
      unfold stayF
      rw [if_pos (by simp [inB]; omega)]
    rw [eS]
    clear eS
    by_cases ho : o < i
    · rw [if_pos ho]
      have t7 : decide (o < i) = true := by simpa using ho
      clear h1 h2 h3 ho
      go_enter Try.func12, Try.ntmps12
      go_wp2_with fail
      exact bodyPost_ret (v := .tuple #[.int .i64 0, .int .i64 12]) (by simp [results, Try.results12, go_sem]) rfl ⟨rfl, rfl⟩
    · rw [if_neg ho]
      have t7 : decide (o < i) = false := by simp; omega
      have us := fun w => runscale_any (o - i) ppb (by omega) (by omega) h3.1 h3.2 w
      have e1 : wrap64 (o - i) = o - i := by unfold wrap64; omega
      generalize (mdiv (o - i) 1000000000 (1000000000 + ppb)).1 = r1 at *
      clear h1 h2 h3 ho
      go_enter Try.func12, Try.ntmps12
      go_wp2_with fail
      try simp only [e1]
      with_reducible refine (us _).mono ?_
      rintro e w' ⟨rfl, rfl⟩
      go_wp2_with fail
      exact bodyPost_ret (v := .tuple #[.int .i64 r1, .int .i64 0]) (by simp [results, Try.results12, go_sem]) rfl ⟨rfl, rfl⟩
  · have eS : stayF i o ppb = (0, 3) := by
      unfold stayF
      rw [if_neg (by simp [inB]; omega)]
    rw [eS]
    have HA := Kp.mk hall
    clear hall eS
    go_enter Try.func12, Try.ntmps12
    go_wp2_with fail
    all_goals
      first
        | (exfalso; have := HA.out; omega)
        | exact bodyPost_ret (v := .tuple #[.int .i64 0, .int .i64 3]) (by simp [results, Try.results12, go_sem]) rfl ⟨rfl, rfl⟩
theorem wpQuiet_load_ptp {ops : Array Oper} {C : World → Prop} {Q : Act → Prop} {a : Act} {rest : List Oper} {o : Oper} (x : Operand) (ho : o.op = .load 33 x) (hg : o.guard = none) (b : Nat) (q : PM) (hx : a.eval x = .pointer (some ⟨b, 0, none⟩)) (hq : ∀ w, C w → PBox w b q)
    (h : wpQuiet Try.prog ops C Q rest (a.put o.dst (.agg q.vals))) : wpQuiet Try.prog ops C Q (o :: rest) a := by
  unfold wpQuiet
  rw [if_pos (by simp [Region.wanted, hg])]
  refine ⟨_, fun w hw => ?_, h⟩
  have hev : (execOp a.eval o).run Try.prog w = .ok (.value (.agg q.vals)) w := by
    have hl := run_loadVar_mid (P := Try.prog) w b 0 33 _ _ (hq w hw).row Try.underlying33 rfl (by kernel_rfl)
    unfold execOp
    simp only [ho, hx, Instr.loadAt, Instr.sureAddr, Sem.run_bind, Sem.run_pure, Result.andThen_ok, hl]
    rfl
  unfold Oper.quietAt
  rw [hev]
  exact ⟨rfl, rfl⟩
set_option maxRecDepth 10000 in
set_option maxHeartbeats 8000000 in
theorem rpath_any (p : PM) (hp : POk p) (a : Option Addr) (len cap : Nat) (T A O Q : Nat → Int) (w : World) (hs : St.StepRow w a len T A O Q) :
    Calls Try.prog 26 #[.agg p.vals, .slice a len cap] w (MPost (pathF T A O Q len 0 p).1 (pathF T A O Q len 0 p).2 w) := by
  obtain ⟨r, hr⟩ : ∃ r, pathF T A O Q len 0 p = r := ⟨_, rfl⟩
  rw [hr]
  have hX2 : Below w.heap.size w ((w.alloc (.cells p.vals 33)).alloc (.cells #[.int .i64 0, .int .i64 0, .int .i64 0, .int .i64 0, .int .u64 0, .int .i64 0, .int .i64 0, .int .i64 0, .int .i64 0, .int .i64 0, .int .u64 0, .int .i64 0, .int .i64 0, .int .i64 0, .int .i64 0, .int .i64 0, .int .i64 0, .int .i64 0, .int .u64 0, .int .i64 0, .int .i64 0] 33)) := ((Below.refl _ _).alloc (Nat.le_refl _) _).alloc (by simp) _
  have hth0 : (w.alloc (.cells p.vals 33)).there w.heap.size 0 21 := there_new w p.vals 33
  have hth := there_new (w.alloc (.cells p.vals 33)) #[.int .i64 0, .int .i64 0, .int .i64 0, .int .i64 0, .int .u64 0, .int .i64 0, .int .i64 0, .int .i64 0, .int .i64 0, .int .i64 0, .int .u64 0, .int .i64 0, .int .i64 0, .int .i64 0, .int .i64 0, .int .i64 0, .int .i64 0, .int .i64 0, .int .u64 0, .int .i64 0, .int .i64 0] 33
  rw [World.size_alloc] at hth
  have hBn : Below (w.alloc (.cells p.vals 33)).heap.size (w.alloc (.cells p.vals 33)) ((w.alloc (.cells p.vals 33)).alloc (.cells #[.int .i64 0, .int .i64 0, .int .i64 0, .int .i64 0, .int .u64 0, .int .i64 0, .int .i64 0, .int .i64 0, .int .i64 0, .int .i64 0, .int .u64 0, .int .i64 0, .int .i64 0, .int .i64 0, .int .i64 0, .int .i64 0, .int .i64 0, .int .i64 0, .int .u64 0, .int .i64 0, .int .i64 0] 33)) := (Below.refl _ _).alloc (Nat.le_refl _) _
  have hm := (PBox.made w p 33).below hBn (by simp)
  have hth0 := there_below hth0 hBn (by simp)
  have hsz : ((w.alloc (.cells p.vals 33)).alloc (.cells #[.int .i64 0, .int .i64 0, .int .i64 0, .int .i64 0, .int .u64 0, .int .i64 0, .int .i64 0, .int .i64 0, .int .i64 0, .int .i64 0, .int .u64 0, .int .i64 0, .int .i64 0, .int .i64 0, .int .i64 0, .int .i64 0, .int .i64 0, .int .i64 0, .int .u64 0, .int .i64 0, .int .i64 0] 33)).heap.size = w.heap.size + 2 := by rw [World.size_alloc, World.size_alloc]
  obtain ⟨W, hW⟩ : ∃ W, W = (w.alloc (.cells p.vals 33)).alloc (.cells #[.int .i64 0, .int .i64 0, .int .i64 0, .int .i64 0, .int .u64 0, .int .i64 0, .int .i64 0, .int .i64 0, .int .i64 0, .int .i64 0, .int .u64 0, .int .i64 0, .int .i64 0, .int .i64 0, .int .i64 0, .int .i64 0, .int .i64 0, .int .i64 0, .int .u64 0, .int .i64 0, .int .i64 0] 33) := ⟨_, rfl⟩
  rw [← hW] at hX2 hm hth hth0 hsz
  clear hBn
  have H0 := Kp.mk (And.intro hm (And.intro hth0 (And.intro hth (And.intro hX2 hsz))))
  have HS := Kp.mk hs
  have HP := Kp.mk (And.intro hp hr)
  have hlen := hs.1
  clear hm hth0 hth hX2 hsz hs hp hr
  simp only [PM.vals] at hW
  unfold PM.vals
  go_enter Try.func26, Try.ntmps26
  go_upto_region 1 with fail
  rw [← hW]
  clear hW
  go_wp2_with fail
  go_loopw [6] (fun i wr => ∃ (k : Nat) (q : PM), k ≤ len ∧ i = .int .i64 k ∧ POk q ∧ pathF T A O Q (len - k) k q = r ∧ PBox wr w.heap.size q ∧ wr.there w.heap.size 0 21 ∧ wr.there (w.heap.size + 1) 0 21 ∧ Below w.heap.size w wr ∧ w.heap.size + 2 ≤ wr.heap.size) (fun i _ => len - (intOf i).toNat)
  case atStart => exact ⟨0, p, Nat.zero_le _, rfl, HP.out.1, HP.out.2, H0.out.1, H0.out.2.1, H0.out.2.2.1, H0.out.2.2.2.1, Nat.le_of_eq H0.out.2.2.2.2.symm⟩
  case round =>
    obtain ⟨k, q, hk, rfl, hq, hrem, hm, ht0, ht1, hB, hz⟩ := hrel
    by_cases hlt : k < len
    · have t1 : decide ((k : Int) < (len : Int)) = true := by simp; omega
      have kz : (0 : Int) ≤ (k : Int) := by omega
      have kl : (k : Int) < (len : Int) := by omega
      obtain ⟨b, off, rfl, hb, l0, l1, l2, l3⟩ := steprow_at HS.out hB hlt
      have hrem : pathF T A O Q (len - (k + 1) + 1) k q = r := by rw [← hrem]; congr 1; omega
      unfold pathF at hrem
      have H := Kp.mk (And.intro hm (And.intro ht0 (And.intro ht1 (And.intro hB hz))))
      clear hm ht0 ht1 hB hz
      have st := fun w => rstay_same (T k) (A k) (O k) w
      have sr := stayF_range (T k) (A k) (O k)
      generalize stayF (T k) (A k) (O k) = s at *
      obtain ⟨sn, se⟩ := s
      simp only at st hrem sr
      go_wp2_with fail
      go_quiet ((go_at_call 12; exact qs (st _)))
      obtain ⟨w5, hw5⟩ : ∃ W, W = wr.drewN nq := ⟨_, rfl⟩
      rw [← hw5]
      have hX : Below wr.heap.size wr w5 := by rw [hw5]; exact Below.of_drewN _ _
      have l3 : w5.cell? ⟨b, off + k * 4 + 3, none⟩ = some (.int .i64 (Q k)) := by rw [hw5]; exact l3
      clear hw5 l0 l1 l2
      obtain ⟨hm, ht0, ht1, hB, hz⟩ := H.out
      have hm := hm.below hX hm.lt
      have ht0 := there_below ht0 hX (by omega)
      have ht1 := there_below ht1 hX (by omega)
      have hB := Below.then hB hB.size hX
      have hs5 : w.heap.size + 1 < w5.heap.size := by have := hX.size; omega
      clear H hX st
      have H := Kp.mk (And.intro hm ht0)
      clear hm ht0
      rcases Bool.eq_false_or_eq_true (se != 0) with hse | hse
      · as_aux_lemma =>
        rw [if_neg (by simpa using hse)] at hrem
        subst hrem
        clear H
        go_wp2_with (first | ((with_reducible show wpList _ _ _ ({ dst := _, op := Op.store 33 _ _, type := _, pos := _, after := _, guard := _ } :: _) _ _); refine wpList_store_mid rfl 33 _ _ rfl (w.heap.size + 1) 0 (PM.zero).vals rfl rfl ht1 (by kernel_rfl) (by kernel_rfl) ?_) | fail)
        exact bodyPost_ret (v := .tuple #[.agg (PM.zero).vals, .int .i64 se]) (res_msg Try.results26 _ _ (w.heap.size + 1) (PM.zero) se rfl rfl (PBox.stored (PM.zero) hs5 ht1)) rfl ⟨rfl, Below.setCells _ (by omega) _ _ _ hB⟩
      have hse0 : se = 0 := by simpa using hse
      subst hse0
      rw [if_pos rfl] at hrem
      have ad := fun w => raddp_any q hq.corr sn (Q k) w
      have hq' := addPF_pok hq sn (Q k)
      generalize addPF q sn (Q k) = g at *
      obtain ⟨q', e⟩ := g
      unfold MPost at ad
      simp only at ad hrem hq'
      have HH := Kp.mk (And.intro hrem hq')
      clear hrem hq' hq hse sr
      go_upto_region 7 with fail
      refine wp_region_quiet_open 7 6 #[true, true, true, true, true, true, true, false, false, false, false, false, false] rfl (by kernel_rfl) (by kernel_rfl) ?_
      simp only [List.take_succ_cons, List.take_zero]
      refine wpQuiet_load_ptp _ rfl rfl w.heap.size q rfl (fun W hW => by obtain ⟨n, rfl⟩ := hW; exact H.out.1.below (Below.of_drewN _ _) H.out.1.lt) ?_
      repeat (quiet_step (fail))
      refine wpQuiet_nil ?_
      intro w6 hw6
      have hX : Below w5.heap.size w5 w6 := by obtain ⟨n, rfl⟩ := hw6; exact Below.of_drewN _ _
      clear hw6
      refine wpAny_one (i := 7) (by kernel_rfl) (fun o ho => ?_)
      simp only [List.getElem?_toArray, List.getElem?_cons_succ, List.getElem?_cons_zero, Option.some.injEq] at ho
      subst ho
      refine ⟨by kernel_rfl, fun K hK => ?_⟩
      go_step
      with_reducible refine (ad _).mono ?_
      rintro x w7 ⟨rfl, hX7⟩
      have hX := Below.then hX hX.size hX7
      have ht0 := there_below H.out.2 hX (by omega)
      have ht1 := there_below ht1 hX hs5
      have hB := Below.then hB hB.size hX
      have hs7 : w.heap.size + 1 < w7.heap.size := Nat.lt_of_lt_of_le hs5 hX.size
      clear H hX hX7 l3 ad hs5
      simp only []
      refine hK _ _ ?_
      clear hK K
      go_frame
      refine wpAny_one (i := 8) (by kernel_rfl) (fun o ho => ?_)
      simp only [List.getElem?_toArray, List.getElem?_cons_succ, List.getElem?_cons_zero, Option.some.injEq] at ho
      subst ho
      refine ⟨by kernel_rfl, fun K hK => ?_⟩
      go_step
      refine hK _ _ ?_
      clear hK K
      refine wpAny_two (i := 9) (i2 := 10) (by kernel_rfl) (fun o ho => ?_) (fun o ho => ?_)
      · simp only [List.getElem?_toArray, List.getElem?_cons_succ, List.getElem?_cons_zero, Option.some.injEq] at ho
        subst ho
        refine ⟨by kernel_rfl, fun K hK => ?_⟩
        go_step
        refine hK _ _ ?_
        clear hK K
        refine wpAny_two (i := 10) (i2 := 11) (by kernel_rfl) (fun o ho => ?_) (fun o ho => ?_)
        · simp only [List.getElem?_toArray, List.getElem?_cons_succ, List.getElem?_cons_zero, Option.some.injEq] at ho
          subst ho
          refine ⟨by kernel_rfl, fun K hK => ?_⟩
          go_step
          refine hK _ _ ?_
          clear hK K
          refine wpAny_one (i := 11) (by kernel_rfl) (fun o ho => ?_)
          simp only [List.getElem?_toArray, List.getElem?_cons_succ, List.getElem?_cons_zero, Option.some.injEq] at ho
          subst ho
          refine ⟨by kernel_rfl, fun K hK => ?_⟩
          refine wp_store_mid 33 _ _ rfl w.heap.size 0 q'.vals rfl rfl ht0 (by kernel_rfl) (by kernel_rfl) ?_
          refine hK _ _ ?_
          clear hK K
          obtain ⟨w8, hw8⟩ : ∃ W, W = w7.setCells w.heap.size 0 q'.vals.toList := ⟨_, rfl⟩
          rw [← hw8]
          have hm8 : PBox w8 w.heap.size q' := by rw [hw8]; exact PBox.stored q' (by omega) ht0
          have ht08 : w8.there w.heap.size 0 21 := by rw [hw8]; exact World.there_setCells ht0 _ _ _
          have ht18 : w8.there (w.heap.size + 1) 0 21 := by rw [hw8]; exact World.there_setCells ht1 _ _ _
          have hB8 : Below w.heap.size w w8 := by rw [hw8]; exact Below.setCells _ (Nat.le_refl _) _ _ _ hB
          have hs8 : w.heap.size + 1 < w8.heap.size := by rw [hw8]; exact Nat.lt_of_lt_of_le hs7 (Below.setCells (B := 0) w.heap.size (Nat.zero_le _) q'.vals.toList 0 w7 ⟨rfl, rfl, rfl, Nat.le_refl _, fun _ _ => rfl⟩).size
          clear hw8 ht0 ht1 hB hs7
          go_frame
          refine wpAny_one (i := 12) (by kernel_rfl) (fun o ho => ?_)
          simp only [List.getElem?_toArray, List.getElem?_cons_succ, List.getElem?_cons_zero, Option.some.injEq] at ho
          subst ho
          refine ⟨by kernel_rfl, fun K hK => ?_⟩
          go_step
          refine hK _ _ ?_
          clear hK K
          refine wpAny_end (by kernel_rfl) ?_
          rcases Bool.eq_false_or_eq_true (e != 0) with hse | hse
          · as_aux_lemma =>
            have hrem := HH.out.1
            rw [if_neg (by simpa using hse)] at hrem
            subst hrem
            clear HH
            go_wp2_with (first | ((with_reducible show wpList _ _ _ ({ dst := _, op := Op.store 33 _ _, type := _, pos := _, after := _, guard := _ } :: _) _ _); refine wpList_store_mid rfl 33 _ _ rfl (w.heap.size + 1) 0 (PM.zero).vals rfl rfl ht18 (by kernel_rfl) (by kernel_rfl) ?_) | fail)
            exact bodyPost_ret (v := .tuple #[.agg (PM.zero).vals, .int .i64 e]) (res_msg Try.results26 _ _ (w.heap.size + 1) (PM.zero) e rfl rfl (PBox.stored (PM.zero) hs8 ht18)) rfl ⟨rfl, Below.setCells _ (by omega) _ _ _ hB8⟩
          have hse0 : e = 0 := by simpa using hse
          subst hse0
          have hrem := HH.out.1
          rw [if_pos rfl] at hrem
          have HR := Kp.mk (And.intro hrem (And.intro HH.out.2 (And.intro hm8 (And.intro ht08 (And.intro ht18 (And.intro hB8 hs8))))))
          clear hrem HH hm8 ht08 ht18 hB8
          go_wp2_with fail
          go_roundw
          case rel => exact ⟨k + 1, q', by omega, by go_num, HR.out.2.1, HR.out.1, HR.out.2.2.1, HR.out.2.2.2.1, HR.out.2.2.2.2.1, HR.out.2.2.2.2.2.1, HR.out.2.2.2.2.2.2⟩
          case measure => simp [intOf]; omega
        · simp only [List.getElem?_toArray, List.getElem?_cons_succ, List.getElem?_cons_zero, Option.some.injEq] at ho
          subst ho
          refine ⟨by kernel_rfl, fun K hK => ?_⟩
          refine wp_store_mid 33 _ _ rfl w.heap.size 0 q'.vals rfl rfl ht0 (by kernel_rfl) (by kernel_rfl) ?_
          refine hK _ _ ?_
          clear hK K
          obtain ⟨w8, hw8⟩ : ∃ W, W = w7.setCells w.heap.size 0 q'.vals.toList := ⟨_, rfl⟩
          rw [← hw8]
          have hm8 : PBox w8 w.heap.size q' := by rw [hw8]; exact PBox.stored q' (by omega) ht0
          have ht08 : w8.there w.heap.size 0 21 := by rw [hw8]; exact World.there_setCells ht0 _ _ _
          have ht18 : w8.there (w.heap.size + 1) 0 21 := by rw [hw8]; exact World.there_setCells ht1 _ _ _
          have hB8 : Below w.heap.size w w8 := by rw [hw8]; exact Below.setCells _ (Nat.le_refl _) _ _ _ hB
          have hs8 : w.heap.size + 1 < w8.heap.size := by rw [hw8]; exact Nat.lt_of_lt_of_le hs7 (Below.setCells (B := 0) w.heap.size (Nat.zero_le _) q'.vals.toList 0 w7 ⟨rfl, rfl, rfl, Nat.le_refl _, fun _ _ => rfl⟩).size
          clear hw8 ht0 ht1 hB hs7
          go_frame
          refine wpAny_one (i := 10) (by kernel_rfl) (fun o ho => ?_)
          simp only [List.getElem?_toArray, List.getElem?_cons_succ, List.getElem?_cons_zero, Option.some.injEq] at ho
          subst ho
          refine ⟨by kernel_rfl, fun K hK => ?_⟩
          go_step
          refine hK _ _ ?_
          clear hK K
          refine wpAny_one (i := 12) (by kernel_rfl) (fun o ho => ?_)
          simp only [List.getElem?_toArray, List.getElem?_cons_succ, List.getElem?_cons_zero, Option.some.injEq] at ho
          subst ho
          refine ⟨by kernel_rfl, fun K hK => ?_⟩
          go_step
          refine hK _ _ ?_
          clear hK K
          refine wpAny_end (by kernel_rfl) ?_
          rcases Bool.eq_false_or_eq_true (e != 0) with hse | hse
          · as_aux_lemma =>
            have hrem := HH.out.1
            rw [if_neg (by simpa using hse)] at hrem
            subst hrem
            clear HH
            go_wp2_with (first | ((with_reducible show wpList _ _ _ ({ dst := _, op := Op.store 33 _ _, type := _, pos := _, after := _, guard := _ } :: _) _ _); refine wpList_store_mid rfl 33 _ _ rfl (w.heap.size + 1) 0 (PM.zero).vals rfl rfl ht18 (by kernel_rfl) (by kernel_rfl) ?_) | fail)
            exact bodyPost_ret (v := .tuple #[.agg (PM.zero).vals, .int .i64 e]) (res_msg Try.results26 _ _ (w.heap.size + 1) (PM.zero) e rfl rfl (PBox.stored (PM.zero) hs8 ht18)) rfl ⟨rfl, Below.setCells _ (by omega) _ _ _ hB8⟩
          have hse0 : e = 0 := by simpa using hse
          subst hse0
          have hrem := HH.out.1
          rw [if_pos rfl] at hrem
          have HR := Kp.mk (And.intro hrem (And.intro HH.out.2 (And.intro hm8 (And.intro ht08 (And.intro ht18 (And.intro hB8 hs8))))))
          clear hrem HH hm8 ht08 ht18 hB8
          go_wp2_with fail
          go_roundw
          case rel => exact ⟨k + 1, q', by omega, by go_num, HR.out.2.1, HR.out.1, HR.out.2.2.1, HR.out.2.2.2.1, HR.out.2.2.2.2.1, HR.out.2.2.2.2.2.1, HR.out.2.2.2.2.2.2⟩
          case measure => simp [intOf]; omega
      · simp only [List.getElem?_toArray, List.getElem?_cons_succ, List.getElem?_cons_zero, Option.some.injEq] at ho
        subst ho
        refine ⟨by kernel_rfl, fun K hK => ?_⟩
        go_step
        refine hK _ _ ?_
        clear hK K
        refine wpAny_one (i := 9) (by kernel_rfl) (fun o ho => ?_)
        simp only [List.getElem?_toArray, List.getElem?_cons_succ, List.getElem?_cons_zero, Option.some.injEq] at ho
        subst ho
        refine ⟨by kernel_rfl, fun K hK => ?_⟩
        go_step
        refine hK _ _ ?_
        clear hK K
        refine wpAny_one (i := 11) (by kernel_rfl) (fun o ho => ?_)
        simp only [List.getElem?_toArray, List.getElem?_cons_succ, List.getElem?_cons_zero, Option.some.injEq] at ho
        subst ho
        refine ⟨by kernel_rfl, fun K hK => ?_⟩
        refine wp_store_mid 33 _ _ rfl w.heap.size 0 q'.vals rfl rfl ht0 (by kernel_rfl) (by kernel_rfl) ?_
        refine hK _ _ ?_
        clear hK K
        obtain ⟨w8, hw8⟩ : ∃ W, W = w7.setCells w.heap.size 0 q'.vals.toList := ⟨_, rfl⟩
        rw [← hw8]
        have hm8 : PBox w8 w.heap.size q' := by rw [hw8]; exact PBox.stored q' (by omega) ht0
        have ht08 : w8.there w.heap.size 0 21 := by rw [hw8]; exact World.there_setCells ht0 _ _ _
        have ht18 : w8.there (w.heap.size + 1) 0 21 := by rw [hw8]; exact World.there_setCells ht1 _ _ _
        have hB8 : Below w.heap.size w w8 := by rw [hw8]; exact Below.setCells _ (Nat.le_refl _) _ _ _ hB
        have hs8 : w.heap.size + 1 < w8.heap.size := by rw [hw8]; exact Nat.lt_of_lt_of_le hs7 (Below.setCells (B := 0) w.heap.size (Nat.zero_le _) q'.vals.toList 0 w7 ⟨rfl, rfl, rfl, Nat.le_refl _, fun _ _ => rfl⟩).size
        clear hw8 ht0 ht1 hB hs7
        go_frame
        refine wpAny_one (i := 12) (by kernel_rfl) (fun o ho => ?_)
        simp only [List.getElem?_toArray, List.getElem?_cons_succ, List.getElem?_cons_zero, Option.some.injEq] at ho
        subst ho
        refine ⟨by kernel_rfl, fun K hK => ?_⟩
        go_step
        refine hK _ _ ?_
        clear hK K
        refine wpAny_end (by kernel_rfl) ?_
        rcases Bool.eq_false_or_eq_true (e != 0) with hse | hse
        · as_aux_lemma =>
          have hrem := HH.out.1
          rw [if_neg (by simpa using hse)] at hrem
          subst hrem
          clear HH
          go_wp2_with (first | ((with_reducible show wpList _ _ _ ({ dst := _, op := Op.store 33 _ _, type := _, pos := _, after := _, guard := _ } :: _) _ _); refine wpList_store_mid rfl 33 _ _ rfl (w.heap.size + 1) 0 (PM.zero).vals rfl rfl ht18 (by kernel_rfl) (by kernel_rfl) ?_) | fail)
          exact bodyPost_ret (v := .tuple #[.agg (PM.zero).vals, .int .i64 e]) (res_msg Try.results26 _ _ (w.heap.size + 1) (PM.zero) e rfl rfl (PBox.stored (PM.zero) hs8 ht18)) rfl ⟨rfl, Below.setCells _ (by omega) _ _ _ hB8⟩
        have hse0 : e = 0 := by simpa using hse
        subst hse0
        have hrem := HH.out.1
        rw [if_pos rfl] at hrem
        have HR := Kp.mk (And.intro hrem (And.intro HH.out.2 (And.intro hm8 (And.intro ht08 (And.intro ht18 (And.intro hB8 hs8))))))
        clear hrem HH hm8 ht08 ht18 hB8
        go_wp2_with fail
        go_roundw
        case rel => exact ⟨k + 1, q', by omega, by go_num, HR.out.2.1, HR.out.1, HR.out.2.2.1, HR.out.2.2.2.1, HR.out.2.2.2.2.1, HR.out.2.2.2.2.2.1, HR.out.2.2.2.2.2.2⟩
        case measure => simp [intOf]; omega
    · obtain rfl : k = len := by omega
      have t1 : decide ((k : Int) < (k : Int)) = false := by simp
      rw [Nat.sub_self] at hrem
      unfold pathF at hrem
      subst hrem
      have hmm := hm.row
      have hzz : w.heap.size + 1 < wr.heap.size := by omega
      clear HP H0
      go_wp2_with (first | ((with_reducible show wpList _ _ _ ({ dst := _, op := Op.load 33 _, type := _, pos := _, after := _, guard := _ } :: _) _ _); refine wpList_load_mid rfl 33 _ rfl w.heap.size 0 rfl _ _ hmm Try.underlying33 rfl (by kernel_rfl) ?_) | ((with_reducible show wpList _ _ _ ({ dst := _, op := Op.store 33 _ _, type := _, pos := _, after := _, guard := _ } :: _) _ _); refine wpList_store_mid rfl 33 _ _ rfl (w.heap.size + 1) 0 (q).vals rfl rfl ht1 (by kernel_rfl) (by kernel_rfl) ?_) | fail)
      exact bodyPost_ret (v := .tuple #[.agg (q).vals, .int .i64 0]) (res_msg Try.results26 _ _ (w.heap.size + 1) (q) 0 rfl rfl (PBox.stored (q) hzz ht1)) rfl ⟨rfl, Below.setCells _ (by omega) _ _ _ hB⟩
end Go.Proofs.Ytfpepiabpadjdaa
