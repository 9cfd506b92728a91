/-
  The reference's correction of messages, and its Add.
-/
import Derived.Test.YtfpepiabpadjdaaRefB
set_option linter.unusedSimpArgs false
set_option linter.unusedVariables false
namespace Go.Proofs.Ytfpepiabpadjdaa
open Go.RowKit
set_option maxRecDepth 10000 in
set_option maxHeartbeats 4000000 in
theorem rcorrect_any (p : PM) (hc : -9223372036854775808 ≤ p.corr ∧ p.corr ≤ 9223372036854775807) (t : Int) (h : 0 ≤ t) (h2 : t ≤ 9223372036854775807) (w : World) : Calls Try.prog 36 #[.agg p.vals, .int .i64 t] w (MPost (corrF p t).1 (corrF p t).2 w) := by
  have cr := fun w => rmul_any t h h2 w
  have hu : 0 ≤ (unitsF t).1 ∧ (unitsF t).1 ≤ 9223372036854775807 := by unfold unitsF; split <;> simp <;> omega
  have ad := fun w => radd_any p.corr (unitsF t).1 hc.1 hc.2 hu.1 hu.2 w
  unfold corrF
  generalize unitsF t = r at *
  obtain ⟨n, ok⟩ := r
  simp only at cr ad hu ⊢
  generalize addF p.corr n = r2 at *
  obtain ⟨s, ok2⟩ := r2
  simp only at ad ⊢
  clear hc h h2 hu
  have hm := PBox.made w p 33
  have hf : (w.alloc (.cells p.vals 33)).frozen? ⟨w.heap.size, 3, none⟩ = false := World.frozen?_alloc_at _ _ _ _ rfl
  have hX : Below w.heap.size w (w.alloc (.cells p.vals 33)) := (Below.refl _ _).alloc (Nat.le_refl _) _
  have c3 := hm.c3
  have HM := Kp.mk hm
  obtain ⟨W, hW⟩ : ∃ W, W = w.alloc (.cells p.vals 33) := ⟨_, rfl⟩
  have hth := there_new (w.alloc (.cells p.vals 33)) #[.int .i64 0, .int .i64 0, .int .i64 0, .int .i64 0, .int .u64 0, .int .i64 0, .int .i64 0, .int .i64 0, .int .i64 0, .int .i64 0, .int .u64 0, .int .i64 0, .int .i64 0, .int .i64 0, .int .i64 0, .int .i64 0, .int .i64 0, .int .i64 0, .int .u64 0, .int .i64 0, .int .i64 0] 33
  rw [World.size_alloc] at hth
  cases ok
  · unfold PM.vals at hth
    unfold PM.vals
    go_enter Try.func36, Try.ntmps36
    go_wp2_with fail
    refine (cr _).mono ?_
    rintro e w' ⟨rfl, rfl⟩
    go_wp2_with (refine wpList_store_mid rfl 33 _ _ rfl (w.heap.size + 1) 0 _ rfl rfl hth (by kernel_rfl) (by kernel_rfl) ?_)
    exact bodyPost_ret (v := .tuple #[.agg (PM.zero).vals, .int .i64 4]) (res_msg Try.results36 _ _ (w.heap.size + 1) (PM.zero) 4 rfl rfl (PBox.stored (PM.zero) (by simp) hth)) rfl ⟨rfl, Below.setCells _ (by omega) _ _ _ (hX.alloc hX.size _)⟩
  · cases ok2
    · unfold PM.vals at hth
      unfold PM.vals
      go_enter Try.func36, Try.ntmps36
      go_wp2_with fail
      refine (cr _).mono ?_
      rintro e w' ⟨rfl, rfl⟩
      go_wp2_with fail
      refine (ad _).mono ?_
      rintro e w' ⟨rfl, rfl⟩
      go_wp2_with (refine wpList_store_mid rfl 33 _ _ rfl (w.heap.size + 1) 0 _ rfl rfl hth (by kernel_rfl) (by kernel_rfl) ?_)
      exact bodyPost_ret (v := .tuple #[.agg (PM.zero).vals, .int .i64 4]) (res_msg Try.results36 _ _ (w.heap.size + 1) (PM.zero) 4 rfl rfl (PBox.stored (PM.zero) (by simp) hth)) rfl ⟨rfl, Below.setCells _ (by omega) _ _ _ (hX.alloc hX.size _)⟩
    · unfold PM.vals at hth
      unfold PM.vals
      go_enter Try.func36, Try.ntmps36
      go_wp2_with fail
      refine (cr _).mono ?_
      rintro e w' ⟨rfl, rfl⟩
      go_wp2_with fail
      refine (ad _).mono ?_
      rintro e w' ⟨rfl, rfl⟩
      have hm2 := (PBox.made w { p with corr := s } 33).below ((Below.refl _ _).alloc (Nat.le_refl _) (.cells #[.int .i64 0, .int .i64 0, .int .i64 0, .int .i64 0, .int .u64 0, .int .i64 0, .int .i64 0, .int .i64 0, .int .i64 0, .int .i64 0, .int .u64 0, .int .i64 0, .int .i64 0, .int .i64 0, .int .i64 0, .int .i64 0, .int .i64 0, .int .i64 0, .int .u64 0, .int .i64 0, .int .i64 0] 33)) (by simp)
      have hth2 := there_new (w.alloc (.cells ({ p with corr := s } : PM).vals 33)) #[.int .i64 0, .int .i64 0, .int .i64 0, .int .i64 0, .int .u64 0, .int .i64 0, .int .i64 0, .int .i64 0, .int .i64 0, .int .i64 0, .int .u64 0, .int .i64 0, .int .i64 0, .int .i64 0, .int .i64 0, .int .i64 0, .int .i64 0, .int .i64 0, .int .u64 0, .int .i64 0, .int .i64 0] 33
      rw [World.size_alloc] at hth2
      have hrow := hm2.row
      simp only [PM.vals] at hrow hth2
      go_wp2_with (first | (refine wpList_store_mid rfl 33 _ _ rfl (w.heap.size + 1) 0 _ rfl rfl hth2 (by kernel_rfl) (by kernel_rfl) ?_) | (refine wpList_load_mid rfl 33 _ rfl w.heap.size 0 rfl _ _ hrow Try.underlying33 rfl (by kernel_rfl) ?_))
      have hX2 : Below w.heap.size w (w.alloc (.cells ({ p with corr := s } : PM).vals 33)) := (Below.refl _ _).alloc (Nat.le_refl _) _
      exact bodyPost_ret (v := .tuple #[.agg ({ p with corr := s } : PM).vals, .int .i64 0]) (res_msg Try.results36 _ _ (w.heap.size + 1) { p with corr := s } 0 rfl rfl (PBox.stored { p with corr := s } (by simp) hth2)) rfl ⟨rfl, Below.setCells _ (by omega) _ _ _ (hX2.alloc hX2.size _)⟩
set_option maxRecDepth 10000 in
set_option maxHeartbeats 4000000 in
theorem raddp_any (p : PM) (hc : -9223372036854775808 ≤ p.corr ∧ p.corr ≤ 9223372036854775807) (stay link : Int) (w : World) : Calls Try.prog 15 #[.agg p.vals, .int .i64 stay, .int .i64 link] w (MPost (addPF p stay link).1 (addPF p stay link).2 w) := by
  have ck := fun w => rcheck_any p w
  have hX : Below w.heap.size w (w.alloc (.cells p.vals 33)) := (Below.refl _ _).alloc (Nat.le_refl _) _
  have hX2 : Below w.heap.size w ((w.alloc (.cells p.vals 33)).alloc (.cells #[.int .i64 0, .int .i64 0, .int .i64 0, .int .i64 0, .int .u64 0, .int .i64 0, .int .i64 0, .int .i64 0, .int .i64 0, .int .i64 0, .int .u64 0, .int .i64 0, .int .i64 0, .int .i64 0, .int .i64 0, .int .i64 0, .int .i64 0, .int .i64 0, .int .u64 0, .int .i64 0, .int .i64 0] 33)) := hX.alloc hX.size _
  have hth := there_new (w.alloc (.cells p.vals 33)) #[.int .i64 0, .int .i64 0, .int .i64 0, .int .i64 0, .int .u64 0, .int .i64 0, .int .i64 0, .int .i64 0, .int .i64 0, .int .i64 0, .int .u64 0, .int .i64 0, .int .i64 0, .int .i64 0, .int .i64 0, .int .i64 0, .int .i64 0, .int .i64 0, .int .u64 0, .int .i64 0, .int .i64 0] 33
  rw [World.size_alloc] at hth
  have hm := (PBox.made w p 33).below ((Below.refl _ _).alloc (Nat.le_refl _) (.cells #[.int .i64 0, .int .i64 0, .int .i64 0, .int .i64 0, .int .u64 0, .int .i64 0, .int .i64 0, .int .i64 0, .int .i64 0, .int .i64 0, .int .u64 0, .int .i64 0, .int .i64 0, .int .i64 0, .int .i64 0, .int .i64 0, .int .i64 0, .int .i64 0, .int .u64 0, .int .i64 0, .int .i64 0] 33)) (by simp)
  have hs2 : ((w.alloc (.cells p.vals 33)).alloc (.cells #[.int .i64 0, .int .i64 0, .int .i64 0, .int .i64 0, .int .u64 0, .int .i64 0, .int .i64 0, .int .i64 0, .int .i64 0, .int .i64 0, .int .u64 0, .int .i64 0, .int .i64 0, .int .i64 0, .int .i64 0, .int .i64 0, .int .i64 0, .int .i64 0, .int .u64 0, .int .i64 0, .int .i64 0] 33)).heap.size = w.heap.size + 2 := by rw [World.size_alloc, World.size_alloc]
  have hrow := hm.row
  obtain ⟨W, hW⟩ : ∃ W, W = (w.alloc (.cells p.vals 33)).alloc (.cells #[.int .i64 0, .int .i64 0, .int .i64 0, .int .i64 0, .int .u64 0, .int .i64 0, .int .i64 0, .int .i64 0, .int .i64 0, .int .i64 0, .int .u64 0, .int .i64 0, .int .i64 0, .int .i64 0, .int .i64 0, .int .i64 0, .int .i64 0, .int .i64 0, .int .u64 0, .int .i64 0, .int .i64 0] 33) := ⟨_, rfl⟩
  rw [← hW] at hX2 hth hm hs2 hrow
  simp only [PM.vals] at hrow hW
  obtain ⟨r, hr⟩ : ∃ r, addPF p stay link = r := ⟨_, rfl⟩
  rw [hr]
  unfold addPF at hr
  obtain ⟨c, hok⟩ : ∃ c, okP p = c := ⟨_, rfl⟩
  rw [hok] at ck
  rw [hok] at hr
  have HR := Kp.mk hr
  clear hr
  simp only [PM.vals] at ck
  unfold PM.vals
  go_enter Try.func15, Try.ntmps15
  go_upto_region 1 with fail
  rw [← hW]
  clear hW
  go_wp2_with (refine wpList_load_mid rfl 33 _ rfl w.heap.size 0 rfl _ _ hrow Try.underlying33 rfl (by kernel_rfl) ?_)
  refine (ck _).mono ?_
  rintro e w1 ⟨er, rfl, he, hb1⟩
  have hb1' := hb1
  have hm1 := hm.below hb1' (by rw [hs2]; omega)
  have hth1 := there_below hth hb1' (by rw [hs2]; omega)
  have hB1 := Below.then hX2 hX2.size hb1'
  have hs1 : w.heap.size + 1 < w1.heap.size := by have := hb1'.size; rw [hs2] at this; omega
  clear hb1 hb1' hrow hth hm hs2 hX hX2 ck
  have hrow := hm1.row
  have HM := Kp.mk hm1
  have c0 := hm1.c0
  clear hm1
  cases c
  · as_aux_lemma =>
    have t1 : (er != 0) = true := by simpa using he
    have hr := HR.out
    simp at hr
    subst hr
    go_wp2_with (refine wpList_store_mid rfl 33 _ _ rfl (w.heap.size + 1) 0 _ rfl rfl hth1 (by kernel_rfl) (by kernel_rfl) ?_)
    exact bodyPost_ret (v := .tuple #[.agg PM.zero.vals, .int .i64 2]) (res_msg Try.results15 _ _ (w.heap.size + 1) PM.zero 2 rfl rfl (PBox.stored PM.zero hs1 hth1)) rfl ⟨rfl, Below.setCells _ (by omega) _ _ _ hB1⟩
  have t1 : (er != 0) = false := by simpa using he
  have hr := HR.out
  clear HR
  simp only [Bool.true_eq_false, if_false] at hr
  rcases Bool.eq_false_or_eq_true (p.kind == 11) with h11 | h11
  · as_aux_lemma =>
    have hr := hr
    rw [if_pos (by simpa using h11)] at hr
    subst hr
    go_wp2_with (refine wpList_store_mid rfl 33 _ _ rfl (w.heap.size + 1) 0 _ rfl rfl hth1 (by kernel_rfl) (by kernel_rfl) ?_)
    exact bodyPost_ret (v := .tuple #[.agg PM.zero.vals, .int .i64 8]) (res_msg Try.results15 _ _ (w.heap.size + 1) PM.zero 8 rfl rfl (PBox.stored PM.zero hs1 hth1)) rfl ⟨rfl, Below.setCells _ (by omega) _ _ _ hB1⟩
  rw [if_neg (by simpa using h11)] at hr
  obtain ⟨u1, hu1⟩ : ∃ x, decide (stay < 0) = x := ⟨_, rfl⟩
  obtain ⟨u2, hu2⟩ : ∃ x, decide (1125899906842624 < stay) = x := ⟨_, rfl⟩
  obtain ⟨u3, hu3⟩ : ∃ x, decide (link < 0) = x := ⟨_, rfl⟩
  obtain ⟨u4, hu4⟩ : ∃ x, decide (1125899906842624 < link) = x := ⟨_, rfl⟩
  have hin : (inB stay 0 1125899906842624 && inB link 0 1125899906842624) = (!u1 && !u2 && (!u3 && !u4)) := by
    rw [← hu1, ← hu2, ← hu3, ← hu4]; simp only [inB, ← decide_not, Int.not_lt]
  rw [hin] at hr
  have HR := Kp.mk hr
  clear hr hin
  rcases Bool.eq_false_or_eq_true (!u1 && !u2 && (!u3 && !u4)) with hd | hd
  · as_aux_lemma =>
    have hd' := hd
    simp only [Bool.and_eq_true, Bool.not_eq_true'] at hd
    obtain ⟨⟨rfl, rfl⟩, rfl, rfl⟩ := hd
    have hs : 0 ≤ stay + link ∧ stay + link ≤ 9223372036854775807 := by simp at hu1 hu2 hu3 hu4; omega
    have e1 : wrap64 (stay + link) = stay + link := by unfold wrap64; have := hs; omega
    have cr := fun w => rcorrect_any p hc (stay + link) hs.1 hs.2 w
    simp only [PM.vals] at cr
    have hr := HR.out
    simp only [Bool.not_false, Bool.and_self, Bool.true_eq_false, if_false] at hr
    rw [hr] at cr
    clear hr hs hc hd'
    obtain ⟨s, hs⟩ : ∃ s, stay + link = s := ⟨_, rfl⟩
    rw [hs] at cr e1
    unfold MPost at cr
    go_wp2_with (first | (refine wpList_load_mid rfl 33 _ rfl w.heap.size 0 rfl _ _ hrow Try.underlying33 rfl (by kernel_rfl) ?_) | fail)
    simp only [hs, e1]
    refine (cr _).mono ?_
    rintro e w2 ⟨rfl, hb2⟩
    have hth1 := there_below hth1 hb2 hs1
    have hB1 := Below.then hB1 hB1.size hb2
    have hs1 : w.heap.size + 1 < w2.heap.size := by have := hb2.size; omega
    go_wp2_with (refine wpList_store_mid rfl 33 _ _ rfl (w.heap.size + 1) 0 _ rfl rfl hth1 (by kernel_rfl) (by kernel_rfl) ?_)
    exact bodyPost_ret (v := .tuple #[.agg r.1.vals, .int .i64 r.2]) (res_msg Try.results15 _ _ (w.heap.size + 1) r.1 r.2 rfl rfl (PBox.stored r.1 hs1 hth1)) rfl ⟨rfl, Below.setCells _ (by omega) _ _ _ hB1⟩
  · have hr := HR.out
    rw [if_pos hd] at hr
    subst hr
    cases u1 <;> cases u2 <;> cases u3 <;> cases u4 <;> simp at hd
    all_goals
      as_aux_lemma =>
      go_wp2_with (refine wpList_store_mid rfl 33 _ _ rfl (w.heap.size + 1) 0 _ rfl rfl hth1 (by kernel_rfl) (by kernel_rfl) ?_)
      exact bodyPost_ret (v := .tuple #[.agg PM.zero.vals, .int .i64 3]) (res_msg Try.results15 _ _ (w.heap.size + 1) PM.zero 3 rfl rfl (PBox.stored PM.zero hs1 hth1)) rfl ⟨rfl, Below.setCells _ (by omega) _ _ _ hB1⟩
end Go.Proofs.Ytfpepiabpadjdaa
