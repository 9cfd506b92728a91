/-
  The contract of package residence's Add.
-/
import Derived.Test.YtfpepiabpadjdaaResF
import Derived.Deep.DeepCutAuto
set_option linter.unusedSimpArgs false
set_option linter.unusedVariables false
namespace Go.Proofs.Ytfpepiabpadjdaa
open Go.RowKit
theorem there_below {w W : World} {b n B : Nat} (h : w.there b 0 n) (hB : Below B w W) (hb : b < B) : W.there b 0 n := fun j hj => by
  rw [hB.cell (p := ⟨b, 0 + j, none⟩) hb, hB.frozen (p := ⟨b, 0 + j, none⟩) hb]
  exact h j hj
def addPF (p : PM) (stay link : Int) : PM × Int := if okP p = false then (PM.zero, 2) else if p.kind = 11 then (PM.zero, 8) else if (inB stay 0 1125899906842624 && inB link 0 1125899906842624) = false then (PM.zero, 3) else corrF p (stay + link)
set_option maxRecDepth 10000 in
set_option maxHeartbeats 4000000 in
theorem add_any (p : PM) (hk : (Lit.int .i64 p.kind).wf = true) (hc : -9223372036854775808 ≤ p.corr ∧ p.corr ≤ 9223372036854775807) (stay link : Int) (w : World) : Calls Try.prog 14 #[.agg p.vals, .int .i64 stay, .int .i64 link] w (MPost (addPF p stay link).1 (addPF p stay link).2 w) := by
  have ck := fun w => check_any p hk w
  have hX : Below w.heap.size w (w.alloc (.cells p.vals 33)) := (Below.refl _ _).alloc (Nat.le_refl _) _
  have hX2 : Below w.heap.size w ((w.alloc (.cells p.vals 33)).alloc (.cells #[.int .i64 0, .int .i64 0, .int .i64 0, .int .i64 0, .int .u64 0, .int .i64 0, .int .i64 0, .int .i64 0, .int .i64 0, .int .i64 0, .int .u64 0, .int .i64 0, .int .i64 0, .int .i64 0, .int .i64 0, .int .i64 0, .int .i64 0, .int .i64 0, .int .u64 0, .int .i64 0, .int .i64 0] 33)) := hX.alloc hX.size _
  have hth := there_new (w.alloc (.cells p.vals 33)) #[.int .i64 0, .int .i64 0, .int .i64 0, .int .i64 0, .int .u64 0, .int .i64 0, .int .i64 0, .int .i64 0, .int .i64 0, .int .i64 0, .int .u64 0, .int .i64 0, .int .i64 0, .int .i64 0, .int .i64 0, .int .i64 0, .int .i64 0, .int .i64 0, .int .u64 0, .int .i64 0, .int .i64 0] 33
  rw [World.size_alloc] at hth
  have hm := (PBox.made w p 33).below ((Below.refl _ _).alloc (Nat.le_refl _) (.cells #[.int .i64 0, .int .i64 0, .int .i64 0, .int .i64 0, .int .u64 0, .int .i64 0, .int .i64 0, .int .i64 0, .int .i64 0, .int .i64 0, .int .u64 0, .int .i64 0, .int .i64 0, .int .i64 0, .int .i64 0, .int .i64 0, .int .i64 0, .int .i64 0, .int .u64 0, .int .i64 0, .int .i64 0] 33)) (by simp)
  have hs2 : ((w.alloc (.cells p.vals 33)).alloc (.cells #[.int .i64 0, .int .i64 0, .int .i64 0, .int .i64 0, .int .u64 0, .int .i64 0, .int .i64 0, .int .i64 0, .int .i64 0, .int .i64 0, .int .u64 0, .int .i64 0, .int .i64 0, .int .i64 0, .int .i64 0, .int .i64 0, .int .i64 0, .int .i64 0, .int .u64 0, .int .i64 0, .int .i64 0] 33)).heap.size = w.heap.size + 2 := by rw [World.size_alloc, World.size_alloc]
  have hrow := hm.row
  obtain ⟨W, hW⟩ : ∃ W, W = (w.alloc (.cells p.vals 33)).alloc (.cells #[.int .i64 0, .int .i64 0, .int .i64 0, .int .i64 0, .int .u64 0, .int .i64 0, .int .i64 0, .int .i64 0, .int .i64 0, .int .i64 0, .int .u64 0, .int .i64 0, .int .i64 0, .int .i64 0, .int .i64 0, .int .i64 0, .int .i64 0, .int .i64 0, .int .u64 0, .int .i64 0, .int .i64 0] 33) := ⟨_, rfl⟩
  rw [← hW] at hX2 hth hm hs2 hrow
  simp only [PM.vals] at hrow hW
  obtain ⟨r, hr⟩ : ∃ r, addPF p stay link = r := ⟨_, rfl⟩
  rw [hr]
  unfold addPF at hr
  obtain ⟨c, hok⟩ : ∃ c, okP p = c := ⟨_, rfl⟩
  rw [hok] at ck
  rw [hok] at hr
  have HR := Kp.mk hr
  clear hr
  simp only [PM.vals] at ck
  unfold PM.vals
  go_enter Try.func14, Try.ntmps14
  go_upto_region 1 with fail
  rw [← hW]
  clear hW
  go_wp2_with (refine wpList_load_mid rfl 33 _ rfl w.heap.size 0 rfl _ _ hrow Try.underlying33 rfl (by kernel_rfl) ?_)
  refine (ck _).mono ?_
  rintro e w1 ⟨er, rfl, he, hb1⟩
  have hb1' := hb1
  have hm1 := hm.below hb1' (by rw [hs2]; omega)
  have hth1 := there_below hth hb1' (by rw [hs2]; omega)
  have hB1 := Below.then hX2 hX2.size hb1'
  have hs1 : w.heap.size + 1 < w1.heap.size := by have := hb1'.size; rw [hs2] at this; omega
  clear hb1 hb1' hrow hth hm hs2 hX hX2 ck
  have hrow := hm1.row
  have HM := Kp.mk hm1
  have c0 := hm1.c0
  clear hm1
  have du1 := fun w => duration_any stay w
  have du2 := fun w => duration_any link w
  cases c
  · as_aux_lemma =>
    have t1 : (er != 0) = true := by simpa using he
    have hr := HR.out
    simp at hr
    subst hr
    go_wp2_with (refine wpList_store_mid rfl 33 _ _ rfl (w.heap.size + 1) 0 _ rfl rfl hth1 (by kernel_rfl) (by kernel_rfl) ?_)
    exact bodyPost_ret (v := .tuple #[.agg PM.zero.vals, .int .i64 2]) (res_msg Try.results14 _ _ (w.heap.size + 1) PM.zero 2 rfl rfl (PBox.stored PM.zero hs1 hth1)) rfl ⟨rfl, Below.setCells _ (by omega) _ _ _ hB1⟩
  have t1 : (er != 0) = false := by simpa using he
  have hr := HR.out
  clear HR
  simp only [Bool.true_eq_false, if_false] at hr
  rcases Bool.eq_false_or_eq_true (p.kind == 11) with h11 | h11
  · as_aux_lemma =>
    have hr := hr
    rw [if_pos (by simpa using h11)] at hr
    subst hr
    go_wp2_with (refine wpList_store_mid rfl 33 _ _ rfl (w.heap.size + 1) 0 _ rfl rfl hth1 (by kernel_rfl) (by kernel_rfl) ?_)
    exact bodyPost_ret (v := .tuple #[.agg PM.zero.vals, .int .i64 8]) (res_msg Try.results14 _ _ (w.heap.size + 1) PM.zero 8 rfl rfl (PBox.stored PM.zero hs1 hth1)) rfl ⟨rfl, Below.setCells _ (by omega) _ _ _ hB1⟩
  rw [if_neg (by simpa using h11)] at hr
  obtain ⟨d1, hd1⟩ : ∃ d, inB stay 0 1125899906842624 = d := ⟨_, rfl⟩
  obtain ⟨d2, hd2⟩ : ∃ d, inB link 0 1125899906842624 = d := ⟨_, rfl⟩
  rw [hd1] at du1 hr
  rw [hd2] at du2 hr
  have HR := Kp.mk hr
  have HD1 := Kp.mk hd1
  have HD2 := Kp.mk hd2
  clear hr hd1 hd2
  rcases Bool.eq_false_or_eq_true (d1 && d2) with hd | hd
  · simp only [Bool.and_eq_true] at hd
    obtain ⟨rfl, rfl⟩ := hd
    have hs : 0 ≤ stay + link ∧ stay + link ≤ 9223372036854775807 := by have := HD1.out; have := HD2.out; simp [inB] at *; omega
    have e1 : wrap64 (stay + link) = stay + link := by unfold wrap64; have := hs; omega
    have cr := fun w => correct_any p hc (stay + link) hs.1 hs.2 w
    simp only [PM.vals] at cr
    have hr := HR.out
    simp only [Bool.and_self, Bool.true_eq_false, if_false] at hr
    rw [hr] at cr
    clear hr hs hc
    obtain ⟨s, hs⟩ : ∃ s, stay + link = s := ⟨_, rfl⟩
    rw [hs] at cr e1
    unfold MPost at cr
    go_wp2_with (first | (go_at_call 33; first | (with_reducible refine (du1 _).mono ?_; rintro e w' ⟨rfl, rfl⟩) | (with_reducible refine (du2 _).mono ?_; rintro e w' ⟨rfl, rfl⟩)) | (refine wpList_load_mid rfl 33 _ rfl w.heap.size 0 rfl _ _ hrow Try.underlying33 rfl (by kernel_rfl) ?_) | fail)
    simp only [hs, e1]
    refine (cr _).mono ?_
    rintro e w2 ⟨rfl, hb2⟩
    have hth1 := there_below hth1 hb2 hs1
    have hB1 := Below.then hB1 hB1.size hb2
    have hs1 : w.heap.size + 1 < w2.heap.size := by have := hb2.size; omega
    go_wp2_with (refine wpList_store_mid rfl 33 _ _ rfl (w.heap.size + 1) 0 _ rfl rfl hth1 (by kernel_rfl) (by kernel_rfl) ?_)
    exact bodyPost_ret (v := .tuple #[.agg r.1.vals, .int .i64 r.2]) (res_msg Try.results14 _ _ (w.heap.size + 1) r.1 r.2 rfl rfl (PBox.stored r.1 hs1 hth1)) rfl ⟨rfl, Below.setCells _ (by omega) _ _ _ hB1⟩
  · have hr := HR.out
    rw [if_pos hd] at hr
    subst hr
    cases d1 <;> cases d2 <;> simp at hd
    all_goals
      go_wp2_with (first | (go_at_call 33; first | (with_reducible refine (du1 _).mono ?_; rintro e w' ⟨rfl, rfl⟩) | (with_reducible refine (du2 _).mono ?_; rintro e w' ⟨rfl, rfl⟩)) | (refine wpList_store_mid rfl 33 _ _ rfl (w.heap.size + 1) 0 _ rfl rfl hth1 (by kernel_rfl) (by kernel_rfl) ?_) | fail)
      exact bodyPost_ret (v := .tuple #[.agg PM.zero.vals, .int .i64 3]) (res_msg Try.results14 _ _ (w.heap.size + 1) PM.zero 3 rfl rfl (PBox.stored PM.zero hs1 hth1)) rfl ⟨rfl, Below.setCells _ (by omega) _ _ _ hB1⟩
end Go.Proofs.Ytfpepiabpadjdaa
