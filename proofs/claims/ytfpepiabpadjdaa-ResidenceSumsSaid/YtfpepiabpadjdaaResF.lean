/-
  The small functions of package residence: duration, inside, follow; Unscale and Stay; Add.
-/
import Derived.Test.YtfpepiabpadjdaaResE
set_option linter.unusedSimpArgs false
set_option linter.unusedVariables false
namespace Go.Proofs.Ytfpepiabpadjdaa
open Go.RowKit
theorem duration_any (n : Int) (w : World) : Calls Try.prog 33 #[.int .i64 n] w fun e w' => e = .returned (.bool (inB n (0) 1125899906842624)) ∧ w = w' := by
  unfold inB
  by_cases h : (0) ≤ n
  · go_enter Try.func33, Try.ntmps33
    go_wp2
    all_goals (go_ret; exact ⟨by simp_all, rfl⟩)
  · go_enter Try.func33, Try.ntmps33
    go_wp2
    all_goals (go_ret; exact ⟨by first | (simp_all; done) | (simp; omega), rfl⟩)
theorem inside_any (n : Int) (w : World) : Calls Try.prog 29 #[.int .i64 n] w fun e w' => e = .returned (.bool (inB n (-4503599627370496) 4503599627370496)) ∧ w = w' := by
  unfold inB
  by_cases h : (-4503599627370496) ≤ n
  · go_enter Try.func29, Try.ntmps29
    go_wp2
    all_goals (go_ret; exact ⟨by simp_all, rfl⟩)
  · go_enter Try.func29, Try.ntmps29
    go_wp2
    all_goals (go_ret; exact ⟨by first | (simp_all; done) | (simp; omega), rfl⟩)
theorem israte_any (n : Int) (w : World) : Calls Try.prog 39 #[.int .i64 n] w fun e w' => e = .returned (.bool (inB n (-500000) 500000)) ∧ w = w' := by
  unfold inB
  by_cases h : (-500000) ≤ n
  · go_enter Try.func39, Try.ntmps39
    go_wp2
    all_goals (go_ret; exact ⟨by simp_all, rfl⟩)
  · go_enter Try.func39, Try.ntmps39
    go_wp2
    all_goals (go_ret; exact ⟨by first | (simp_all; done) | (simp; omega), rfl⟩)
def followF (k : Int) : Int := if k = 0 then 8 else if k = 3 then 10 else -1
theorem follow_any (k : Int) (w : World) : Calls Try.prog 37 #[.int .i64 k] w fun e w' => e = .returned (.int .i64 (followF k)) ∧ w = w' := by
  unfold followF
  go_enter Try.func37, Try.ntmps37
  go_wp2
  all_goals (go_ret; exact ⟨by simp_all, rfl⟩)
theorem unscale_any (n ppb : Int) (hn : -9223372036854775808 ≤ n) (hn2 : n ≤ 9223372036854775807) (hp : -500000 ≤ ppb) (hp2 : ppb ≤ 500000) (w : World) : Calls Try.prog 30 #[.int .i64 n, .int .i64 ppb] w (MulPost n 1000000000 (1000000000 + ppb) w) := by
  have ir := fun w => israte_any ppb w
  rw [show inB ppb (-500000) 500000 = true by simp [inB]; omega] at ir
  have md := fun w => muldiv_any n 1000000000 (1000000000 + ppb) hn hn2 (by omega) (by omega) (by omega) (by omega) w
  have e1 : wrap64 (1000000000 + ppb) = 1000000000 + ppb := by unfold wrap64; omega
  unfold MulPost at md ⊢
  generalize mdiv n 1000000000 (1000000000 + ppb) = r at *
  obtain ⟨r1, r2⟩ := r
  obtain ⟨d, hd⟩ : ∃ d, 1000000000 + ppb = d := ⟨_, rfl⟩
  rw [hd] at e1 md
  clear hn hn2 hp hp2
  go_enter Try.func30, Try.ntmps30
  go_wp2_with fail
  refine (ir _).mono ?_
  rintro e w' ⟨rfl, rfl⟩
  go_wp2_with fail
  simp only [hd, e1]
  with_reducible refine (md _).mono ?_
  rintro e w' ⟨rfl, m, rfl⟩
  go_wp2_with fail
  exact bodyPost_ret (v := .tuple #[.int .i64 r1, .bool r2]) (by simp [results, Try.results30, go_sem]) rfl ⟨rfl, m, rfl⟩
/-- The duration of a stay, and the error. -/
def stayF (i o ppb : Int) : Int × Int := if inB i (-4503599627370496) 4503599627370496 && inB o (-4503599627370496) 4503599627370496 && inB ppb (-500000) 500000 then (if o < i then (0, 12) else ((mdiv (o - i) 1000000000 (1000000000 + ppb)).1, 0)) else (0, 3)
def SPost (r : Int × Int) (w : World) (x : Ending) (w' : World) : Prop := x = .returned (.tuple #[.int .i64 r.1, .int .i64 r.2]) ∧ Below w.heap.size w w'
set_option maxHeartbeats 2000000 in
theorem stay_any (i o ppb : Int) (w : World) : Calls Try.prog 11 #[.int .i64 i, .int .i64 o, .int .i64 ppb] w (SPost (stayF i o ppb) w) := by
  have i1 := fun w => inside_any i w
  have i2 := fun w => inside_any o w
  by_cases hall : inB i (-4503599627370496) 4503599627370496 = true ∧ inB o (-4503599627370496) 4503599627370496 = true ∧ inB ppb (-500000) 500000 = true
  · obtain ⟨h1, h2, h3⟩ := hall
    rw [h1] at i1
    rw [h2] at i2
    unfold stayF
    rw [if_pos (by simp [h1, h2, h3])]
    simp [inB] at h1 h2 h3
    have t1 : decide (ppb < -500000) = false := by simp; omega
    have t2 : decide (500000 < ppb) = false := by simp; omega
    by_cases ho : o < i
    · rw [if_pos ho]
      have t3 : decide (o < i) = true := by simpa using ho
      clear h1 h2 h3 ho
      go_enter Try.func11, Try.ntmps11
      go_wp2_with (first | (go_at_call 29; first | (with_reducible refine (i1 _).mono ?_; rintro e w' ⟨rfl, rfl⟩) | (with_reducible refine (i2 _).mono ?_; rintro e w' ⟨rfl, rfl⟩)) | fail)
      exact bodyPost_ret (v := .tuple #[.int .i64 0, .int .i64 12]) (by simp [results, Try.results11, go_sem]) rfl ⟨rfl, Below.refl _ _⟩
    · rw [if_neg ho]
      have t3 : decide (o < i) = false := by simp; omega
      have us := fun w => unscale_any (o - i) ppb (by omega) (by omega) h3.1 h3.2 w
      have e1 : wrap64 (o - i) = o - i := by unfold wrap64; omega
      unfold MulPost at us
      generalize mdiv (o - i) 1000000000 (1000000000 + ppb) = r at *
      obtain ⟨r1, r2⟩ := r
      clear h1 h2 h3 ho
      go_enter Try.func11, Try.ntmps11
      go_wp2_with (first | (go_at_call 29; first | (with_reducible refine (i1 _).mono ?_; rintro e w' ⟨rfl, rfl⟩) | (with_reducible refine (i2 _).mono ?_; rintro e w' ⟨rfl, rfl⟩)) | fail)
      simp only [e1]
      with_reducible refine (us _).mono ?_
      rintro e w' ⟨rfl, m, rfl⟩
      go_wp2_with fail
      exact bodyPost_ret (v := .tuple #[.int .i64 r1, .int .i64 0]) (by simp [results, Try.results11, go_sem]) rfl ⟨rfl, Below.of_drewN _ _⟩
  · unfold stayF
    rw [if_neg (by simp only [Bool.and_eq_true]; intro h; exact hall ⟨h.1.1, h.1.2, h.2⟩)]
    have h3 : inB ppb (-500000) 500000 = true ↔ (-500000 ≤ ppb ∧ ppb ≤ 500000) := by simp [inB]
    rw [h3] at hall
    clear h3
    generalize inB i (-4503599627370496) 4503599627370496 = b1 at *
    generalize inB o (-4503599627370496) 4503599627370496 = b2 at *
    cases b1 <;> cases b2
    all_goals
      have HA := Kp.mk hall
      clear hall
      go_enter Try.func11, Try.ntmps11
      go_wp2_with (first | (go_at_call 29; first | (with_reducible refine (i1 _).mono ?_; rintro e w' ⟨rfl, rfl⟩) | (with_reducible refine (i2 _).mono ?_; rintro e w' ⟨rfl, rfl⟩)) | fail)
      all_goals
        first
          | (exfalso; have := HA.out; simp at this; omega)
          | exact bodyPost_ret (v := .tuple #[.int .i64 0, .int .i64 3]) (by simp [results, Try.results11, go_sem]) rfl ⟨rfl, Below.refl _ _⟩
end Go.Proofs.Ytfpepiabpadjdaa
