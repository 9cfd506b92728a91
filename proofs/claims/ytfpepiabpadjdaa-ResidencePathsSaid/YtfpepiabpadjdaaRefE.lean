/-
  The reference's MulDiv, as far as it is reached, its Unscale and its Stay; ResidenceStays' walk.
-/
import Derived.Test.YtfpepiabpadjdaaRefD
set_option linter.unusedSimpArgs false
set_option linter.unusedVariables false
namespace Go.Proofs.Ytfpepiabpadjdaa
open Go.RowKit
theorem rmuldiv_any (a c : Nat) (ha : a ≤ 9007199254740992) (hc : 999500000 ≤ c) (hc2 : c ≤ 1000500000) (w : World) :
    Calls Try.prog 41 #[.int .i64 a, .int .i64 1000000000, .int .i64 c] w fun x w' => x = .returned (.tuple #[.int .i64 ((a * 1000000000 / c : Nat) : Int), .bool true]) ∧ w = w' := by
  have s1 := fun w => rsize_any a (by omega) w
  have s2 := fun w => rsize_any 1000000000 (by omega) w
  have s3 := fun w => rsize_any c (by omega) w
  have pr := fun w => product_small a 1000000000 (by omega) (by omega) w
  have hNb : a * 1000000000 < 19342813113834066795298816 := by omega
  have hQ : a * 1000000000 / c < 9223372036854775808 := by
    rw [Nat.div_lt_iff_lt_mul (by omega)]
    omega
  obtain ⟨N, hN⟩ : ∃ x, a * 1000000000 = x := ⟨_, rfl⟩
  rw [hN] at pr hNb hQ
  rw [hN]
  obtain ⟨hi, hhi⟩ : ∃ x, N / 18446744073709551616 = x := ⟨_, rfl⟩
  obtain ⟨lo, hlo⟩ : ∃ x, N % 18446744073709551616 = x := ⟨_, rfl⟩
  rw [hhi, hlo] at pr
  have dv := fun w => rdivide_any hi lo c N (by rw [← hhi, ← hlo]; exact Nat.div_add_mod' _ _) hNb (by rw [← hlo]; exact Nat.mod_lt _ (by decide)) (by omega) (by omega) w
  have e0 : N / c / 18446744073709551616 = 0 := Nat.div_eq_of_lt (by omega)
  have e1 : N / c % 18446744073709551616 = N / c := Nat.mod_eq_of_lt (by omega)
  rw [e0, e1] at dv
  generalize N / c = q at *
  generalize N % c = r at *
  have sg := fun w => rsigned_pos 0 q (by omega) w
  have t1 : decide ((a : Int) < 0) = false := by simp
  have t2 : decide ((c : Int) < 0) = false := by simp
  have t3 : ((c : Int) == 0) = false := by simp; omega
  clear ha hc hc2 hNb hQ hN hhi hlo e0 e1
  go_enter Try.func41, Try.ntmps41
  go_wp2_with (first | (go_at_call 58; first | (with_reducible refine (s1 _).mono ?_; rintro e w' ⟨rfl, rfl⟩) | (with_reducible refine (s3 _).mono ?_; rintro e w' ⟨rfl, rfl⟩) | (refine (s2 _).mono ?_; rintro e w' ⟨rfl, rfl⟩)) | (go_at_call 57; refine (pr _).mono ?_; rintro e w' ⟨rfl, rfl⟩) | (go_at_call 59; refine (dv _).mono ?_; rintro e w' ⟨rfl, rfl⟩) | (go_at_call 60; refine (sg _).mono ?_; rintro e w' ⟨rfl, rfl⟩) | fail)
  exact bodyPost_ret (v := .tuple #[.int .i64 q, .bool true]) (by simp [results, Try.results41, go_sem]) rfl ⟨rfl, rfl⟩
theorem runscale_any (n ppb : Int) (hn : 0 ≤ n) (hn2 : n ≤ 9007199254740992) (hp : -500000 ≤ ppb) (hp2 : ppb ≤ 500000) (w : World) :
    Calls Try.prog 31 #[.int .i64 n, .int .i64 ppb] w fun x w' => x = .returned (.tuple #[.int .i64 (mdiv n 1000000000 (1000000000 + ppb)).1, .bool true]) ∧ w = w' := by
  obtain ⟨a, rfl⟩ : ∃ a : Nat, n = a := ⟨n.toNat, by omega⟩
  obtain ⟨c, hc⟩ : ∃ c : Nat, 1000000000 + ppb = c := ⟨(1000000000 + ppb).toNat, by omega⟩
  have md := fun w => rmuldiv_any a c (by omega) (by omega) (by omega) w
  have hQ : a * 1000000000 / c < 9223372036854775808 := by
    rw [Nat.div_lt_iff_lt_mul (by omega)]
    omega
  have e : (mdiv (a : Int) 1000000000 (1000000000 + ppb)).1 = ((a * 1000000000 / c : Nat) : Int) := by
    rw [hc]
    have e2 : (a : Int) * 1000000000 / (c : Int) = ((a * 1000000000 / c : Nat) : Int) := by simp
    unfold mdiv
    rw [e2]
    generalize a * 1000000000 / c = q at hQ ⊢
    rw [if_pos (by omega)]
  rw [e]
  generalize a * 1000000000 / c = q at *
  have e1 : wrap64 (1000000000 + ppb) = (c : Int) := by unfold wrap64; omega
  have e3 : wrap64 (c : Int) = (c : Int) := by unfold wrap64; omega
  have t1 : decide (ppb < -500000) = false := by simp; omega
  have t2 : decide (500000 < ppb) = false := by simp; omega
  clear hn hn2 hp hp2 hQ e
  go_enter Try.func31, Try.ntmps31
  go_wp2_with fail
  try simp only [hc, e1, e3]
  with_reducible refine (md _).mono ?_
  rintro e w' ⟨rfl, rfl⟩
  go_wp2_with fail
  exact bodyPost_ret (v := .tuple #[.int .i64 q, .bool true]) (by simp [results, Try.results31, go_sem]) rfl ⟨rfl, rfl⟩
set_option maxHeartbeats 2000000 in
theorem rstay_any (i o ppb : Int) (w : World) : Calls Try.prog 12 #[.int .i64 i, .int .i64 o, .int .i64 ppb] w (SPost (stayF i o ppb) w) := by
  by_cases hall : (-4503599627370496 ≤ i ∧ i ≤ 4503599627370496) ∧ (-4503599627370496 ≤ o ∧ o ≤ 4503599627370496) ∧ (-500000 ≤ ppb ∧ ppb ≤ 500000)
  · obtain ⟨h1, h2, h3⟩ := hall
    have t1 : decide (i < -4503599627370496) = false := by simp; omega
    have t2 : decide (4503599627370496 < i) = false := by simp; omega
    have t3 : decide (o < -4503599627370496) = false := by simp; omega
    have t4 : decide (4503599627370496 < o) = false := by simp; omega
    have t5 : decide (ppb < -500000) = false := by simp; omega
    have t6 : decide (500000 < ppb) = false := by simp; omega
    have eS : stayF i o ppb = if o < i then (0, 12) else ((mdiv (o - i) 1000000000 (1000000000 + ppb)).1, 0) := by
      unfold stayF
      rw [if_pos (by simp [inB]; omega)]
    rw [eS]
    clear eS
    by_cases ho : o < i
    · rw [if_pos ho]
      have t7 : decide (o < i) = true := by simpa using ho
      clear h1 h2 h3 ho
      go_enter Try.func12, Try.ntmps12
      go_wp2_with fail
      exact bodyPost_ret (v := .tuple #[.int .i64 0, .int .i64 12]) (by simp [results, Try.results12, go_sem]) rfl ⟨rfl, Below.refl _ _⟩
    · rw [if_neg ho]
      have t7 : decide (o < i) = false := by simp; omega
      have us := fun w => runscale_any (o - i) ppb (by omega) (by omega) h3.1 h3.2 w
      have e1 : wrap64 (o - i) = o - i := by unfold wrap64; omega
      generalize (mdiv (o - i) 1000000000 (1000000000 + ppb)).1 = r1 at *
      clear h1 h2 h3 ho
      go_enter Try.func12, Try.ntmps12
      go_wp2_with fail
      try simp only [e1]
      with_reducible refine (us _).mono ?_
      rintro e w' ⟨rfl, rfl⟩
      go_wp2_with fail
      exact bodyPost_ret (v := .tuple #[.int .i64 r1, .int .i64 0]) (by simp [results, Try.results12, go_sem]) rfl ⟨rfl, Below.refl _ _⟩
  · have eS : stayF i o ppb = (0, 3) := by
      unfold stayF
      rw [if_neg (by simp [inB]; omega)]
    rw [eS]
    have HA := Kp.mk hall
    clear hall eS
    go_enter Try.func12, Try.ntmps12
    go_wp2_with fail
    all_goals
      first
        | (exfalso; have := HA.out; omega)
        | exact bodyPost_ret (v := .tuple #[.int .i64 0, .int .i64 3]) (by simp [results, Try.results12, go_sem]) rfl ⟨rfl, Below.refl _ _⟩
set_option maxHeartbeats 2000000 in
theorem stays_any (i o ppb : Int) (_ : -9223372036854775808 ≤ i ∧ i ≤ 9223372036854775807) (_ : -9223372036854775808 ≤ o ∧ o ≤ 9223372036854775807) (_ : -9223372036854775808 ≤ ppb ∧ ppb ≤ 9223372036854775807) (w : World) :
    Calls Try.prog 3 #[.int .i64 i, .int .i64 o, .int .i64 ppb] w fun x w' => x = .returned (.bool true) ∧ Below w.heap.size w w' := by
  have c1 := fun w => stay_any i o ppb w
  have c2 := fun w => rstay_any i o ppb w
  have aw := fun w => awake_any w
  generalize stayF i o ppb = r at *
  obtain ⟨n, e⟩ := r
  unfold SPost at c1 c2
  simp only at c1 c2
  go_enter Try.func3, Try.ntmps3
  go_wp2_with fail
  refine (c1 _).mono ?_
  rintro x w1 ⟨rfl, hB⟩
  go_wp2_with fail
  refine (c2 _).mono ?_
  rintro x w2 ⟨rfl, hX⟩
  have hB := Below.then hB hB.size hX
  clear hX
  go_wp2_with fail
  refine (aw _).mono ?_
  rintro x w3 ⟨rfl, hX⟩
  have hB := Below.then hB hB.size hX
  clear hX
  go_wp2_with fail
  go_ret
  exact ⟨rfl, hB⟩
end Go.Proofs.Ytfpepiabpadjdaa
