/-
  The contracts of package fixed that are used here: size, signed, MulDiv for a divisor above 0.
-/
import Derived.Test.YtfpepiabpadjdaaDiv64
set_option linter.unusedSimpArgs false
set_option linter.unusedVariables false
namespace Go.Proofs.Ytfpepiabpadjdaa
open Go.RowKit
theorem size_any (n : Int) (h : -9223372036854775808 ≤ n) (h2 : n ≤ 9223372036854775807) (w : World) :
    Calls Try.prog 54 #[.int .i64 n] w fun e w' => e = .returned (.int .u64 (n.natAbs : Int)) ∧ w = w' := by
  by_cases hn : n < 0
  · obtain ⟨m, hm⟩ : ∃ m : Nat, n = -(m : Int) := ⟨n.natAbs, by omega⟩
    have hm0 : 0 < m := by omega
    have hm1 : m ≤ 9223372036854775808 := by omega
    have e1 : IntKind.u64.wrap (-IntKind.u64.wrap (-(m : Int))) = (m : Int) := by rw [w_mod, w_mod]; omega
    have e2 : (n.natAbs : Int) = m := by omega
    rw [e2]
    clear e2
    subst hm
    clear h h2
    go_enter Try.func54, Try.ntmps54
    go_wp2
    go_ret
    exact ⟨rfl, rfl⟩
  · obtain ⟨m, rfl⟩ : ∃ m : Nat, n = (m : Int) := ⟨n.natAbs, by omega⟩
    simp only [Int.natAbs_natCast]
    go_enter Try.func54, Try.ntmps54
    go_wp2
    go_ret
    exact ⟨rfl, rfl⟩

/-- A number with a size and a sign, where it is an int. -/
def sgn (m : Nat) (neg : Bool) : Int × Bool :=
  if neg then (if m ≤ 9223372036854775808 then (-(m : Int), true) else (0, false)) else (if m < 9223372036854775808 then ((m : Int), true) else (0, false))
theorem signed_any (m : Nat) (neg : Bool) (h : m < 18446744073709551616) (w : World) :
    Calls Try.prog 56 #[.int .u64 m, .bool neg] w fun e w' => e = .returned (.tuple #[.int .i64 (sgn m neg).1, .bool (sgn m neg).2]) ∧ w = w' := by
  cases neg with
  | true =>
    by_cases hm : m ≤ 9223372036854775808
    · have e : sgn m true = (-(m : Int), true) := by simp [sgn, hm]
      have e1 : wrap64 (IntKind.u64.wrap (-(m : Int))) = -(m : Int) := by rw [w_mod]; unfold wrap64; omega
      rw [e]
      clear e
      have t : decide ((m : Int) > 9223372036854775808) = false := by simp; omega
      clear h
      go_enter Try.func56, Try.ntmps56
      go_wp2
      go_ret2
      exact ⟨by simp [e1], rfl⟩
    · have e : sgn m true = (0, false) := by simp [sgn, hm]
      rw [e]
      clear e
      have t : decide ((m : Int) > 9223372036854775808) = true := by simp; omega
      go_enter Try.func56, Try.ntmps56
      go_wp2
      go_ret2
      exact ⟨rfl, rfl⟩
  | false =>
    by_cases hm : m < 9223372036854775808
    · have e : sgn m false = ((m : Int), true) := by simp [sgn, hm]
      rw [e]
      clear e
      have t : decide ((m : Int) ≥ 9223372036854775808) = false := by simp; omega
      go_enter Try.func56, Try.ntmps56
      go_wp2
      go_ret2
      exact ⟨rfl, rfl⟩
    · have e : sgn m false = (0, false) := by simp [sgn, hm]
      rw [e]
      clear e
      have t : decide ((m : Int) ≥ 9223372036854775808) = true := by simp; omega
      go_enter Try.func56, Try.ntmps56
      go_wp2
      go_ret2
      exact ⟨rfl, rfl⟩

/-- a * b / c, rounded down, where it is an int. -/
def mdiv (a b c : Int) : Int × Bool := if -9223372036854775808 ≤ a * b / c ∧ a * b / c ≤ 9223372036854775807 then (a * b / c, true) else (0, false)

def MulPost (a b c : Int) (w : World) (e : Ending) (w' : World) : Prop := e = .returned (.tuple #[.int .i64 (mdiv a b c).1, .bool (mdiv a b c).2]) ∧ ∃ n, w' = w.drewN n

/-- The product out of the sizes and the signs. -/
theorem prod_size {a b : Int} : (decide (a < 0) = decide (b < 0) → a * b = ((a.natAbs * b.natAbs : Nat) : Int)) ∧ (decide (a < 0) ≠ decide (b < 0) → a * b = -((a.natAbs * b.natAbs : Nat) : Int)) := by
  rw [← Int.natAbs_mul]
  constructor
  · intro h
    have : 0 ≤ a * b := by
      by_cases ha : a < 0
      · have hb : b < 0 := by simpa [ha] using h
        exact Int.mul_nonneg_of_nonpos_of_nonpos (by omega) (by omega)
      · have hb : ¬ b < 0 := by simpa [ha] using h
        exact Int.mul_nonneg (by omega) (by omega)
    omega
  · intro h
    have : a * b ≤ 0 := by
      by_cases ha : a < 0
      · have hb : ¬ b < 0 := by simpa [ha] using h
        exact Int.mul_nonpos_of_nonpos_of_nonneg (by omega) (by omega)
      · have hb : b < 0 := by simpa [ha] using h
        exact Int.mul_nonpos_of_nonneg_of_nonpos (by omega) (by omega)
    omega
theorem quo_neg {P C : Nat} (hC : 0 < C) : (-(P : Int)) / (C : Int) = if P % C = 0 then -((P / C : Nat) : Int) else -((P / C : Nat) : Int) - 1 := by
  have d := Nat.div_add_mod P C
  have hm := Nat.mod_lt P hC
  generalize P / C = q at *
  generalize P % C = r at *
  have e : -(P : Int) = (if r = 0 then 0 else (C : Int) - r) + (C : Int) * (if r = 0 then -(q : Int) else -(q : Int) - 1) := by
    rw [← d]
    split
    · subst r; simp [Int.mul_neg]
    · rw [Int.mul_sub, Int.mul_neg, Int.mul_one]; simp only [Int.natCast_add, Int.natCast_mul]; omega
  rw [e, Int.add_mul_ediv_left _ _ (by omega)]
  have : (if r = 0 then (0 : Int) else (C : Int) - r) / (C : Int) = 0 := by
    split
    · simp
    · exact Int.ediv_eq_zero_of_lt (by omega) (by omega)
  rw [this]; simp
theorem mdiv_cases {a b c : Int} {A B C q r : Nat} {na nb : Bool} (hA : a.natAbs = A) (hB : b.natAbs = B) (hC : c.natAbs = C) (hc : 0 < c) (hna : decide (a < 0) = na) (hnb : decide (b < 0) = nb) (hq : A * B / C = q) (hr : A * B % C = r) :
    (na = nb → mdiv a b c = sgn q false) ∧ (na ≠ nb → r = 0 → mdiv a b c = sgn q true) ∧ (na ≠ nb → r ≠ 0 → mdiv a b c = sgn (q + 1) true) := by
  have hC0 : 0 < C := by omega
  obtain rfl : c = (C : Int) := by omega
  have p := @prod_size a b
  rw [hA, hB, hna, hnb] at p
  have n := @quo_neg (A * B) C hC0
  rw [hq, hr] at n
  have m : ((A * B : Nat) : Int) / (C : Int) = (q : Int) := by rw [← hq]; exact (Int.natCast_ediv _ _).symm
  refine ⟨fun h => ?_, fun h h0 => ?_, fun h h0 => ?_⟩
  · unfold mdiv sgn
    rw [p.1 h, m]
    simp only [Bool.false_eq_true, if_false]
    by_cases hb : q < 9223372036854775808
    · rw [if_pos (by omega), if_pos hb]
    · rw [if_neg (by omega), if_neg hb]
  · rw [if_pos h0] at n
    unfold mdiv sgn
    rw [p.2 h, n]
    simp only [if_true]
    by_cases hb : q ≤ 9223372036854775808
    · rw [if_pos (by omega), if_pos hb]
    · rw [if_neg (by omega), if_neg hb]
  · rw [if_neg h0] at n
    unfold mdiv sgn
    rw [p.2 h, n]
    simp only [if_true]
    by_cases hb : q + 1 ≤ 9223372036854775808
    · rw [if_pos (by omega), if_pos hb]; simp; omega
    · rw [if_neg (by omega), if_neg hb]
theorem mdiv_big {a b c : Int} {A B C : Nat} (hA : a.natAbs = A) (hB : b.natAbs = B) (hC : c.natAbs = C) (hc : 0 < c) (h : C * 18446744073709551616 ≤ A * B) : mdiv a b c = (0, false) := by
  have hC0 : 0 < C := by omega
  have hq : 18446744073709551616 ≤ A * B / C := (Nat.le_div_iff_mul_le hC0).2 (by rw [Nat.mul_comm]; exact h)
  obtain ⟨x, y, z⟩ := mdiv_cases hA hB hC hc rfl rfl rfl rfl
  by_cases h1 : decide (a < 0) = decide (b < 0)
  · rw [x h1]; unfold sgn; rw [if_neg (by simp), if_neg (by omega)]
  · by_cases h2 : A * B % C = 0
    · rw [y h1 h2]; unfold sgn; rw [if_pos rfl, if_neg (by omega)]
    · rw [z h1 h2]; unfold sgn; rw [if_pos rfl, if_neg (by omega)]

set_option maxHeartbeats 2000000 in
theorem muldiv_any (a b c : Int) (ha : -9223372036854775808 ≤ a) (ha2 : a ≤ 9223372036854775807) (hb : -9223372036854775808 ≤ b) (hb2 : b ≤ 9223372036854775807)
    (hc : 0 < c) (hc2 : c ≤ 9223372036854775807) (w : World) :
    Calls Try.prog 40 #[.int .i64 a, .int .i64 b, .int .i64 c] w (MulPost a b c w) := by
  have sa := size_any a ha ha2
  have sb := size_any b hb hb2
  have sc := size_any c (by omega) hc2
  obtain ⟨A, hA⟩ : ∃ A, a.natAbs = A := ⟨_, rfl⟩
  obtain ⟨B, hB⟩ : ∃ B, b.natAbs = B := ⟨_, rfl⟩
  obtain ⟨C, hC⟩ : ∃ C, c.natAbs = C := ⟨_, rfl⟩
  have hA' : A < 18446744073709551616 := by omega
  have hB' : B < 18446744073709551616 := by omega
  rw [hA] at sa
  rw [hB] at sb
  rw [hC] at sc
  obtain ⟨hi, hhi⟩ : ∃ u, A * B / 18446744073709551616 = u := ⟨_, rfl⟩
  obtain ⟨lo, hlo⟩ : ∃ u, A * B % 18446744073709551616 = u := ⟨_, rfl⟩
  have mu := fun w => Try.bits_Mul64 A B hA' hB' w
  rw [hhi, hlo] at mu
  have hC0 : 0 < C := by omega
  have hC1 : C < 18446744073709551616 := by omega
  have hlo1 : lo < 18446744073709551616 := by rw [← hlo]; exact Nat.mod_lt _ (by decide)
  have hw : Kp (hi * 18446744073709551616 + lo = A * B) := ⟨by omega⟩
  have hcn : decide (c < 0) = false := by simp; omega
  obtain ⟨na, hna⟩ : ∃ na, decide (a < 0) = na := ⟨_, rfl⟩
  obtain ⟨nb, hnb⟩ : ∃ nb, decide (b < 0) = nb := ⟨_, rfl⟩
  have KB : Kp (C ≤ hi → mdiv a b c = (0, false)) := ⟨fun h => mdiv_big hA hB hC hc (by omega)⟩
  have KC := Kp.mk (mdiv_cases hA hB hC hc hna hnb rfl rfl)
  clear ha ha2 hb hb2 hc hc2 hA hB hC hhi hlo hA' hB'
  by_cases hh : C ≤ hi
  · have t1 : decide ((hi : Int) ≥ (C : Int)) = true := by simp; omega
    go_enter Try.func40, Try.ntmps40
    go_wp2_with (first | (go_at_call 54; first | ((with_reducible refine (sa _).mono ?_); rintro e w' ⟨rfl, rfl⟩) | ((with_reducible refine (sb _).mono ?_); rintro e w' ⟨rfl, rfl⟩) | ((with_reducible refine (sc _).mono ?_); rintro e w' ⟨rfl, rfl⟩)) | (go_at_call 53; (with_reducible refine (mu _).mono ?_); rintro e w' ⟨rfl, rfl⟩))
    go_ret2
    refine ⟨?_, 0, rfl⟩
    rw [KB.out hh]
    rfl
  · have t1 : decide ((hi : Int) ≥ (C : Int)) = false := by simp; omega
    have dv := div64_any hi lo C (by omega) hlo1 hC1
    rw [hw.out] at dv
    have hq1 : A * B / C < 18446744073709551616 := by
      rw [Nat.div_lt_iff_lt_mul hC0, ← hw.out]
      omega
    obtain ⟨q, hq⟩ : ∃ q, A * B / C = q := ⟨_, rfl⟩
    obtain ⟨r, hr⟩ : ∃ r, A * B % C = r := ⟨_, rfl⟩
    rw [hq, hr] at dv KC
    rw [hq] at hq1
    clear hq hr
    cases na with
    | true =>
      cases nb with
      | true =>
        have sg := signed_any q false hq1
        go_enter Try.func40, Try.ntmps40
        go_wp2_with (first | (go_at_call 54; first | ((with_reducible refine (sa _).mono ?_); rintro e w' ⟨rfl, rfl⟩) | ((with_reducible refine (sb _).mono ?_); rintro e w' ⟨rfl, rfl⟩) | ((with_reducible refine (sc _).mono ?_); rintro e w' ⟨rfl, rfl⟩)) | (go_at_call 53; (with_reducible refine (mu _).mono ?_); rintro e w' ⟨rfl, rfl⟩) | (go_at_call 55; (with_reducible refine (dv _).mono ?_); rintro e w' ⟨rfl, n, rfl⟩) | (go_at_call 56; (with_reducible refine (sg _).mono ?_); rintro e w' ⟨rfl, rfl⟩))
        go_ret2
        refine ⟨?_, n, rfl⟩
        rw [KC.out.1 (by trivial)]
        rfl
      | false =>
        by_cases hr0 : r = 0
        · have sg := signed_any q true hq1
          have K := Kp.mk (KC.out.2.1 (by decide) hr0)
          have t2 : ((r : Int) == 0) = true := by simp; omega
          have t3 : ((r : Int) != 0) = false := by simp; omega
          clear hr0
          go_enter Try.func40, Try.ntmps40
          go_wp2_with (first | (go_at_call 54; first | ((with_reducible refine (sa _).mono ?_); rintro e w' ⟨rfl, rfl⟩) | ((with_reducible refine (sb _).mono ?_); rintro e w' ⟨rfl, rfl⟩) | ((with_reducible refine (sc _).mono ?_); rintro e w' ⟨rfl, rfl⟩)) | (go_at_call 53; (with_reducible refine (mu _).mono ?_); rintro e w' ⟨rfl, rfl⟩) | (go_at_call 55; (with_reducible refine (dv _).mono ?_); rintro e w' ⟨rfl, n, rfl⟩) | (go_at_call 56; (with_reducible refine (sg _).mono ?_); rintro e w' ⟨rfl, rfl⟩))
          go_ret2
          refine ⟨?_, n, rfl⟩
          rw [K.out]
          rfl
        · have K := Kp.mk (KC.out.2.2 (by decide) hr0)
          have t2 : ((r : Int) == 0) = false := by simp; omega
          have t3 : ((r : Int) != 0) = true := by simp; omega
          clear hr0
          by_cases hp : q + 1 < 18446744073709551616
          · obtain ⟨p, hpe⟩ : ∃ p, q + 1 = p := ⟨_, rfl⟩
            have sg := signed_any p true (by omega)
            have e1 : IntKind.u64.wrap ((q : Int) + 1) = (p : Int) := by rw [w_mod]; omega
            have e2 : (q : Int) + 1 = (p : Int) := by omega
            have t4 : ((p : Int) == 0) = false := by simp; omega
            have hp1 : p < 18446744073709551616 := by omega
            rw [hpe] at K
            clear hpe hp
            go_enter Try.func40, Try.ntmps40
            go_wp2_with (first | (go_at_call 54; first | ((with_reducible refine (sa _).mono ?_); rintro e w' ⟨rfl, rfl⟩) | ((with_reducible refine (sb _).mono ?_); rintro e w' ⟨rfl, rfl⟩) | ((with_reducible refine (sc _).mono ?_); rintro e w' ⟨rfl, rfl⟩)) | (go_at_call 53; (with_reducible refine (mu _).mono ?_); rintro e w' ⟨rfl, rfl⟩) | (go_at_call 55; (with_reducible refine (dv _).mono ?_); rintro e w' ⟨rfl, n, rfl⟩) | (go_at_call 56; (with_reducible refine (sg _).mono ?_); rintro e w' ⟨rfl, rfl⟩))
            go_ret2
            refine ⟨?_, n, rfl⟩
            rw [K.out]
            rfl
          · have e1 : IntKind.u64.wrap ((q : Int) + 1) = 0 := by rw [w_mod]; omega
            have K2 : Kp (sgn (q + 1) true = (0, false)) := ⟨by unfold sgn; rw [if_pos rfl, if_neg (by omega)]⟩
            have sg := signed_any 0 true (by omega)
            clear hp
            go_enter Try.func40, Try.ntmps40
            go_wp2_with (first | (go_at_call 54; first | ((with_reducible refine (sa _).mono ?_); rintro e w' ⟨rfl, rfl⟩) | ((with_reducible refine (sb _).mono ?_); rintro e w' ⟨rfl, rfl⟩) | ((with_reducible refine (sc _).mono ?_); rintro e w' ⟨rfl, rfl⟩)) | (go_at_call 53; (with_reducible refine (mu _).mono ?_); rintro e w' ⟨rfl, rfl⟩) | (go_at_call 55; (with_reducible refine (dv _).mono ?_); rintro e w' ⟨rfl, n, rfl⟩) | (go_at_call 56; (with_reducible refine (sg _).mono ?_); rintro e w' ⟨rfl, rfl⟩))
            go_ret2
            refine ⟨?_, n, rfl⟩
            rw [K.out, K2.out]
            rfl
    | false =>
      cases nb with
      | true =>
        by_cases hr0 : r = 0
        · have sg := signed_any q true hq1
          have K := Kp.mk (KC.out.2.1 (by decide) hr0)
          have t2 : ((r : Int) == 0) = true := by simp; omega
          have t3 : ((r : Int) != 0) = false := by simp; omega
          clear hr0
          go_enter Try.func40, Try.ntmps40
          go_wp2_with (first | (go_at_call 54; first | ((with_reducible refine (sa _).mono ?_); rintro e w' ⟨rfl, rfl⟩) | ((with_reducible refine (sb _).mono ?_); rintro e w' ⟨rfl, rfl⟩) | ((with_reducible refine (sc _).mono ?_); rintro e w' ⟨rfl, rfl⟩)) | (go_at_call 53; (with_reducible refine (mu _).mono ?_); rintro e w' ⟨rfl, rfl⟩) | (go_at_call 55; (with_reducible refine (dv _).mono ?_); rintro e w' ⟨rfl, n, rfl⟩) | (go_at_call 56; (with_reducible refine (sg _).mono ?_); rintro e w' ⟨rfl, rfl⟩))
          go_ret2
          refine ⟨?_, n, rfl⟩
          rw [K.out]
          rfl
        · have K := Kp.mk (KC.out.2.2 (by decide) hr0)
          have t2 : ((r : Int) == 0) = false := by simp; omega
          have t3 : ((r : Int) != 0) = true := by simp; omega
          clear hr0
          by_cases hp : q + 1 < 18446744073709551616
          · obtain ⟨p, hpe⟩ : ∃ p, q + 1 = p := ⟨_, rfl⟩
            have sg := signed_any p true (by omega)
            have e1 : IntKind.u64.wrap ((q : Int) + 1) = (p : Int) := by rw [w_mod]; omega
            have e2 : (q : Int) + 1 = (p : Int) := by omega
            have t4 : ((p : Int) == 0) = false := by simp; omega
            have hp1 : p < 18446744073709551616 := by omega
            rw [hpe] at K
            clear hpe hp
            go_enter Try.func40, Try.ntmps40
            go_wp2_with (first | (go_at_call 54; first | ((with_reducible refine (sa _).mono ?_); rintro e w' ⟨rfl, rfl⟩) | ((with_reducible refine (sb _).mono ?_); rintro e w' ⟨rfl, rfl⟩) | ((with_reducible refine (sc _).mono ?_); rintro e w' ⟨rfl, rfl⟩)) | (go_at_call 53; (with_reducible refine (mu _).mono ?_); rintro e w' ⟨rfl, rfl⟩) | (go_at_call 55; (with_reducible refine (dv _).mono ?_); rintro e w' ⟨rfl, n, rfl⟩) | (go_at_call 56; (with_reducible refine (sg _).mono ?_); rintro e w' ⟨rfl, rfl⟩))
            go_ret2
            refine ⟨?_, n, rfl⟩
            rw [K.out]
            rfl
          · have e1 : IntKind.u64.wrap ((q : Int) + 1) = 0 := by rw [w_mod]; omega
            have K2 : Kp (sgn (q + 1) true = (0, false)) := ⟨by unfold sgn; rw [if_pos rfl, if_neg (by omega)]⟩
            have sg := signed_any 0 true (by omega)
            clear hp
            go_enter Try.func40, Try.ntmps40
            go_wp2_with (first | (go_at_call 54; first | ((with_reducible refine (sa _).mono ?_); rintro e w' ⟨rfl, rfl⟩) | ((with_reducible refine (sb _).mono ?_); rintro e w' ⟨rfl, rfl⟩) | ((with_reducible refine (sc _).mono ?_); rintro e w' ⟨rfl, rfl⟩)) | (go_at_call 53; (with_reducible refine (mu _).mono ?_); rintro e w' ⟨rfl, rfl⟩) | (go_at_call 55; (with_reducible refine (dv _).mono ?_); rintro e w' ⟨rfl, n, rfl⟩) | (go_at_call 56; (with_reducible refine (sg _).mono ?_); rintro e w' ⟨rfl, rfl⟩))
            go_ret2
            refine ⟨?_, n, rfl⟩
            rw [K.out, K2.out]
            rfl
      | false =>
        have sg := signed_any q false hq1
        go_enter Try.func40, Try.ntmps40
        go_wp2_with (first | (go_at_call 54; first | ((with_reducible refine (sa _).mono ?_); rintro e w' ⟨rfl, rfl⟩) | ((with_reducible refine (sb _).mono ?_); rintro e w' ⟨rfl, rfl⟩) | ((with_reducible refine (sc _).mono ?_); rintro e w' ⟨rfl, rfl⟩)) | (go_at_call 53; (with_reducible refine (mu _).mono ?_); rintro e w' ⟨rfl, rfl⟩) | (go_at_call 55; (with_reducible refine (dv _).mono ?_); rintro e w' ⟨rfl, n, rfl⟩) | (go_at_call 56; (with_reducible refine (sg _).mono ?_); rintro e w' ⟨rfl, rfl⟩))
        go_ret2
        refine ⟨?_, n, rfl⟩
        rw [KC.out.1 (by trivial)]
        rfl
end Go.Proofs.Ytfpepiabpadjdaa
