/-
  The reference's arithmetic, as far as it is reached: sizes, products by a small factor, signs, sums.
-/
import Derived.Test.YtfpepiabpadjdaaResL
set_option linter.unusedSimpArgs false
set_option linter.unusedVariables false
namespace Go.Proofs.Ytfpepiabpadjdaa
open Go.RowKit
theorem rsize_any (n : Nat) (h : n ≤ 9223372036854775807) (w : World) : Calls Try.prog 58 #[.int .i64 n] w fun e w' => e = .returned (.int .u64 n) ∧ w = w' := by
  have e1 : IntKind.u64.wrap (n : Int) = n := by rw [w_mod]; omega
  clear h
  go_enter Try.func58, Try.ntmps58
  go_wp2
  go_ret
  exact ⟨rfl, rfl⟩
set_option maxHeartbeats 1000000 in
theorem product_small (a b : Nat) (ha : a < 9223372036854775808) (hb : b < 4294967296) (w : World) : Calls Try.prog 57 #[.int .u64 a, .int .u64 b] w fun x w' => x = .returned (.tuple #[.int .u64 ((a * b / 18446744073709551616 : Nat) : Int), .int .u64 ((a * b % 18446744073709551616 : Nat) : Int)]) ∧ w = w' := by
  obtain ⟨P, hP⟩ : ∃ P, a * b = P := ⟨_, rfl⟩
  have hP2 : (P : Int) = (a : Int) * b := by rw [← hP]; simp
  rw [hP]
  have e_b : IntKind.u64.wrap ((b : Int) / 4294967296) = 0 := by rw [w_mod]; omega
  have e_b2 : (b : Int) % 4294967296 = b := by omega
  have e_b3 : (b : Int) / 4294967296 = 0 := by omega
  obtain ⟨A1, hA1⟩ : ∃ x : Int, (a : Int) / 4294967296 = x := ⟨_, rfl⟩
  obtain ⟨A0, hA0⟩ : ∃ x : Int, (a : Int) % 4294967296 = x := ⟨_, rfl⟩
  have hA : (a : Int) = A1 * 4294967296 + A0 := by omega
  have b1 : 0 ≤ A1 ∧ A1 < 2147483648 := by omega
  have b0 : 0 ≤ A0 ∧ A0 < 4294967296 := by omega
  have eA1 : IntKind.u64.wrap A1 = A1 := by rw [w_mod]; omega
  have hL0 : 0 ≤ A0 * (b : Int) := Int.mul_nonneg b0.1 (by omega)
  have hM0 : 0 ≤ A1 * (b : Int) := Int.mul_nonneg b1.1 (by omega)
  have hL1 : A0 * (b : Int) ≤ 4294967295 * 4294967295 := Int.mul_le_mul (by omega) (by omega) (by omega) (by omega)
  have hM1 : A1 * (b : Int) ≤ 2147483647 * 4294967295 := Int.mul_le_mul (by omega) (by omega) (by omega) (by omega)
  have hPP : (P : Int) = A1 * (b : Int) * 4294967296 + A0 * (b : Int) := by rw [hP2, hA, Int.add_mul, Int.mul_right_comm]
  obtain ⟨L, hL⟩ : ∃ x : Int, A0 * (b : Int) = x := ⟨_, rfl⟩
  obtain ⟨M, hM⟩ : ∃ x : Int, A1 * (b : Int) = x := ⟨_, rfl⟩
  rw [hL] at hL0 hL1 hPP
  rw [hM] at hM0 hM1 hPP
  have eL : IntKind.u64.wrap L = L := by rw [w_mod]; omega
  have eL1 : L.tdiv 4294967296 = L / 4294967296 := Int.tdiv_eq_ediv_of_nonneg hL0
  have eL0 : L.tmod 4294967296 = L % 4294967296 := Int.tmod_eq_emod_of_nonneg hL0
  have eL2 : IntKind.u64.wrap (L / 4294967296) = L / 4294967296 := by rw [w_mod]; omega
  have eM : IntKind.u64.wrap M = M := by rw [w_mod]; omega
  obtain ⟨D, hD⟩ : ∃ x : Int, M + L / 4294967296 = x := ⟨_, rfl⟩
  have hD0 : 0 ≤ D ∧ D < 18446744073709551616 := by omega
  have eD : IntKind.u64.wrap (M + L / 4294967296) = D := by rw [w_mod]; omega
  have eD1 : D.tdiv 4294967296 = D / 4294967296 := Int.tdiv_eq_ediv_of_nonneg hD0.1
  have eD0 : D.tmod 4294967296 = D % 4294967296 := Int.tmod_eq_emod_of_nonneg hD0.1
  have eD2 : IntKind.u64.wrap (D / 4294967296) = D / 4294967296 := by rw [w_mod]; omega
  obtain ⟨R, hR⟩ : ∃ x : Int, D % 4294967296 = x := ⟨_, rfl⟩
  have hR0 : 0 ≤ R ∧ R < 4294967296 := by omega
  rw [hR] at eD0
  have eR : IntKind.u64.wrap R = R := by rw [w_mod]; omega
  have eR1 : R.tdiv 4294967296 = 0 := by rw [Int.tdiv_eq_ediv_of_nonneg hR0.1]; omega
  have eR0 : R.tmod 4294967296 = R := by rw [Int.tmod_eq_emod_of_nonneg hR0.1]; omega
  have eR2 : IntKind.u64.wrap (R * 4294967296) = R * 4294967296 := by rw [w_mod]; omega
  have eF : IntKind.u64.wrap (R * 4294967296 + L % 4294967296) = ((P % 18446744073709551616 : Nat) : Int) := by rw [w_mod]; omega
  have eG : D / 4294967296 = ((P / 18446744073709551616 : Nat) : Int) := by omega
  have e0 : IntKind.u64.wrap 0 = 0 := by decide
  have K := Kp.mk eG
  clear hP hP2 hA b1 b0 hL0 hM0 hL1 hM1 hPP hD0 hR0 ha hb hD hR eG
  go_enter Try.func57, Try.ntmps57
  go_wp2
  exact bodyPost_ret (v := .tuple #[.int .u64 (D / 4294967296), .int .u64 ((P : Int) % 18446744073709551616)]) (by simp [results, Try.results57, go_sem]) rfl ⟨by rw [K.out]; simp, rfl⟩
theorem rsigned_pos (hi lo : Nat) (h : hi * 18446744073709551616 + lo < 9223372036854775808) (w : World) : Calls Try.prog 60 #[.bool false, .int .u64 hi, .int .u64 lo] w fun e w' => e = .returned (.tuple #[.int .i64 lo, .bool true]) ∧ w = w' := by
  obtain rfl : hi = 0 := by omega
  have t1 : decide ((lo : Int) > 9223372036854775808) = false := by simp; omega
  have t2 : ((lo : Int) == 9223372036854775808) = false := by simp; omega
  have e1 : wrap64 (lo : Int) = lo := by unfold wrap64; omega
  clear h
  go_enter Try.func60, Try.ntmps60
  go_wp2
  exact bodyPost_ret (v := .tuple #[.int .i64 lo, .bool true]) (by simp [results, Try.results60, go_sem, e1]) rfl ⟨rfl, rfl⟩
theorem rsigned_big (hi lo : Nat) (h : 9223372036854775808 ≤ hi * 18446744073709551616 + lo) (hl : lo < 18446744073709551616) (w : World) : Calls Try.prog 60 #[.bool false, .int .u64 hi, .int .u64 lo] w fun e w' => e = .returned (.tuple #[.int .i64 0, .bool false]) ∧ w = w' := by
  by_cases h0 : 0 < hi
  · have t0 : decide ((hi : Int) > 0) = true := by simp; omega
    clear h hl
    go_enter Try.func60, Try.ntmps60
    go_wp2
    all_goals first | (exfalso; omega) | exact bodyPost_ret (v := .tuple #[.int .i64 0, .bool false]) (by simp [results, Try.results60, go_sem]) rfl ⟨rfl, rfl⟩
  · obtain rfl : hi = 0 := by omega
    by_cases h1 : lo = 9223372036854775808
    · subst h1
      clear h hl h0
      go_enter Try.func60, Try.ntmps60
      go_wp2
      exact bodyPost_ret (v := .tuple #[.int .i64 0, .bool false]) (by simp [results, Try.results60, go_sem]) rfl ⟨rfl, rfl⟩
    · have t1 : decide ((lo : Int) > 9223372036854775808) = true := by simp; omega
      clear h hl h0 h1
      go_enter Try.func60, Try.ntmps60
      go_wp2
      exact bodyPost_ret (v := .tuple #[.int .i64 0, .bool false]) (by simp [results, Try.results60, go_sem]) rfl ⟨rfl, rfl⟩
theorem rmul_any (t : Int) (h : 0 ≤ t) (h2 : t ≤ 9223372036854775807) (w : World) : Calls Try.prog 51 #[.int .i64 t, .int .i64 65536] w fun x w' => x = .returned (.tuple #[.int .i64 (unitsF t).1, .bool (unitsF t).2]) ∧ w = w' := by
  obtain ⟨n, rfl⟩ : ∃ n : Nat, t = n := ⟨t.toNat, by omega⟩
  have s1 := fun w => rsize_any n (by omega) w
  have s2 := fun w => rsize_any 65536 (Nat.le_of_ble_eq_true rfl) w
  have pr := fun w => product_small n 65536 (by omega) (Nat.lt_of_lt_of_le (by omega : 65536 < 65537) (by omega)) w
  obtain ⟨hi, hhi⟩ : ∃ x, n * 65536 / 18446744073709551616 = x := ⟨_, rfl⟩
  obtain ⟨lo, hlo⟩ : ∃ x, n * 65536 % 18446744073709551616 = x := ⟨_, rfl⟩
  rw [hhi, hlo] at pr
  have hn : decide ((n : Int) < 0) = false := by simp
  have e4 : hi * 18446744073709551616 + lo = n * 65536 := by rw [← hhi, ← hlo]; exact Nat.div_add_mod' _ _
  have hl : lo < 18446744073709551616 := by rw [← hlo]; exact Nat.mod_lt _ (by decide)
  have hlo2 : n * 65536 < 9223372036854775808 → (lo : Int) = (n : Int) * 65536 := by intro h; rw [← hlo, Nat.mod_eq_of_lt (by omega)]; simp
  by_cases hb : n * 65536 < 9223372036854775808
  · have sg := fun w => rsigned_pos hi lo (by rw [e4]; exact hb) w
    have e : unitsF (n : Int) = ((lo : Int), true) := by unfold unitsF; rw [if_pos (by clear e4 hlo2; omega), hlo2 hb]
    rw [e]
    clear e h h2 hhi hlo hb e4 hl hlo2
    go_enter Try.func51, Try.ntmps51
    go_wp2_with (first | (go_at_call 58; first | (with_reducible refine (s1 _).mono ?_; rintro e w' ⟨rfl, rfl⟩) | (refine (s2 _).mono ?_; rintro e w' ⟨rfl, rfl⟩)) | (go_at_call 57; refine (pr _).mono ?_; rintro e w' ⟨rfl, rfl⟩) | (go_at_call 60; refine (sg _).mono ?_; rintro e w' ⟨rfl, rfl⟩) | fail)
    exact bodyPost_ret (v := .tuple #[.int .i64 lo, .bool true]) (by simp [results, Try.results51, go_sem]) rfl ⟨rfl, rfl⟩
  · have sg := fun w => rsigned_big hi lo (by rw [e4]; exact Nat.le_of_not_lt hb) hl w
    have e : unitsF (n : Int) = (0, false) := by unfold unitsF; rw [if_neg (by clear e4 hlo2; omega)]
    rw [e]
    clear e h h2 hhi hlo hb e4 hl hlo2
    go_enter Try.func51, Try.ntmps51
    go_wp2_with (first | (go_at_call 58; first | (with_reducible refine (s1 _).mono ?_; rintro e w' ⟨rfl, rfl⟩) | (refine (s2 _).mono ?_; rintro e w' ⟨rfl, rfl⟩)) | (go_at_call 57; refine (pr _).mono ?_; rintro e w' ⟨rfl, rfl⟩) | (go_at_call 60; refine (sg _).mono ?_; rintro e w' ⟨rfl, rfl⟩) | fail)
    exact bodyPost_ret (v := .tuple #[.int .i64 0, .bool false]) (by simp [results, Try.results51, go_sem]) rfl ⟨rfl, rfl⟩
set_option maxHeartbeats 1000000 in
theorem radd_any (a b : Int) (h : -9223372036854775808 ≤ a) (h2 : a ≤ 9223372036854775807) (h3 : 0 ≤ b) (h4 : b ≤ 9223372036854775807) (w : World) : Calls Try.prog 52 #[.int .i64 a, .int .i64 b] w fun x w' => x = .returned (.tuple #[.int .i64 (addF a b).1, .bool (addF a b).2]) ∧ w = w' := by
  have e1 : wrap64 (9223372036854775807 - b) = 9223372036854775807 - b := by unfold wrap64; omega
  have t0 : decide (b < 0) = false := by simp; omega
  by_cases hb : a + b ≤ 9223372036854775807
  · have e2 : wrap64 (a + b) = a + b := by unfold wrap64; omega
    have e : addF a b = (a + b, true) := by unfold addF; rw [if_pos (by omega)]
    rw [e]
    have t2 : decide (a > 9223372036854775807 - b) = false := by simp; omega
    have t3 : decide (9223372036854775807 - b < a) = false := by simp; omega
    clear e h h2 h4 hb
    rcases Int.lt_or_le 0 b with h0 | h0
    · have t1 : decide (b > 0) = true := by simp; omega
      clear h3 h0
      go_enter Try.func52, Try.ntmps52
      go_wp2
      exact bodyPost_ret (v := .tuple #[.int .i64 (a + b), .bool true]) (by simp [results, Try.results52, go_sem, e2]) rfl ⟨rfl, rfl⟩
    · obtain rfl : b = 0 := by omega
      have e3 : wrap64 a = a := by simpa using e2
      clear h3 h0
      go_enter Try.func52, Try.ntmps52
      go_wp2
      exact bodyPost_ret (v := .tuple #[.int .i64 (a + 0), .bool true]) (by simp [results, Try.results52, go_sem, e3]) rfl ⟨rfl, rfl⟩
  · have e : addF a b = (0, false) := by unfold addF; rw [if_neg (by omega)]
    rw [e]
    have t2 : decide (a > 9223372036854775807 - b) = true := by simp; omega
    have t1 : decide (b > 0) = true := by simp; omega
    clear e h h2 h3 h4 hb
    go_enter Try.func52, Try.ntmps52
    go_wp2
    exact bodyPost_ret (v := .tuple #[.int .i64 0, .bool false]) (by simp [results, Try.results52, go_sem]) rfl ⟨rfl, rfl⟩
end Go.Proofs.Ytfpepiabpadjdaa
