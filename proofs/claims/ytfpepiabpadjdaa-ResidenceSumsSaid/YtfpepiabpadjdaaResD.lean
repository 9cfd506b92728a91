/-
  The sums and products below package residence, and the corrections.
-/
import Derived.Test.YtfpepiabpadjdaaResC
import Derived.Laws.BitsAllLaws
set_option linter.unusedSimpArgs false
set_option linter.unusedVariables false
namespace Go.Proofs.Ytfpepiabpadjdaa
open Go.RowKit
theorem toInt_i64 {a : Int} (h : -9223372036854775808 ≤ a) (h2 : a ≤ 9223372036854775807) : (BitVec.ofInt 64 a).toInt = a := by
  rw [BitVec.toInt_ofInt]
  simp [Int.bmod]
  omega
theorem wrap_toInt (x : BitVec 64) : IntKind.i64.wrap (x.toNat : Int) = x.toInt := by
  rw [IntKind.wrap_i64, BitVec.toInt_eq_toNat_cond]
  have := x.isLt
  split <;> omega
theorem xor_neg {a b : Int} (h : -9223372036854775808 ≤ a) (h2 : a ≤ 9223372036854775807) (h3 : -9223372036854775808 ≤ b) (h4 : b ≤ 9223372036854775807) : decide (bits .xor .i64 a b < 0) = (decide (a < 0) != decide (b < 0)) := by
  have e : bits .xor .i64 a b = (BitVec.ofInt 64 a ^^^ BitVec.ofInt 64 b).toInt := wrap_toInt _
  rw [e, ← BitVec.msb_eq_toInt, BitVec.msb_xor, BitVec.msb_eq_toInt, BitVec.msb_eq_toInt, toInt_i64 h h2, toInt_i64 h3 h4]
theorem xor_range (a b : Int) : -9223372036854775808 ≤ bits .xor .i64 a b ∧ bits .xor .i64 a b ≤ 9223372036854775807 := by
  have e : bits .xor .i64 a b = (BitVec.ofInt 64 a ^^^ BitVec.ofInt 64 b).toInt := wrap_toInt _
  rw [e]
  generalize BitVec.ofInt 64 a ^^^ BitVec.ofInt 64 b = x
  have := x.isLt
  rw [BitVec.toInt_eq_toNat_cond]
  split <;> omega
theorem and_neg {a b : Int} (h : -9223372036854775808 ≤ a) (h2 : a ≤ 9223372036854775807) (h3 : -9223372036854775808 ≤ b) (h4 : b ≤ 9223372036854775807) : decide (bits .and .i64 a b < 0) = (decide (a < 0) && decide (b < 0)) := by
  have e : bits .and .i64 a b = (BitVec.ofInt 64 a &&& BitVec.ofInt 64 b).toInt := wrap_toInt _
  rw [e, ← BitVec.msb_eq_toInt, BitVec.msb_and, BitVec.msb_eq_toInt, BitVec.msb_eq_toInt, toInt_i64 h h2, toInt_i64 h3 h4]
/-- The sum, where it is an int. -/
def addF (a b : Int) : Int × Bool := if -9223372036854775808 ≤ a + b ∧ a + b ≤ 9223372036854775807 then (a + b, true) else (0, false)
theorem fadd_any (a b : Int) (h : -9223372036854775808 ≤ a) (h2 : a ≤ 9223372036854775807) (h3 : -9223372036854775808 ≤ b) (h4 : b ≤ 9223372036854775807) (w : World) : Calls Try.prog 46 #[.int .i64 a, .int .i64 b] w fun x w' => x = .returned (.tuple #[.int .i64 (addF a b).1, .bool (addF a b).2]) ∧ w = w' := by
  obtain ⟨s, hs⟩ : ∃ s, wrap64 (a + b) = s := ⟨_, rfl⟩
  have hsr : -9223372036854775808 ≤ s ∧ s ≤ 9223372036854775807 := by rw [← hs]; unfold wrap64; omega
  have t1 := and_neg (xor_range a s).1 (xor_range a s).2 (xor_range b s).1 (xor_range b s).2
  rw [xor_neg h h2 hsr.1 hsr.2, xor_neg h3 h4 hsr.1 hsr.2] at t1
  by_cases hr : -9223372036854775808 ≤ a + b ∧ a + b ≤ 9223372036854775807
  · have e : addF a b = (s, true) := by unfold addF; rw [if_pos hr, ← hs]; unfold wrap64; congr 1; omega
    have hs' : s = a + b := by rw [← hs]; unfold wrap64; omega
    have t2 : decide (bits .and .i64 (bits .xor .i64 a s) (bits .xor .i64 b s) < 0) = false := by
      rw [t1]
      by_cases ha : a < 0 <;> by_cases hb : b < 0 <;> by_cases hc : s < 0 <;> simp [ha, hb, hc] <;> omega
    rw [e]
    clear e t1 hr hsr h h2 h3 h4 hs'
    go_enter Try.func46, Try.ntmps46
    go_wp2_with fail
    exact bodyPost_ret (v := .tuple #[.int .i64 s, .bool true]) (by simp [results, Try.results46, go_sem, hs]) rfl ⟨rfl, rfl⟩
  · have e : addF a b = (0, false) := by unfold addF; rw [if_neg hr]
    have t2 : decide (bits .and .i64 (bits .xor .i64 a s) (bits .xor .i64 b s) < 0) = true := by
      rw [t1]
      have hs' : s = a + b - 18446744073709551616 ∨ s = a + b + 18446744073709551616 := by rw [← hs]; unfold wrap64; omega
      by_cases ha : a < 0 <;> by_cases hb : b < 0 <;> by_cases hc : s < 0 <;> simp [ha, hb, hc] <;> omega
    rw [e]
    clear e t1 hr hsr h h2 h3 h4
    go_enter Try.func46, Try.ntmps46
    go_wp2_with fail
    exact bodyPost_ret (v := .tuple #[.int .i64 0, .bool false]) (by simp [results, Try.results46, go_sem]) rfl ⟨rfl, rfl⟩
/-- A time in units of a correction, where it is an int. -/
def unitsF (t : Int) : Int × Bool := if t * 65536 ≤ 9223372036854775807 then (t * 65536, true) else (0, false)
theorem fmul_any (t : Int) (h : 0 ≤ t) (h2 : t ≤ 9223372036854775807) (w : World) : Calls Try.prog 64 #[.int .i64 t, .int .i64 65536] w fun x w' => x = .returned (.tuple #[.int .i64 (unitsF t).1, .bool (unitsF t).2]) ∧ w = w' := by
  obtain ⟨T, rfl⟩ : ∃ T : Nat, t = (T : Int) := ⟨t.toNat, by omega⟩
  have sa := fun w => size_any (T : Int) (by omega) h2 w
  have sb := fun w => size_any 65536 (by omega) (by omega) w
  rw [show ((T : Int).natAbs : Int) = (T : Int) by simp] at sa
  rw [show (((65536 : Int).natAbs : Nat) : Int) = 65536 from rfl] at sb
  have mu := fun w => Try.bits_Mul64 T 65536 (by omega) (by omega) w
  have hna : decide ((T : Int) < 0) = false := by simp
  by_cases hh : T * 65536 / 18446744073709551616 = 0
  · have sg := signed_any (T * 65536) false (by omega)
    have e : sgn (T * 65536) false = unitsF T := by
      unfold sgn unitsF
      by_cases hk : T * 65536 < 9223372036854775808
      · rw [if_neg (by decide), if_pos hk, if_pos (by omega)]; simp
      · rw [if_neg (by decide), if_neg hk, if_neg (by omega)]
    have hlo : T * 65536 % 18446744073709551616 = T * 65536 := by omega
    rw [e] at sg
    rw [hh, hlo] at mu
    clear e hh hlo
    generalize unitsF T = r at *
    obtain ⟨r1, r2⟩ := r
    go_enter Try.func64, Try.ntmps64
    go_wp2_with fail
    with_reducible refine (sa _).mono ?_
    rintro e w' ⟨rfl, rfl⟩
    go_wp2_with fail
    with_reducible refine (sb _).mono ?_
    rintro e w' ⟨rfl, rfl⟩
    go_wp2_with fail
    refine (mu _).mono ?_
    rintro e w' ⟨rfl, rfl⟩
    go_wp2_with fail
    refine (sg _).mono ?_
    rintro e w' ⟨rfl, rfl⟩
    go_wp2_with fail
    exact bodyPost_ret (v := .tuple #[.int .i64 r1, .bool r2]) (by simp [results, Try.results64, go_sem]) rfl ⟨rfl, rfl⟩
  · have e : unitsF T = (0, false) := by unfold unitsF; rw [if_neg (by omega)]
    rw [e]
    obtain ⟨H, hH⟩ : ∃ H, T * 65536 / 18446744073709551616 = H := ⟨_, rfl⟩
    rw [hH] at mu hh
    have t1 : ((H : Int) != 0) = true := by simp; omega
    clear e hH
    go_enter Try.func64, Try.ntmps64
    go_wp2_with fail
    with_reducible refine (sa _).mono ?_
    rintro e w' ⟨rfl, rfl⟩
    go_wp2_with fail
    with_reducible refine (sb _).mono ?_
    rintro e w' ⟨rfl, rfl⟩
    go_wp2_with fail
    refine (mu _).mono ?_
    rintro e w' ⟨rfl, rfl⟩
    go_wp2_with fail
    exact bodyPost_ret (v := .tuple #[.int .i64 0, .bool false]) (by simp [results, Try.results64, go_sem]) rfl ⟨rfl, rfl⟩
end Go.Proofs.Ytfpepiabpadjdaa
