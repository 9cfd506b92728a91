/-
  Plain arithmetic on two-word numbers: what a uint64 wraps to along the division of two words by one.
-/
import Derived.Test.YtfpepiabpadjdaaPlainDiv
import Derived.Laws.Bits64b
import Derived.Laws.BitsAllLaws
namespace Go.Proofs.Ytfpepiabpadjdaa
open PlainDiv
theorem wrap_u {a : Nat} (h : a < 18446744073709551616) : IntKind.u64.wrap (a : Int) = a := by
  rw [IntKind.wrap_u64]; omega
theorem w_mod (a : Int) : IntKind.u64.wrap a = a % 18446744073709551616 := IntKind.wrap_u64 a
theorem rest_wraps {un un1 q Y : Nat} (hd : Digit Y (un * 4294967296 + un1) q) (hY : Y < 18446744073709551616) :
    IntKind.u64.wrap (IntKind.u64.wrap (IntKind.u64.wrap ((un : Int) * 4294967296) + (un1 : Int)) - IntKind.u64.wrap ((q : Int) * (Y : Int))) = ((un * 4294967296 + un1 - q * Y : Nat) : Int) := by
  obtain ⟨a, b⟩ := hd
  simp only [w_mod, Int.emod_add_emod, Int.emod_sub_emod, Int.sub_emod_emod]
  rw [← Int.natCast_mul]
  generalize q * Y = P at *
  have : ((un * 4294967296 + un1 - P : Nat) : Int) = (un : Int) * 4294967296 + un1 - P := by omega
  rw [← this]
  exact Int.emod_eq_of_lt (by omega) (by omega)
theorem quo_wraps {un yn1 : Nat} (h : un < 18446744073709551616) : IntKind.u64.wrap ((un : Int) / (yn1 : Int)) = ((un / yn1 : Nat) : Int) := by
  rw [← Int.natCast_ediv]
  exact wrap_u (Nat.lt_of_le_of_lt (Nat.div_le_self _ _) h)
theorem rem_wraps {un yn1 : Nat} (h : un < 18446744073709551616) (hy : 0 < yn1) : IntKind.u64.wrap ((un : Int) - IntKind.u64.wrap (((un / yn1 : Nat) : Int) * (yn1 : Int))) = ((un % yn1 : Nat) : Int) := by
  have e : ((un % yn1 : Nat) : Int) = (un : Int) - ((un / yn1 : Nat) : Int) * (yn1 : Int) := by
    have := Nat.div_add_mod un yn1
    rw [Nat.mul_comm] at this
    rw [← Int.natCast_mul]
    omega
  have hl := Nat.mod_lt un hy
  have hm := Nat.mod_le un yn1
  simp only [w_mod, Int.sub_emod_emod]
  rw [← e]
  exact Int.emod_eq_of_lt (by omega) (by omega)
theorem and_wraps (Y : Nat) (h : Y < 18446744073709551616) : bits BinOp.and IntKind.u64 (Y : Int) 4294967295 = ((Y % 4294967296 : Nat) : Int) := by
  have := u64_and_nat Y 4294967295 h (by omega)
  rw [show (4294967295 : Nat) = 2 ^ 32 - 1 from rfl, Nat.and_two_pow_sub_one_eq_mod] at this
  exact this
theorem shl_wraps {x s : Nat} (h : x * 2 ^ s < 18446744073709551616) : IntKind.u64.wrap ((x : Int) * 2 ^ s) = ((x * 2 ^ s : Nat) : Int) := by
  rw [show (x : Int) * 2 ^ s = ((x * 2 ^ s : Nat) : Int) by simp]
  exact wrap_u h
theorem shl_mod (x s : Nat) : IntKind.u64.wrap ((x : Int) * 2 ^ s) = ((x * 2 ^ s % 18446744073709551616 : Nat) : Int) := by
  rw [show (x : Int) * 2 ^ s = ((x * 2 ^ s : Nat) : Int) by simp, w_mod]
  omega
theorem high_part {lo s : Nat} (hs : s ≤ 63) (hl : lo < 18446744073709551616) : lo / 2 ^ (64 - s) < 2 ^ s := by
  rw [Nat.div_lt_iff_lt_mul (Nat.pow_pos (by omega)), ← Nat.pow_add, show s + (64 - s) = 64 by omega]
  exact hl
theorem or_wraps {hi lo s : Nat} (hs : s ≤ 63) (hl : lo < 18446744073709551616) (hh : hi * 2 ^ s < 18446744073709551616) :
   bits BinOp.or IntKind.u64 (IntKind.u64.wrap ((hi : Int) * 2 ^ s)) ((lo : Int) / 2 ^ (64 - s)) = ((hi * 2 ^ s + lo / 2 ^ (64 - s) : Nat) : Int) := by
  have hp := high_part hs hl
  have h2 : lo / 2 ^ (64 - s) < 18446744073709551616 := Nat.lt_of_le_of_lt (Nat.div_le_self _ _) hl
  rw [shl_wraps hh, show (lo : Int) / 2 ^ (64 - s) = ((lo / 2 ^ (64 - s) : Nat) : Int) by simp, u64_or_nat _ _ hh h2]
  rw [Nat.mul_comm hi, ← Nat.two_pow_add_eq_or_of_lt hp]
/-- The two words, shifted. -/
theorem shifted {hi lo s : Nat} (hs : s ≤ 63) : (hi * 18446744073709551616 + lo) * 2 ^ s = (hi * 2 ^ s + lo / 2 ^ (64 - s)) * 18446744073709551616 + lo * 2 ^ s % 18446744073709551616 := by
  have e : lo * 2 ^ s / 18446744073709551616 = lo / 2 ^ (64 - s) := by
    rw [show (18446744073709551616 : Nat) = 2 ^ (64 - s) * 2 ^ s by rw [← Nat.pow_add, show 64 - s + s = 64 by omega]]
    exact Nat.mul_div_mul_right _ _ (Nat.pow_pos (by omega))
  have d := Nat.div_add_mod (lo * 2 ^ s) 18446744073709551616
  rw [e] at d
  rw [Nat.add_mul, Nat.mul_right_comm, Nat.add_mul]
  omega
theorem normal {hi y s : Nat} {lo : Nat} (hs : s ≤ 63) (hh : hi < y) (hl : lo < 18446744073709551616) : hi * 2 ^ s + lo / 2 ^ (64 - s) < y * 2 ^ s := by
  have := Nat.mul_le_mul_right (2 ^ s) (show hi + 1 ≤ y from hh)
  rw [Nat.add_mul, Nat.one_mul] at this
  have := high_part hs hl
  omega
/-- The quotient and the remainder out of the two digits. -/
theorem whole_core {W y p un L un1 un0 q1 q0 u21 R : Nat} (hp : 0 < p) (e : W * p = un * 18446744073709551616 + L) (hL : L = un1 * 4294967296 + un0)
    (h1 : Digit (y * p) (un * 4294967296 + un1) q1) (hu : un * 4294967296 + un1 - q1 * (y * p) = u21) (h0 : Digit (y * p) (u21 * 4294967296 + un0) q0)
    (hR : u21 * 4294967296 + un0 - q0 * (y * p) = R) : q1 * 4294967296 + q0 = W / y ∧ R / p = W % y := by
  have hRl : R < y * p := by rw [← hR]; exact Nat.sub_lt_left_of_lt_add h0.1 h0.2
  obtain ⟨a1, _⟩ := h1
  obtain ⟨a0, _⟩ := h0
  have key : (q1 * 4294967296 + q0) * (y * p) + R = W * p := by
    have x1 : un * 4294967296 + un1 = q1 * (y * p) + u21 := by grind
    have x0 : u21 * 4294967296 + un0 = q0 * (y * p) + R := by grind
    have x2 : (un * 4294967296 + un1) * 4294967296 = un * 18446744073709551616 + un1 * 4294967296 := by rw [Nat.add_mul, Nat.mul_assoc]
    rw [x1, Nat.add_mul] at x2
    rw [e, hL, Nat.add_mul, Nat.mul_right_comm q1]
    clear hu hR a1 a0 e hL x1 hRl
    grind
  have D : Digit (y * p) (W * p) (q1 * 4294967296 + q0) := by
    constructor
    · rw [← key]; exact Nat.le_add_right ..
    · rw [← key]; exact Nat.add_lt_add_left hRl _
  obtain ⟨d1, d2⟩ := D.eq
  rw [Nat.mul_div_mul_right _ _ hp] at d1
  rw [Nat.mul_mod_mul_right, ← key, Nat.add_sub_cancel_left] at d2
  exact ⟨d1, by rw [← d2, Nat.mul_div_cancel _ hp]⟩
end Go.Proofs.Ytfpepiabpadjdaa
