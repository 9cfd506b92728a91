/-
  The plain law of slewing: when a slew has ended, the time shown differs from the one of a clock that was not slewed by at least delta - 2 and at most delta + 1.
-/
import Derived.Test.YtnfkffaogidleaaCall10
set_option linter.unusedSimpArgs false
set_option linter.unusedVariables false
namespace Go.Proofs.Ytnfkffaogidleaa
open Go.RowKit
theorem w64 {n : Int} (h1 : -9223372036854775808 ≤ n) (h2 : n ≤ 9223372036854775807) : wrap64 n = n := by unfold wrap64; omega
theorem nowF_is {s : CS} {raw t : Int} (h : nowF s raw = (t, 0)) : s.raw ≤ raw ∧ raw ≤ 4503599627370496 ∧ t = shownF s.time s.ppb s.left s.rate (raw - s.raw) ∧ -4503599627370496 ≤ t ∧ t ≤ 4503599627370496 := by
  unfold nowF at h
  split at h
  · simp at h
  · split at h
    · simp at h
    · split at h
      · rename_i hi
        have := insB_iff.1 hi
        simp only [Prod.mk.injEq, and_true] at h
        rw [h] at this
        exact ⟨by omega, by omega, h.symm, this.1, this.2⟩
      · simp at h
theorem shown_flat (time P e : Int) (h1 : -4503599627370496 ≤ time) (h2 : time ≤ 4503599627370496) (p1 : -500000 ≤ P) (p2 : P ≤ 500000) (e0 : 0 ≤ e) (e1 : e ≤ 9007199254740992) (r : Int) : shownF time P 0 r e = time + e + partF e P := by
  have hb := part_bound (n := e) (p := P) (by omega) (by omega) (by omega) (by omega)
  have hs : slewF 0 r = 0 := by simp [slewF]
  have hm : min e 0 = 0 := by omega
  have hz : mdiv 0 (P + sg 0 * r) 1000000000 = (0, true) := by unfold mdiv; simp
  unfold shownF
  rw [hs, hm, hz, Int.sub_zero, w64 (n := e) (by omega) (by omega), part_is (by omega) (by omega) (by omega) (by omega)]
  simp only [Int.add_zero]
  rw [w64 (n := time) (by omega) (by omega), w64 (n := time) (by omega) (by omega), w64 (n := time + e) (by omega) (by omega), w64 (by omega) (by omega)]
/-- A slew that has ended. -/
theorem shown_ended (time P A B e L : Int) (h1 : -4503599627370496 ≤ time) (h2 : time ≤ 4503599627370496) (p1 : -500000 ≤ P) (p2 : P ≤ 500000) (e1 : e ≤ 9007199254740992) (hL : slewF A B = L) (hL0 : 0 ≤ L) (hLe : L ≤ e) (b0 : 0 ≤ B) (b1 : B ≤ 500000) :
    shownF time P A B e = time + e + partF L (P + sg A * B) + partF (e - L) P := by
  have hg := sg_bound A
  have hq : -500000 ≤ sg A * B ∧ sg A * B ≤ 500000 := by rcases (show sg A = -1 ∨ sg A = 0 ∨ sg A = 1 by omega) with h | h | h <;> rw [h] <;> omega
  have hb1 := part_bound (n := L) (p := P + sg A * B) (by omega) (by omega) (by omega) (by omega)
  have hb2 := part_bound (n := e - L) (p := P) (by omega) (by omega) (by omega) (by omega)
  have hm : min e L = L := by omega
  unfold shownF
  rw [hL, hm, w64 (n := e - L) (by omega) (by omega), part_is (n := L) (by omega) (by omega) (by omega) (by omega), part_is (n := e - L) (by omega) (by omega) (by omega) (by omega)]
  simp only []
  generalize partF L (P + sg A * B) = x1 at *
  generalize partF (e - L) P = x2 at *
  rw [w64 (n := time + L) (by omega) (by omega), w64 (n := time + L + x1) (by omega) (by omega), w64 (n := time + L + x1 + (e - L)) (by omega) (by omega), w64 (n := time + L + x1 + (e - L) + x2) (by omega) (by omega)]
  omega
/-- The length of a slew whose whole is reached within e. -/
theorem length_of (A B e : Int) (hA : A ≠ 0) (hB : 1 ≤ B) (hB2 : B ≤ 500000) (e0 : 0 ≤ e) (e1 : e ≤ 9007199254740992) (hr : sg A * A ≤ partF e B) :
    ∃ L, slewF A B = L ∧ 0 ≤ L ∧ L ≤ e ∧ ∃ d, 0 ≤ d ∧ d < B ∧ L * B = sg A * A * 1000000000 + d := by
  have hp : 0 ≤ sg A * A := by unfold sg; split <;> (try split) <;> omega
  obtain ⟨x, hx⟩ : ∃ x, sg A * A = x := ⟨_, rfl⟩
  have hn : -sg A * A = -x := by rw [Int.neg_mul, hx]
  rw [hx] at hr hp ⊢
  unfold partF at hr
  have hr2 : x * 1000000000 ≤ e * B := by
    generalize e * B = y at *
    omega
  -- the floor of -x * 10^9 / B
  obtain ⟨q, hq⟩ : ∃ q, -x * 1000000000 / B = q := ⟨_, rfl⟩
  have hd := Int.emod_add_mul_ediv (-x * 1000000000) B
  have hm0 := Int.emod_nonneg (-x * 1000000000) (show B ≠ 0 by omega)
  have hm1 := Int.emod_lt_of_pos (-x * 1000000000) (show 0 < B by omega)
  rw [hq] at hd
  have hqe : -e ≤ q := by
    rw [← hq]
    refine (Int.le_ediv_iff_mul_le (by omega)).2 ?_
    rw [Int.neg_mul]; omega
  have hq0 : q ≤ 0 := by
    have : q * B ≤ 0 := by rw [Int.mul_comm]; omega
    rcases Int.lt_or_le 0 q with h | h
    · have := Int.mul_pos h (show 0 < B by omega)
      omega
    · exact h
  have hs : slewF A B = -q := by
    unfold slewF
    have hmd : mdiv (-sg A * A) 1000000000 B = (q, true) := by
      unfold mdiv
      rw [hn, hq, if_pos (by omega)]
    rw [if_neg hA, hmd]
    simp only [if_true]
    exact w64 (by omega) (by omega)
  refine ⟨-q, hs, by omega, by omega, -x * 1000000000 % B, hm0, hm1, ?_⟩
  rw [Int.neg_mul, Int.mul_comm q B]
  omega
theorem slews_plain (A B P L e d : Int) (hL : L * B = sg A * A * 1000000000 + d) (d0 : 0 ≤ d) (d1 : d < B) (hB2 : B ≤ 500000) (hA : A ≠ 0) :
    A - 2 ≤ partF L (P + sg A * B) + partF (e - L) P - partF e P ∧ partF L (P + sg A * B) + partF (e - L) P - partF e P ≤ A + 1 := by
  unfold partF
  have hs : sg A = 1 ∨ sg A = -1 := by unfold sg; split <;> (try split) <;> omega
  have h2 : (e - L) * P = e * P - L * P := Int.sub_mul ..
  rw [h2]
  rcases hs with hs | hs
  · have h3 : L * (P + sg A * B) = L * P + L * B := by rw [hs, Int.one_mul, Int.mul_add]
    have h4 : sg A * A = A := by rw [hs, Int.one_mul]
    rw [h3, hL, h4]
    generalize L * P = x
    generalize e * P = y
    omega
  · have h3 : L * (P + sg A * B) = L * P - L * B := by rw [hs, Int.neg_one_mul, Int.mul_add, Int.mul_neg]; omega
    have h4 : sg A * A = -A := by rw [hs, Int.neg_one_mul]
    rw [h3, hL, h4]
    generalize L * P = x
    generalize e * P = y
    omega
/-- The law. -/
theorem slews_law (m : CS) (ok : m.Ok) (A B later t u : Int) (hA1 : -4503599627370496 ≤ A) (hA2 : A ≤ 4503599627370496) (hB1 : 1 ≤ B) (hB2 : B ≤ 500000) (hp : pendF { m with left := A, rate := if A = 0 then 0 else B } later = 0)
    (ht : nowF { m with left := A, rate := if A = 0 then 0 else B } later = (t, 0)) (hu : nowF { m with left := 0, rate := 0 } later = (u, 0)) : A - 2 ≤ t - u ∧ t - u ≤ A + 1 := by
  obtain ⟨r1, r2, et, t1, t2⟩ := nowF_is ht
  obtain ⟨_, _, eu, u1, u2⟩ := nowF_is hu
  simp only at *
  have hraw1 := ok.raw1
  have hraw2 := ok.raw2
  rw [shown_flat _ _ _ ok.time1 ok.time2 ok.ppb1 ok.ppb2 (by omega) (by omega)] at eu
  by_cases hA : A = 0
  · subst hA
    simp only [if_true] at et
    rw [shown_flat _ _ _ ok.time1 ok.time2 ok.ppb1 ok.ppb2 (by omega) (by omega)] at et
    omega
  · rw [if_neg hA] at et hp ht
    obtain ⟨e, he⟩ : ∃ e, later - m.raw = e := ⟨_, rfl⟩
    rw [he] at et eu
    have hreach : sg A * A ≤ partF e B := by
      unfold pendF at hp
      rw [ht] at hp
      simp only [if_true, movedF] at hp
      rw [he] at hp
      have pb := part_bound (n := e) (p := B) (by omega) (by omega) (by omega) (by omega)
      rw [part_is (by omega) (by omega) (by omega) (by omega)] at hp
      simp only at hp
      have hp0 : 0 ≤ partF e B := by unfold partF; exact Int.ediv_nonneg (Int.mul_nonneg (by omega) (by omega)) (by omega)
      have hs : (sg A = 1 ∧ 0 < A) ∨ (sg A = -1 ∧ A < 0) := by unfold sg; split <;> (try split) <;> omega
      rcases hs with ⟨hs, hpos⟩ | ⟨hs, hpos⟩
      · rw [hs, Int.one_mul, Int.one_mul] at hp
        rw [hs, Int.one_mul]
        rw [w64 (n := min A (partF e B)) (by omega) (by omega), w64 (by omega) (by omega)] at hp
        omega
      · rw [hs, Int.neg_one_mul, Int.neg_one_mul] at hp
        rw [hs, Int.neg_one_mul]
        rw [w64 (n := -min (-A) (partF e B)) (by omega) (by omega), w64 (by omega) (by omega)] at hp
        omega
    obtain ⟨L, hL, hL0, hLe, d, d0, d1, hd⟩ := length_of A B e hA hB1 hB2 (by omega) (by omega) hreach
    rw [shown_ended m.time m.ppb A B e L ok.time1 ok.time2 ok.ppb1 ok.ppb2 (by omega) hL hL0 hLe (by omega) hB2] at et
    have := slews_plain A B m.ppb L e d hd d0 d1 hB2 hA
    omega
end Go.Proofs.Ytnfkffaogidleaa
