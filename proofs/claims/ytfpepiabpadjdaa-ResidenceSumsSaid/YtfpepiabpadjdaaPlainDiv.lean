/-
  Plain arithmetic of a division of two words by one (no program in sight): one digit of base 2^32.
-/
namespace Go.Proofs.Ytfpepiabpadjdaa.PlainDiv

/-- The digit that is sought: q with q*y ≤ N < q*y + y. -/
def Digit (y N q : Nat) : Prop := q * y ≤ N ∧ N < q * y + y

theorem Digit.eq {y N q : Nat} (h : Digit y N q) : q = N / y ∧ N % y = N - q * y := by
  obtain ⟨h1, h2⟩ := h
  have hy : 0 < y := by omega
  have e : N = y * q + (N - q * y) := by rw [Nat.mul_comm y q]; omega
  have hr : N - q * y < y := by omega
  constructor
  · rw [e, Nat.mul_add_div hy, Nat.div_eq_of_lt hr]; omega
  · rw [e, Nat.mul_add_mod, Nat.mod_eq_of_lt hr]; rw [Nat.mul_comm y q]; omega

/-- What holds at the head of the correcting loop. -/
structure Inv (yn1 yn0 un un1 q rhat : Nat) : Prop where
  rem : q * yn1 + rhat = un
  small : rhat < 4294967296
  below : un * 4294967296 + un1 < q * (yn1 * 4294967296 + yn0) + (yn1 * 4294967296 + yn0)
  most : q ≤ 4294967297

theorem prod (q yn1 yn0 : Nat) : q * (yn1 * 4294967296 + yn0) = q * yn1 * 4294967296 + q * yn0 := by
  rw [Nat.mul_add, Nat.mul_assoc]

variable {yn1 yn0 un un1 q rhat : Nat}

theorem Inv.start (h1 : 2147483648 ≤ yn1) (h1' : yn1 < 4294967296) (h0 : yn0 < 4294967296) (hu : un < yn1 * 4294967296 + yn0) (hu1 : un1 < 4294967296) : Inv yn1 yn0 un un1 (un / yn1) (un % yn1) := by
  have hm := Nat.mod_lt un (show yn1 > 0 by omega)
  have hd : un / yn1 * yn1 + un % yn1 = un := by rw [Nat.mul_comm]; exact Nat.div_add_mod un yn1
  refine ⟨hd, by omega, ?_, ?_⟩
  · rw [prod]; omega
  · have : un / yn1 < 4294967298 := (Nat.div_lt_iff_lt_mul (by omega)).2 (by omega)
    omega

/-- The test says no: the digit is found. -/
theorem Inv.done (h : Inv yn1 yn0 un un1 q rhat) (hc : q * yn0 ≤ 4294967296 * rhat + un1) : Digit (yn1 * 4294967296 + yn0) (un * 4294967296 + un1) q := by
  refine ⟨?_, h.below⟩
  have := h.rem
  rw [prod]; omega

theorem Inv.lower (h : Inv yn1 yn0 un un1 q rhat) (hu : un < yn1 * 4294967296 + yn0) (hu1 : un1 < 4294967296) (hc : 4294967296 ≤ q ∨ 4294967296 * rhat + un1 < q * yn0) :
    1 ≤ q ∧ (q - 1) * yn1 + (rhat + yn1) = un ∧ un * 4294967296 + un1 < (q - 1) * (yn1 * 4294967296 + yn0) + (yn1 * 4294967296 + yn0) ∧ q - 1 ≤ 4294967296 := by
  have hq : 1 ≤ q := by
    rcases hc with hc | hc
    · omega
    · rcases Nat.eq_zero_or_pos q with h0 | h0
      · subst h0; simp at hc
      · exact h0
  have hr := h.rem
  have hb := h.below
  rw [prod] at hb
  have hm := h.most
  have hs := h.small
  have e1 : (q - 1) * yn1 + yn1 = q * yn1 := by rw [Nat.sub_mul, Nat.one_mul]; have := Nat.mul_le_mul_right yn1 hq; omega
  have e0 : (q - 1) * yn0 + yn0 = q * yn0 := by rw [Nat.sub_mul, Nat.one_mul]; have := Nat.mul_le_mul_right yn0 hq; omega
  have hw0 : 4294967296 ≤ q → 4294967296 * (yn1 * 4294967296 + yn0) ≤ q * yn1 * 4294967296 + q * yn0 := fun hc => by
    rw [← prod]; exact Nat.mul_le_mul_right _ hc
  rw [prod (q - 1)]
  clear h
  generalize q * yn1 = A at *
  generalize q * yn0 = C at *
  generalize (q - 1) * yn1 = A' at *
  generalize (q - 1) * yn0 = C' at *
  refine ⟨hq, by omega, ?_, by omega⟩
  clear hb
  rcases hc with hc | hc
  · have := hw0 hc; clear hw0; omega
  · clear hw0; omega

theorem Inv.again (h : Inv yn1 yn0 un un1 q rhat) (hu : un < yn1 * 4294967296 + yn0) (hu1 : un1 < 4294967296) (hc : 4294967296 ≤ q ∨ 4294967296 * rhat + un1 < q * yn0) (hs : rhat + yn1 < 4294967296) :
    Inv yn1 yn0 un un1 (q - 1) (rhat + yn1) := by
  obtain ⟨_, a, b, c⟩ := h.lower hu hu1 hc
  exact ⟨a, hs, b, by omega⟩

theorem Inv.out (h : Inv yn1 yn0 un un1 q rhat) (h0 : yn0 < 4294967296) (hu : un < yn1 * 4294967296 + yn0) (hu1 : un1 < 4294967296) (hc : 4294967296 ≤ q ∨ 4294967296 * rhat + un1 < q * yn0) (hs : 4294967296 ≤ rhat + yn1) :
    Digit (yn1 * 4294967296 + yn0) (un * 4294967296 + un1) (q - 1) := by
  obtain ⟨_, a, b, c⟩ := h.lower hu hu1 hc
  refine ⟨?_, b⟩
  rw [prod]
  have : (q - 1) * yn0 ≤ 4294967296 * 4294967295 := Nat.mul_le_mul c (by omega)
  omega

/-- No product and no sum of the test wraps. -/
theorem Inv.fits (h : Inv yn1 yn0 un un1 q rhat) (h0 : yn0 < 4294967296) (hu1 : un1 < 4294967296) : q * yn0 < 18446744073709551616 ∧ 4294967296 * rhat + un1 < 18446744073709551616 := by
  have : q * yn0 ≤ 4294967297 * 4294967295 := Nat.mul_le_mul h.most (by omega)
  have := h.small
  omega

/-- The two digits make the quotient, the rest is that of the whole. -/
theorem two_digits {y un un1 un0 q1 q0 : Nat} (h1 : Digit y (un * 4294967296 + un1) q1) (h0 : Digit y ((un * 4294967296 + un1 - q1 * y) * 4294967296 + un0) q0) :
    (q1 * 4294967296 + q0) * y + ((un * 4294967296 + un1 - q1 * y) * 4294967296 + un0 - q0 * y) = un * 18446744073709551616 + un1 * 4294967296 + un0 := by
  obtain ⟨a, _⟩ := h1
  obtain ⟨b, _⟩ := h0
  rw [Nat.add_mul, Nat.mul_right_comm]
  omega

/-- A digit below the base. -/
theorem Digit.small {y un un1 q : Nat} (h : Digit y (un * 4294967296 + un1) q) (hu : un < y) (hu1 : un1 < 4294967296) : q < 4294967296 := by
  obtain ⟨a, _⟩ := h
  rcases Nat.lt_or_ge q 4294967296 with h | h
  · exact h
  · have : 4294967296 * y ≤ q * y := Nat.mul_le_mul_right _ h
    omega

end Go.Proofs.Ytfpepiabpadjdaa.PlainDiv
