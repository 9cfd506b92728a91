/-
  ResidenceExact's walk.
-/
import Derived.Test.YtfpepiabpadjdaaResL
set_option linter.unusedSimpArgs false
set_option linter.unusedVariables false
namespace Go.Proofs.Ytfpepiabpadjdaa
open Go.RowKit
theorem stayF_ok {i o ppb : Int} (h1 : -4503599627370496 ≤ i) (h2 : i ≤ o) (h3 : o ≤ 4503599627370496) (h4 : o - i ≤ 8589934592) (hp : -500000 ≤ ppb) (hp2 : ppb ≤ 500000) : stayF i o ppb = ((o - i) * 1000000000 / (1000000000 + ppb), 0) := by
  unfold stayF
  rw [if_pos (by simp [inB]; omega), if_neg (by omega)]
  have hc : (0 : Int) < 1000000000 + ppb := by omega
  have h0 : 0 ≤ (o - i) * 1000000000 / (1000000000 + ppb) := Int.ediv_nonneg (by omega) (by omega)
  have hb : (o - i) * 1000000000 / (1000000000 + ppb) ≤ (o - i) * 1000000000 := Int.ediv_le_self _ (by omega)
  unfold mdiv
  rw [if_pos ⟨by omega, by omega⟩]
theorem div_anti {n c d : Int} (hn : 0 ≤ n) (hc : 0 < c) (h : c ≤ d) : n / d ≤ n / c := by
  have h1 : n / d * d ≤ n := Int.ediv_mul_le _ (by omega)
  have h0 : 0 ≤ n / d := Int.ediv_nonneg hn (by omega)
  rw [Int.le_ediv_iff_mul_le hc]
  have : n / d * c ≤ n / d * d := Int.mul_le_mul_of_nonneg_left h h0
  omega
theorem stay_bad {t : Int} (h1 : -4503599627370496 ≤ t) (h3 : t + 1 ≤ 4503599627370496) : stayF (t + 1) t 0 = (0, 12) := by
  unfold stayF
  rw [if_pos (by simp [inB]; omega), if_pos (by omega)]
/-- What the law asks of the four stays. -/
theorem exact_law {i d more x y : Int} (hi : -2147483648 ≤ i ∧ i ≤ 2147483647) (hd : 0 ≤ d ∧ d ≤ 4294967295) (hm : 0 ≤ more ∧ more ≤ 4294967295) (hx : -500000 ≤ x ∧ x ≤ 500000) (hy : -500000 ≤ y ∧ y ≤ 500000) (hxy : x ≤ y) :
    stayF i (i + d) 0 = (d, 0) ∧ stayF (i + d + 1) (i + d) 0 = (0, 12) ∧ ∃ slow fast later, stayF i (i + d) x = (slow, 0) ∧ stayF i (i + d) y = (fast, 0) ∧ stayF i (i + d + more) x = (later, 0) ∧
      fast ≤ slow ∧ slow ≤ later ∧ (0 < x ∨ d ≤ slow) ∧ (y < 0 ∨ fast ≤ d) := by
  have e0 : i + d - i = d := by omega
  have e1 : i + d + more - i = d + more := by omega
  have q0 : d * 1000000000 / 1000000000 = d := Int.mul_ediv_cancel _ (by decide)
  refine ⟨?_, stay_bad (by omega) (by omega), _, _, _, stayF_ok (by omega) (by omega) (by omega) (by omega) hx.1 hx.2, stayF_ok (by omega) (by omega) (by omega) (by omega) hy.1 hy.2, stayF_ok (by omega) (by omega) (by omega) (by omega) hx.1 hx.2, ?_, ?_, ?_, ?_⟩
  · rw [stayF_ok (by omega) (by omega) (by omega) (by omega) (by omega) (by omega), e0]
    show (d * 1000000000 / 1000000000, (0 : Int)) = _
    rw [q0]
  · rw [e0]; exact div_anti (by omega) (by omega) (by omega)
  · rw [e0, e1]; exact Int.ediv_le_ediv (by omega) (by omega)
  · rw [e0]
    by_cases h : 0 < x
    · exact .inl h
    · refine .inr ?_
      have := div_anti (n := d * 1000000000) (c := 1000000000 + x) (d := 1000000000) (by omega) (by omega) (by omega)
      rw [q0] at this
      exact this
  · rw [e0]
    by_cases h : y < 0
    · exact .inl h
    · refine .inr ?_
      have := div_anti (n := d * 1000000000) (c := 1000000000) (d := 1000000000 + y) (by omega) (by omega) (by omega)
      rw [q0] at this
      exact this
theorem tmod_bd (a : Int) : -500000 ≤ a.tmod 500001 ∧ a.tmod 500001 ≤ 500000 := by
  rcases Int.le_total 0 a with h | h
  · have := Int.tmod_eq_emod_of_nonneg h (b := 500001)
    rw [this]; omega
  · have h2 : 0 ≤ -a := by omega
    have := Int.tmod_eq_emod_of_nonneg h2 (b := 500001)
    rw [Int.neg_tmod] at this
    omega
set_option maxHeartbeats 4000000 in
theorem exact_any (i d more a b : Int) (hi : -2147483648 ≤ i ∧ i ≤ 2147483647) (hd : 0 ≤ d ∧ d ≤ 4294967295) (hm : 0 ≤ more ∧ more ≤ 4294967295) (ha : -2147483648 ≤ a ∧ a ≤ 2147483647) (hb : -2147483648 ≤ b ∧ b ≤ 2147483647) (w : World) :
    Calls Try.prog 7 #[.int .i32 i, .int .u32 d, .int .u32 more, .int .i32 a, .int .i32 b] w fun x w' => x = .returned (.bool true) ∧ Below w.heap.size w w' := by
  have ei : wrap64 i = i := by unfold wrap64; omega
  have ed : wrap64 d = d := by unfold wrap64; omega
  have em : wrap64 more = more := by unfold wrap64; omega
  have ea : wrap64 a = a := by unfold wrap64; omega
  have eb : wrap64 b = b := by unfold wrap64; omega
  have eT : wrap64 (i + d) = i + d := by unfold wrap64; omega
  have eM : wrap64 (i + d + more) = i + d + more := by unfold wrap64; omega
  have e1 : wrap64 (i + d + 1) = i + d + 1 := by unfold wrap64; omega
  have aw := fun w => awake_any w
  have hA : -500000 ≤ a.tmod 500001 ∧ a.tmod 500001 ≤ 500000 := tmod_bd a
  have hB : -500000 ≤ b.tmod 500001 ∧ b.tmod 500001 ≤ 500000 := tmod_bd b
  obtain ⟨A, hAe⟩ : ∃ A, a.tmod 500001 = A := ⟨_, rfl⟩
  obtain ⟨B, hBe⟩ : ∃ A, b.tmod 500001 = A := ⟨_, rfl⟩
  have eA : wrap64 (a.tmod 500001) = A := by unfold wrap64; omega
  have eB : wrap64 (b.tmod 500001) = B := by unfold wrap64; omega
  have eA' : wrap64 A = A := by unfold wrap64; omega
  have eB' : wrap64 B = B := by unfold wrap64; omega
  rw [hAe] at hA
  rw [hBe] at hB
  have H : ∃ x y, min A B = x ∧ max A B = y ∧ x ≤ y ∧ (-500000 ≤ x ∧ x ≤ 500000) ∧ (-500000 ≤ y ∧ y ≤ 500000) := ⟨_, _, rfl, rfl, by omega, by omega, by omega⟩
  obtain ⟨x, y, hx, hy, hxy, hxr, hyr⟩ := H
  obtain ⟨p1, p5, slow, fast, later, p2, p3, p4, l1, l2, l3, l4⟩ := exact_law hi hd hm hxr hyr hxy
  have c1 := fun w => stay_any i (i + d) 0 w
  have c2 := fun w => stay_any i (i + d) x w
  have c3 := fun w => stay_any i (i + d) y w
  have c4 := fun w => stay_any i (i + d + more) x w
  have c5 := fun w => stay_any (i + d + 1) (i + d) 0 w
  rw [p1] at c1
  rw [p2] at c2
  rw [p3] at c3
  rw [p4] at c4
  rw [p5] at c5
  unfold SPost at c1 c2 c3 c4 c5
  have ex : wrap64 x = x := by unfold wrap64; omega
  have ey : wrap64 y = y := by unfold wrap64; omega
  clear p1 p2 p3 p4 p5 hi hd hm ha hb hA hB hxy hxr hyr
  have t1 : decide (fast ≤ slow) = true := by simpa using l1
  have t2 : decide (slow ≤ later) = true := by simpa using l2
  have L := Kp.mk (And.intro l3 l4)
  clear l1 l2 l3 l4
  go_enter Try.func7, Try.ntmps7
  go_upto_region 2 with fail
  go_wp2_with fail
  refine (c1 _).mono ?_
  rintro e w1 ⟨rfl, hX⟩
  have HB := hX
  clear hX
  go_wp2_with fail
  refine (c2 _).mono ?_
  rintro e w2 ⟨rfl, hX⟩
  have HB := Below.then HB HB.size hX
  clear hX
  go_wp2_with fail
  refine (c3 _).mono ?_
  rintro e w3 ⟨rfl, hX⟩
  have HB := Below.then HB HB.size hX
  clear hX
  go_wp2_with fail
  refine (c4 _).mono ?_
  rintro e w4 ⟨rfl, hX⟩
  have HB := Below.then HB HB.size hX
  clear hX
  go_wp2_with fail
  refine (c5 _).mono ?_
  rintro e w5 ⟨rfl, hX⟩
  have HB := Below.then HB HB.size hX
  clear hX
  have HB := Kp.mk HB
  rcases L.out with ⟨l3, l4⟩
  rcases Int.lt_or_le 0 x with h3 | h3
  · have t3 : decide (0 < x) = true := by simpa using h3
    clear h3 l3
    rcases Int.lt_or_le y 0 with h4 | h4
    · as_aux_lemma =>
      have t4 : decide (y < 0) = true := by simpa using h4
      clear h4 l4
      go_wp2_with fail
      refine (aw _).mono ?_
      rintro e w6 ⟨rfl, hX⟩
      have HB := Below.then HB.out HB.out.size hX
      clear hX
      go_wp2_with fail
      go_ret
      exact ⟨rfl, HB⟩
    · as_aux_lemma =>
      have t4 : decide (y < 0) = false := by simpa using h4
      have t6 : decide (fast ≤ d) = true := by simp; omega
      clear h4 l4
      go_wp2_with fail
      refine (aw _).mono ?_
      rintro e w6 ⟨rfl, hX⟩
      have HB := Below.then HB.out HB.out.size hX
      clear hX
      go_wp2_with fail
      go_ret
      exact ⟨rfl, HB⟩
  · have t3 : decide (0 < x) = false := by simpa using h3
    have t5 : decide (d ≤ slow) = true := by simp; omega
    clear h3 l3
    rcases Int.lt_or_le y 0 with h4 | h4
    · as_aux_lemma =>
      have t4 : decide (y < 0) = true := by simpa using h4
      clear h4 l4
      go_wp2_with fail
      refine (aw _).mono ?_
      rintro e w6 ⟨rfl, hX⟩
      have HB := Below.then HB.out HB.out.size hX
      clear hX
      go_wp2_with fail
      go_ret
      exact ⟨rfl, HB⟩
    · as_aux_lemma =>
      have t4 : decide (y < 0) = false := by simpa using h4
      have t6 : decide (fast ≤ d) = true := by simp; omega
      clear h4 l4
      go_wp2_with fail
      refine (aw _).mono ?_
      rintro e w6 ⟨rfl, hX⟩
      have HB := Below.then HB.out HB.out.size hX
      clear hX
      go_wp2_with fail
      go_ret
      exact ⟨rfl, HB⟩
end Go.Proofs.Ytfpepiabpadjdaa
