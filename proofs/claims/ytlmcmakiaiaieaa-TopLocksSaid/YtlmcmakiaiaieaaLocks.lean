/-
  The walk of TopLocks: a servo with the gain one removes an offset within one span; whatever the offset and the span, the law returns true, and what was there is as it was.
-/
import Derived.Test.YtlmcmakiaiaieaaServo
import Derived.Test.YtlmcmakiaiaieaaStructs
set_option linter.unusedSimpArgs false
set_option linter.unusedVariables false
namespace Go.Proofs.Ytlmcmakiaiaieaa
open Go.RowKit
theorem w64 {n : Int} (h1 : -9223372036854775808 ≤ n) (h2 : n ≤ 9223372036854775807) : wrap64 n = n := by unfold wrap64; omega
theorem shown_flat (time P e : Int) (h1 : -4503599627370496 ≤ time) (h2 : time ≤ 4503599627370496) (p1 : -500000 ≤ P) (p2 : P ≤ 500000) (e0 : 0 ≤ e) (e1 : e ≤ 9007199254740992) (r : Int) : shownF time P 0 r e = time + e + partF e P := by
  have hb := part_bound (n := e) (p := P) (by omega) (by omega) (by omega) (by omega)
  have hs : slewF 0 r = 0 := by simp [slewF]
  have hm : min e 0 = 0 := by omega
  have hz : mdiv 0 (P + sg 0 * r) 1000000000 = (0, true) := by unfold mdiv; simp
  unfold shownF
  rw [hs, hm, hz, Int.sub_zero, w64 (n := e) (by omega) (by omega), part_is (by omega) (by omega) (by omega) (by omega)]
  simp only [Int.add_zero]
  rw [w64 (n := time) (by omega) (by omega), w64 (n := time) (by omega) (by omega), w64 (n := time + e) (by omega) (by omega), w64 (by omega) (by omega)]
def Z0 : CS := ⟨0, 0, 0, 0, 0, 0⟩
theorem okZ : Z0.Ok := by constructor <;> simp [Z0]
theorem freq_zero (e : Int) (e1 : -250000 ≤ e) (e2 : e ≤ 250000) : freqF Z0 0 e = (⟨0, 0, e, 0, 0, 0⟩, 0) := by
  have h : nowF Z0 0 = (0, 0) := by kernel_rfl
  have hm : movedF Z0 0 = ⟨0, 0, 0, 0, 0, 0⟩ := by kernel_rfl
  unfold freqF
  rw [if_pos (by omega), h, hm]
  rfl
theorem now_flat (e span : Int) (e1 : -250000 ≤ e) (e2 : e ≤ 250000) (h1 : 1 ≤ span) (h2 : span ≤ 1099511627776) : nowF ⟨0, 0, e, 0, 0, 0⟩ span = (span + partF span e, 0) := by
  have hb := part_bound (n := span) (p := e) (by omega) (by omega) (by omega) (by omega)
  unfold nowF
  simp only
  rw [if_neg (by omega), if_neg (by omega), Int.sub_zero, shown_flat 0 e span (by omega) (by omega) (by omega) (by omega) (by omega) (by omega), if_pos (insB_iff.2 (by omega))]
  simp
set_option maxHeartbeats 4000000 in
theorem locks_good (offset span : Int) (h1 : 1 ≤ span) (h2 : span ≤ 1099511627776) (h3 : -(span / 4000) ≤ offset) (h4 : offset ≤ span / 4000) (w : World) :
    Calls Try.prog 3 #[.int .i64 offset, .int .i64 span] w fun x w' => x = .returned (.bool true) ∧ Below w.heap.size w w' := by
  obtain ⟨e, he⟩ : ∃ e, offset * 1000000000 / span = e := ⟨_, rfl⟩
  obtain ⟨e1, e2, l1, l2⟩ := locks_plain offset span e h1 h2 h3 h4 he
  have hb := part_bound (n := span) (p := e) (by omega) (by omega) (by omega) (by omega)
  have sv := fun (b : Nat) (w1 : World) (h : Srv w1 b 0 0) => sample_any b offset span e w1 h (by omega) (by omega) h1 (by omega) he (by omega) (by omega)
  have nc := fun w => new_good 0 0 okZ w
  have fq := fun (b : Nat) (w1 : World) (h : Clk w1 b Z0) => freq_any b Z0 0 e w1 h okZ (by omega)
  rw [freq_zero e e1 e2] at fq
  have nw := fun (b : Nat) (w1 : World) (h : Clk w1 b ⟨0, 0, e, 0, 0, 0⟩) => now_any b ⟨0, 0, e, 0, 0, 0⟩ span w1 h (by constructor <;> simp <;> omega) (by omega)
  rw [now_flat e span e1 e2 h1 h2] at nw
  obtain ⟨P, hP⟩ : ∃ P, partF span e = P := ⟨_, rfl⟩
  rw [hP] at nw l1 l2 hb
  have hb1 := hb.1
  have hb2 := hb.2
  clear he hP hb
  have d3 : ¬ offset < -(span / 4000) := by omega
  have d4 : ¬ span / 4000 < offset := by omega
  go_enter Try.func3, Try.ntmps3
  go_wp2_with fail
  refine (servo_new _).mono ?_
  rintro x w1 ⟨b, rfl, hb, hk, hbl1⟩
  go_wp2_with fail
  refine (nc _).mono ?_
  rintro x w2 ⟨c, rfl, hc, hk2, hbl2⟩
  have hk' := hk.below hbl2 hk.lt
  have HB : Kp (Below w.heap.size w w2) := ⟨Below.then hbl1 hbl1.size hbl2⟩
  have HN : Kp (b ≠ c ∧ w.heap.size ≤ b ∧ w.heap.size ≤ c) := ⟨by have := hk.lt; omega, hb, by have := hbl1.size; omega⟩
  clear hbl1 hbl2 hk hb hc
  go_wp2_with fail
  refine (sv b _ hk').mono ?_
  rintro x w3 ⟨rfl, ho⟩
  have hk3 := ho.clk hk2 (Ne.symm HN.out.1)
  have HB3 : Kp (Below w.heap.size w w3) := ⟨HB.out.trans (ho.below HN.out.2.1 HB.out.size)⟩
  clear ho hk' hk2 HB
  go_wp2_with fail
  have hk4 := hk3.below ((Below.refl w3.heap.size w3).alloc (Nat.le_refl _) (.cells #[.int .i64 1, .int .i64 e] 29)) hk3.lt
  refine (fq c _ hk4).mono ?_
  rintro x w4 ⟨rfl, hk5, ho⟩
  have HB4 : Kp (Below w.heap.size w w4) := ⟨(HB3.out.alloc HB3.out.size _).trans (ho.below HN.out.2.2 (by have := HB3.out.size; simp; omega))⟩
  clear ho hk3 hk4 HB3
  go_wp2_with fail
  refine (nw c _ hk5).mono ?_
  rintro x w5 ⟨rfl, hbl⟩
  have HB5 : Kp (Below w.heap.size w w5) := ⟨Below.then HB4.out HB4.out.size hbl⟩
  clear hbl hk5 HB4
  have g1 : (span + P) - offset ≤ span := by omega
  have g2 : span + offset - (span + P) ≤ span / 1000000000 + 1 := by omega
  have g3 : 0 ≤ span + offset - (span + P) := by omega
  go_wp2_with fail
  go_ret
  exact ⟨by simp, HB5.out⟩
set_option maxHeartbeats 2000000 in
theorem locks_early (offset span : Int) (ho : I64 offset) (hs : I64 span) (h : ¬ (1 ≤ span ∧ span ≤ 1099511627776 ∧ -(span / 4000) ≤ offset ∧ offset ≤ span / 4000)) (w : World) :
    Calls Try.prog 3 #[.int .i64 offset, .int .i64 span] w fun x w' => x = .returned (.bool true) ∧ Below w.heap.size w w' := by
  have s1 := hs.1
  have s2 := hs.2
  have o1 := ho.1
  have o2 := ho.2
  clear hs ho
  rcases (show span < 1 ∨ (1 ≤ span ∧ 1099511627776 < span) ∨ (1 ≤ span ∧ span ≤ 1099511627776 ∧ offset < -(span / 4000)) ∨ (1 ≤ span ∧ span ≤ 1099511627776 ∧ -(span / 4000) ≤ offset ∧ span / 4000 < offset) by omega) with h1 | ⟨h1, h2⟩ | ⟨h1, h2, h3⟩ | ⟨h1, h2, h3, h4⟩
  · have t1 : decide (span < 1) = true := by simpa using h1
    clear h
    go_enter Try.func3, Try.ntmps3
    go_wp2_with fail
    go_ret
    exact ⟨by simp, Below.refl _ _⟩
  · have t1 : decide (span < 1) = false := by simp; omega
    have t2 : decide (span > 1099511627776) = true := by simpa using h2
    clear h
    go_enter Try.func3, Try.ntmps3
    go_wp2_with fail
    go_ret
    exact ⟨by simp, Below.refl _ _⟩
  · have t1 : decide (span < 1) = false := by simp; omega
    have t2 : decide (span > 1099511627776) = false := by simp; omega
    have t3 : decide (offset < -(span / 4000)) = true := by simpa using h3
    clear h
    go_enter Try.func3, Try.ntmps3
    go_wp2_with fail
    go_ret
    exact ⟨by simp, Below.refl _ _⟩
  · have t1 : decide (span < 1) = false := by simp; omega
    have t2 : decide (span > 1099511627776) = false := by simp; omega
    have t3 : decide (offset < -(span / 4000)) = false := by simp; omega
    have t4 : decide (offset > span / 4000) = true := by simpa using h4
    clear h
    go_enter Try.func3, Try.ntmps3
    go_wp2_with fail
    go_ret
    exact ⟨by simp, Below.refl _ _⟩
theorem locks_walk (offset span : Int) (ho : I64 offset) (hs : I64 span) (w : World) :
    Calls Try.prog 3 #[.int .i64 offset, .int .i64 span] w fun x w' => x = .returned (.bool true) ∧ Below w.heap.size w w' := by
  by_cases h : 1 ≤ span ∧ span ≤ 1099511627776 ∧ -(span / 4000) ≤ offset ∧ offset ≤ span / 4000
  · exact locks_good offset span h.1 h.2.1 h.2.2.1 h.2.2.2 w
  · exact locks_early offset span ho hs h w
end Go.Proofs.Ytlmcmakiaiaieaa
