/-
  The contracts of the inner functions of package sysclock: inside, sign, part, slew, shown.
-/
import Derived.Test.YtlmcmakiaiaieaaFixed
import Derived.Below
set_option linter.unusedSimpArgs false
set_option linter.unusedVariables false
namespace Go.Proofs.Ytlmcmakiaiaieaa
open Go.RowKit
def insB (n : Int) : Bool := decide (-4503599627370496 ≤ n ∧ n ≤ 4503599627370496)
theorem inside_any (n : Int) (w : World) : Calls Try.prog 26 #[.int .i64 n] w fun e w' => e = .returned (.bool (insB n)) ∧ w = w' := by
  by_cases h1 : -4503599627370496 ≤ n
  · by_cases h2 : n ≤ 4503599627370496
    · have e : insB n = true := by simp [insB]; omega
      rw [e]; clear e
      go_enter Try.func26, Try.ntmps26
      go_wp2
      go_ret
      exact ⟨by simp [h2], rfl⟩
    · have e : insB n = false := by simp [insB]; omega
      rw [e]; clear e
      go_enter Try.func26, Try.ntmps26
      go_wp2
      go_ret
      exact ⟨by simp [h2], rfl⟩
  · have e : insB n = false := by simp [insB]; omega
    rw [e]; clear e
    go_enter Try.func26, Try.ntmps26
    go_wp2
    go_ret
    exact ⟨by simp [h1], rfl⟩
def sg (n : Int) : Int := if 0 < n then 1 else if n < 0 then -1 else 0
theorem sign_any (n : Int) (w : World) : Calls Try.prog 39 #[.int .i64 n] w fun e w' => e = .returned (.int .i64 (sg n)) ∧ w = w' := by
  by_cases h1 : 0 < n
  · have e : sg n = 1 := by simp [sg, h1]
    rw [e]; clear e
    go_enter Try.func39, Try.ntmps39
    go_wp2
    go_ret
    exact ⟨rfl, rfl⟩
  · by_cases h2 : n < 0
    · have e : sg n = -1 := by simp [sg, h1, h2]
      rw [e]; clear e
      go_enter Try.func39, Try.ntmps39
      go_wp2
      go_ret
      exact ⟨rfl, rfl⟩
    · have e : sg n = 0 := by simp [sg, h1, h2]
      rw [e]; clear e
      go_enter Try.func39, Try.ntmps39
      go_wp2
      go_ret
      exact ⟨rfl, rfl⟩
def partF (n p : Int) : Int := n * p / 1000000000
theorem part_bound {n p : Int} (h1 : -36028797018963968 ≤ n) (h2 : n ≤ 36028797018963968) (h3 : -2000000 ≤ p) (h4 : p ≤ 2000000) : -72057594037928 ≤ partF n p ∧ partF n p ≤ 72057594037928 := by
  have a : (n * p).natAbs ≤ 36028797018963968 * 2000000 := by
    rw [Int.natAbs_mul]
    exact Nat.mul_le_mul (by omega) (by omega)
  unfold partF
  generalize n * p = x at *
  omega
theorem part_is {n p : Int} (h1 : -36028797018963968 ≤ n) (h2 : n ≤ 36028797018963968) (h3 : -2000000 ≤ p) (h4 : p ≤ 2000000) : mdiv n p 1000000000 = (partF n p, true) := by
  have := part_bound h1 h2 h3 h4
  unfold partF at *
  unfold mdiv
  rw [if_pos (by omega)]
theorem mdiv_i64 (a b c : Int) : -9223372036854775808 ≤ (mdiv a b c).1 ∧ (mdiv a b c).1 ≤ 9223372036854775807 := by
  unfold mdiv; split <;> simp; omega
theorem part_any (n p : Int) (h1 : -9223372036854775808 ≤ n) (h2 : n ≤ 9223372036854775807) (h3 : -9223372036854775808 ≤ p) (h4 : p ≤ 9223372036854775807) (w : World) :
    Calls Try.prog 38 #[.int .i64 n, .int .i64 p] w fun e w' => e = .returned (.int .i64 (mdiv n p 1000000000).1) ∧ ∃ k, w' = w.drewN k := by
  have md := muldiv_any n p 1000000000 h1 h2 h3 h4 (by omega) (by omega) w
  unfold MulPost at md
  clear h1 h2 h3 h4
  generalize mdiv n p 1000000000 = v at *
  go_enter Try.func38, Try.ntmps38
  go_wp2_with (go_at_call 34; refine md.mono ?_; rintro e w' ⟨rfl, k, rfl⟩)
  go_ret
  exact ⟨rfl, k, rfl⟩
/-- The length of a slew, as the code reckons it. -/
def slewF (left rate : Int) : Int := if left = 0 then 0 else if (mdiv (-sg left * left) 1000000000 rate).2 = true then wrap64 (-(mdiv (-sg left * left) 1000000000 rate).1) else 9223372036854775807
theorem slewF_i64 (left rate : Int) : -9223372036854775808 ≤ slewF left rate ∧ slewF left rate ≤ 9223372036854775807 := by
  unfold slewF; split
  · omega
  · split
    · unfold wrap64; omega
    · omega
theorem sg_bound (n : Int) : -1 ≤ sg n ∧ sg n ≤ 1 := by unfold sg; split <;> (try split) <;> omega
theorem sg_mul {n m : Int} (h : -m ≤ n) (h2 : n ≤ m) : -m ≤ -sg n * n ∧ -sg n * n ≤ 0 := by unfold sg; split <;> (try split) <;> omega
theorem quiet_below {w w1 : World} {k : Nat} (h : Below w.heap.size w w1) : Below w.heap.size w (w1.drewN k) := Below.drewN h k
set_option maxHeartbeats 1000000 in
theorem slew_any (b : Nat) (raw time ppb left rate steps : Int) (w : World)
    (c0 : w.cell? ⟨b, 0, none⟩ = some (.int .i64 raw)) (c1 : w.cell? ⟨b, 1, none⟩ = some (.int .i64 time)) (c2 : w.cell? ⟨b, 2, none⟩ = some (.int .i64 ppb)) (c3 : w.cell? ⟨b, 3, none⟩ = some (.int .i64 left)) (c4 : w.cell? ⟨b, 4, none⟩ = some (.int .i64 rate)) (c5 : w.cell? ⟨b, 5, none⟩ = some (.int .i64 steps))
    (hl1 : -4503599627370496 ≤ left) (hl2 : left ≤ 4503599627370496) (hr2 : rate ≤ 500000) (hlr : left ≠ 0 → 0 < rate) :
    Calls Try.prog 37 #[.pointer (some ⟨b, 0, none⟩)] w fun e w' => e = .returned (.int .i64 (slewF left rate)) ∧ Below w.heap.size w w' := by
  by_cases hz : left = 0
  · have e : slewF left rate = 0 := by simp [slewF, hz]
    rw [e]; clear e
    subst hz
    go_enter Try.func37, Try.ntmps37
    go_wp2
    go_ret
    exact ⟨rfl, (Below.refl _ _).alloc (Nat.le_refl _) _⟩
  · have hr0 := hlr hz
    have hn1 := sg_mul (n := left) (m := 4503599627370496) hl1 hl2
    have md := fun w => muldiv_any (-sg left * left) 1000000000 rate (by omega) (by omega) (by omega) (by omega) hr0 (by omega) w
    have sn := sign_any left
    have e : slewF left rate = if (mdiv (-sg left * left) 1000000000 rate).2 = true then wrap64 (-(mdiv (-sg left * left) 1000000000 rate).1) else 9223372036854775807 := by unfold slewF; rw [if_neg hz]
    rw [e]; clear e
    obtain ⟨v, hv⟩ : ∃ v, mdiv (-sg left * left) 1000000000 rate = v := ⟨_, rfl⟩
    obtain ⟨v1, v2⟩ := v
    unfold MulPost at md
    rw [hv] at md ⊢
    clear hv
    have hsb := sg_bound left
    obtain ⟨s, hs⟩ : ∃ s, sg left = s := ⟨_, rfl⟩
    rw [hs] at md sn hn1 hsb
    clear hs hlr
    obtain ⟨x, hx⟩ : ∃ x, -s * left = x := ⟨_, rfl⟩
    rw [hx] at md hn1
    have t1 : (left == 0) = false := by simpa using hz
    have ex : wrap64 (-s * left) = x := by rw [hx]; unfold wrap64; omega
    have hsb1 := hsb.1
    have hsb2 := hsb.2
    clear hx hsb hn1 hl1 hl2 hr2 hr0 hz
    cases v2 with
    | true =>
      go_enter Try.func37, Try.ntmps37
      go_wp2
      go_quiet ((first | (go_at_call 39; exact qs (sn _)) | (go_at_call 34; exact qd (md _))))
      go_wp2
      go_ret
      exact ⟨rfl, quiet_below ((Below.refl _ _).alloc (Nat.le_refl _) _)⟩
    | false =>
      go_enter Try.func37, Try.ntmps37
      go_wp2
      go_quiet ((first | (go_at_call 39; exact qs (sn _)) | (go_at_call 34; exact qd (md _))))
      go_wp2
      go_ret
      exact ⟨rfl, quiet_below ((Below.refl _ _).alloc (Nat.le_refl _) _)⟩
/-- The time shown e ns after the state, as the code reckons it. -/
def shownF (time ppb left rate e : Int) : Int :=
  wrap64 (wrap64 (wrap64 (wrap64 (time + min e (slewF left rate)) + (mdiv (min e (slewF left rate)) (ppb + sg left * rate) 1000000000).1) + wrap64 (e - min e (slewF left rate))) + (mdiv (wrap64 (e - min e (slewF left rate))) ppb 1000000000).1)
theorem loc6 {w W : World} {v0 v1 v2 v3 v4 v5 : Value} {t : TypeId} (h : Below (w.alloc (.cells #[v0, v1, v2, v3, v4, v5] t)).heap.size (w.alloc (.cells #[v0, v1, v2, v3, v4, v5] t)) W) :
    (W.cell? ⟨w.heap.size, 0, none⟩ = some v0 ∧ W.cell? ⟨w.heap.size, 1, none⟩ = some v1 ∧ W.cell? ⟨w.heap.size, 2, none⟩ = some v2) ∧ W.cell? ⟨w.heap.size, 3, none⟩ = some v3 ∧ W.cell? ⟨w.heap.size, 4, none⟩ = some v4 ∧ W.cell? ⟨w.heap.size, 5, none⟩ = some v5 := by
  refine ⟨⟨?_, ?_, ?_⟩, ?_, ?_, ?_⟩ <;> (rw [h.cell (by simp), World.cell?_alloc_at _ _ _ _ rfl]; rfl)
set_option maxHeartbeats 1000000 in
theorem shown_any (b : Nat) (raw time ppb left rate steps e : Int) (w : World) (hb : b < w.heap.size)
    (c0 : w.cell? ⟨b, 0, none⟩ = some (.int .i64 raw)) (c1 : w.cell? ⟨b, 1, none⟩ = some (.int .i64 time)) (c2 : w.cell? ⟨b, 2, none⟩ = some (.int .i64 ppb)) (c3 : w.cell? ⟨b, 3, none⟩ = some (.int .i64 left)) (c4 : w.cell? ⟨b, 4, none⟩ = some (.int .i64 rate)) (c5 : w.cell? ⟨b, 5, none⟩ = some (.int .i64 steps))
    (hl1 : -4503599627370496 ≤ left) (hl2 : left ≤ 4503599627370496) (hr1 : 0 ≤ rate) (hr2 : rate ≤ 500000) (hlr : left ≠ 0 → 0 < rate) (hp1 : -500000 ≤ ppb) (hp2 : ppb ≤ 500000) (he1 : -9223372036854775808 ≤ e) (he2 : e ≤ 9223372036854775807) :
    Calls Try.prog 25 #[.pointer (some ⟨b, 0, none⟩), .int .i64 e] w fun x w' => x = .returned (.int .i64 (shownF time ppb left rate e)) ∧ Below w.heap.size w w' := by
  have sl := fun (w1 : World) (hw : Below w.heap.size w w1) => slew_any b raw time ppb left rate steps w1 ((hw.cell hb).trans c0) ((hw.cell hb).trans c1) ((hw.cell hb).trans c2) ((hw.cell hb).trans c3) ((hw.cell hb).trans c4) ((hw.cell hb).trans c5) hl1 hl2 hr2 hlr
  unfold shownF
  have hsl := slewF_i64 left rate
  obtain ⟨L, hL⟩ : ∃ L, slewF left rate = L := ⟨_, rfl⟩
  rw [hL] at sl hsl ⊢
  clear hL
  have sn := sign_any left
  have hsb := sg_bound left
  obtain ⟨s, hs⟩ : ∃ s, sg left = s := ⟨_, rfl⟩
  rw [hs] at sn hsb ⊢
  clear hs
  have hsr : -500000 ≤ s * rate ∧ s * rate ≤ 500000 := by
    rcases (show s = -1 ∨ s = 0 ∨ s = 1 by omega) with rfl | rfl | rfl <;> omega
  obtain ⟨x, hx⟩ : ∃ x, s * rate = x := ⟨_, rfl⟩
  have ex : wrap64 (s * rate) = x := by rw [hx]; unfold wrap64; omega
  rw [hx] at hsr ⊢
  clear hx
  obtain ⟨en, hen⟩ : ∃ en, min e L = en := ⟨_, rfl⟩
  have hen1 : -9223372036854775808 ≤ en ∧ en ≤ 9223372036854775807 := by rw [← hen]; omega
  rw [hen]
  have p1 := part_any en (ppb + x) hen1.1 hen1.2 (by omega) (by omega)
  have p2 := part_any (wrap64 (e - en)) ppb (by unfold wrap64; omega) (by unfold wrap64; omega) (by omega) (by omega)
  obtain ⟨P1, hP1⟩ : ∃ P, (mdiv en (ppb + x) 1000000000).1 = P := ⟨_, rfl⟩
  obtain ⟨P2, hP2⟩ : ∃ P, (mdiv (wrap64 (e - en)) ppb 1000000000).1 = P := ⟨_, rfl⟩
  rw [hP1] at p1 ⊢
  rw [hP2] at p2 ⊢
  have q1 := hsr.1
  have q2 := hsr.2
  clear hP1 hP2 hsb hsl hlr hl1 hl2 hr1 hr2 hsr
  go_enter Try.func25, Try.ntmps25
  go_wp2_with fail
  refine (sl _ ((Below.refl _ _).alloc (Nat.le_refl _) _)).mono ?_
  rintro x1 w2 ⟨rfl, hb2⟩
  obtain ⟨⟨d0, d1, d2⟩, d3, d4, d5⟩ := loc6 hb2
  have HB : Kp (Below w.heap.size w w2) := ⟨((Below.refl _ _).alloc (Nat.le_refl _) _).trans (hb2.mono (by simp))⟩
  clear hb2 c0 c1 c2 c3 c4 c5
  go_wp2_with fail
  go_quiet ((first | (go_at_call 39; exact qs (sn _)) | (go_at_call 38; exact qd (p1 _))))
  go_wp2_with fail
  refine (p2 _).mono ?_
  rintro x2 w3 ⟨rfl, k, rfl⟩
  go_wp2
  go_ret
  exact ⟨rfl, Below.drewN HB.out _⟩
end Go.Proofs.Ytlmcmakiaiaieaa
