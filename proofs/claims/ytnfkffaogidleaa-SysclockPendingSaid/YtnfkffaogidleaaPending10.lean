/-
  The walk of SysclockPending: whatever the state and the readings, it returns true, and what was there is as it was.
-/
import Derived.Test.YtnfkffaogidleaaSlewsP10
import Derived.Test.YtnfkffaogidleaaStates10
import Derived.Deep.RegionHeld3
import Derived.Deep.LoopGhost
set_option linter.unusedSimpArgs false
set_option linter.unusedVariables false
namespace Go.Proofs.Ytnfkffaogidleaa
open Go.RowKit
/-- What is left to slew at a reading. -/
def leftAt (s : CS) (r : Int) : Int := (movedF s r).left
theorem partF_nonneg {n p : Int} (h : 0 ≤ n) (hp : 0 ≤ p) : 0 ≤ partF n p := Int.ediv_nonneg (Int.mul_nonneg h hp) (by omega)
theorem partF_mono {n m p : Int} (h : n ≤ m) (hp : 0 ≤ p) : partF n p ≤ partF m p := Int.ediv_le_ediv (by omega) (Int.mul_le_mul_of_nonneg_right h hp)
theorem leftAt_is {s : CS} (ok : s.Ok) {r : Int} (h : s.raw ≤ r) (h2 : r ≤ 4503599627370496) : ∃ m, m = min (sg s.left * s.left) (partF (r - s.raw) s.rate) ∧ 0 ≤ m ∧ m ≤ 4503599627370496 ∧ leftAt s r = s.left - sg s.left * m := by
  have r1 := ok.raw1
  have r2 := ok.rate1
  have r3 := ok.rate2
  have l1 := ok.left1
  have l2 := ok.left2
  have pn := partF_nonneg (n := r - s.raw) (p := s.rate) (by omega) r2
  have ha := sg_abs l1 l2
  refine ⟨_, rfl, by omega, by omega, ?_⟩
  unfold leftAt movedF
  rw [part_is (by omega) (by omega) (by omega) (by omega)]
  simp only
  obtain ⟨m, hm⟩ : ∃ m, min (sg s.left * s.left) (partF (r - s.raw) s.rate) = m := ⟨_, rfl⟩
  have hm0 : 0 ≤ m ∧ m ≤ 4503599627370496 := by omega
  rw [hm]
  rcases (show sg s.left = -1 ∨ sg s.left = 0 ∨ sg s.left = 1 by have := sg_bound s.left; omega) with h | h | h <;> rw [h]
  · rw [Int.neg_one_mul, w64 (n := -m) (by omega) (by omega), w64 (by omega) (by omega)]
  · rw [Int.zero_mul, w64 (n := 0) (by omega) (by omega), w64 (by omega) (by omega)]
  · rw [Int.one_mul, w64 (n := m) (by omega) (by omega), w64 (by omega) (by omega)]
theorem leftAt_start {s : CS} (ok : s.Ok) : leftAt s s.raw = s.left := by
  obtain ⟨m, hm, _, _, e⟩ := leftAt_is ok (Int.le_refl _) ok.raw2
  have ha := sg_abs ok.left1 ok.left2
  have hz : partF (s.raw - s.raw) s.rate = 0 := by unfold partF; simp
  rw [hz] at hm
  have : m = 0 := by omega
  rw [e, this, Int.mul_zero, Int.sub_zero]
theorem leftAt_mono {s : CS} (ok : s.Ok) {r1 r2 : Int} (h1 : s.raw ≤ r1) (h2 : r1 ≤ r2) (h3 : r2 ≤ 4503599627370496) :
    (0 ≤ leftAt s r1 → 0 ≤ leftAt s r2 ∧ leftAt s r2 ≤ leftAt s r1) ∧ (leftAt s r1 ≤ 0 → leftAt s r2 ≤ 0 ∧ leftAt s r1 ≤ leftAt s r2) := by
  obtain ⟨m1, e1, a1, b1, q1⟩ := leftAt_is ok h1 (by omega)
  obtain ⟨m2, e2, a2, b2, q2⟩ := leftAt_is ok (show s.raw ≤ r2 by omega) h3
  have pm := partF_mono (n := r1 - s.raw) (m := r2 - s.raw) (p := s.rate) (by omega) ok.rate1
  rw [q1, q2]
  have hs : (sg s.left = 1 ∧ 0 < s.left) ∨ (sg s.left = 0 ∧ s.left = 0) ∨ (sg s.left = -1 ∧ s.left < 0) := by unfold sg; split <;> (try split) <;> omega
  rcases hs with ⟨h, g⟩ | ⟨h, g⟩ | ⟨h, g⟩ <;> rw [h] at e1 e2 ⊢
  · simp only [Int.one_mul] at *; omega
  · simp only [Int.zero_mul] at *; omega
  · simp only [Int.neg_one_mul] at *; omega
theorem pendF_left {s : CS} {raw t : Int} (h : nowF s raw = (t, 0)) : pendF s raw = leftAt s raw := by unfold pendF; rw [h]; rfl
theorem pendF_err {s : CS} {raw er : Int} (h : nowF s raw = (0, er)) (he : er ≠ 0) : pendF s raw = 0 := by unfold pendF; rw [h, if_neg he]
set_option maxHeartbeats 8000000 in
theorem pend_row (sraw time ppb left rate steps : Int) (ok : (CS.mk sraw time ppb left rate steps).Ok) (w : World) (ab ao len cap : Nat) (z : List Int) (hlen : len ≤ 50) (hab : ab < w.heap.size) (hc : ∀ j, j < len → w.cell? ⟨ab, ao + j, none⟩ = some (.int .i64 (z.getD j 0)) ∧ I64 (z.getD j 0)) : Calls Try.prog 7 #[.agg #[.int .i64 sraw, .int .i64 time, .int .i64 ppb, .int .i64 left, .int .i64 rate, .int .i64 steps], .slice (some ⟨ab, ao, none⟩) len cap] w fun x w' => x = .returned (.bool true) ∧ Below w.heap.size w w' := by
  obtain ⟨s, hsd⟩ : ∃ s, CS.mk sraw time ppb left rate steps = s := ⟨_, rfl⟩
  have o1 := fun w => of_good _ ok w
  unfold CS.vals at o1
  simp only at o1
  rw [hsd] at ok o1
  have hr0 : s.raw = sraw := by rw [← hsd]
  have hl0 : s.left = left := by rw [← hsd]
  have kraw1 := ok.raw1
  have kraw2 := ok.raw2
  have KOK := Kp.mk ok
  have hst0 : leftAt s sraw = left := by rw [← hr0, leftAt_start ok, hl0]
  rw [hr0] at kraw1 kraw2
  have HR := Kp.mk hr0
  have HT := Kp.mk hst0
  have HSD := Kp.mk hsd
  clear hr0 hl0 hst0 ok hsd
  have HL := Kp.mk hc
  clear hc
  have t0 : decide ((len : Int) > 50) = false := by simp; omega
  go_enter Try.func7, Try.ntmps7
  go_wp2_with fail
  have HX : Below w.heap.size w (w.alloc (.cells #[.int .i64 sraw, .int .i64 time, .int .i64 ppb, .int .i64 left, .int .i64 rate, .int .i64 steps] 23)) := (Below.refl _ _).alloc (Nat.le_refl _) _
  refine (o1 _).mono ?_
  rintro e w1 ⟨bk, rfl, hbk, hk, hbl⟩
  obtain ⟨⟨c0, c1, c2⟩, c3, c4, c5⟩ := loc6 hbl
  have HB1 : Kp (Below w.heap.size w w1) := ⟨Below.then HX HX.size hbl⟩
  have hs : w.heap.size < w1.heap.size := by have := hbl.size; simp at this; omega
  have HBK : Kp (w.heap.size < bk) := ⟨by simp at hbk; omega⟩
  clear HX hbl hbk
  go_wp2_with fail
  go_quiet (fail)
  obtain ⟨w2, hC⟩ : ∃ W, W = w1.drewN nq := ⟨_, rfl⟩
  have hbl : Below w1.heap.size w1 w2 := by rw [hC]; exact Below.of_drewN _ _
  rw [← hC]
  clear hC
  have hS := held6 (w := w) ⟨hs, c0, c1, c2, c3, c4, c5⟩ hbl
  have HB2 : Kp (Below w.heap.size w w2) := ⟨Below.then HB1.out HB1.out.size hbl⟩
  have hk2 := hk.below hbl hk.lt
  have HK2 : Kp (Clk w2 bk s ∧ (w.heap.size < w2.heap.size ∧ w2.cell? ⟨w.heap.size, 0, none⟩ = some (.int .i64 sraw) ∧ w2.cell? ⟨w.heap.size, 1, none⟩ = some (.int .i64 time) ∧ w2.cell? ⟨w.heap.size, 2, none⟩ = some (.int .i64 ppb) ∧ w2.cell? ⟨w.heap.size, 3, none⟩ = some (.int .i64 left) ∧ w2.cell? ⟨w.heap.size, 4, none⟩ = some (.int .i64 rate) ∧ w2.cell? ⟨w.heap.size, 5, none⟩ = some (.int .i64 steps))) := ⟨hk2, hS⟩
  clear hbl HB1 hk hk2 hS hs c0 c1 c2 c3 c4 c5
  go_wp2_with fail
  go_loopw [6, 7, 8] (fun lv rv i wr => ∃ (k : Nat) (r : Int), k ≤ len ∧ i = .int .i64 k ∧ rv = .int .i64 r ∧ lv = .int .i64 (leftAt s r) ∧ sraw ≤ r ∧ r ≤ 4503599627370496 ∧ Below w2.heap.size w2 wr) (fun _ _ i _ => len - (intOf i).toNat)
  case atStart => exact ⟨0, sraw, Nat.zero_le _, rfl, rfl, by rw [HT.out], by omega, kraw2, Below.refl _ _⟩
  case round =>
    obtain ⟨k, r, hk, rfl, rfl, rfl, hr1, hr2, hb⟩ := hrel
    have hkw : Clk wr bk s := HK2.out.1.below hb HK2.out.1.lt
    have hSr := held6 (w := w) HK2.out.2 hb
    have HBr : Kp (Below w.heap.size w wr) := ⟨Below.then HB2.out HB2.out.size hb⟩
    have HBW := Kp.mk hb
    clear hb
    by_cases hlt : k < len
    · obtain ⟨hcl, hi64⟩ := HL.out k hlt
      have hcr : wr.cell? ⟨ab, ao + k, none⟩ = some (.int .i64 (z.getD k 0)) := (HBr.out.cell hab).trans hcl
      obtain ⟨x, hx⟩ : ∃ x, z.getD k 0 = x := ⟨_, rfl⟩
      rw [hx] at hcr hi64
      clear hx hcl hSr
      have nw := now_any bk s x wr hkw KOK.out hi64.2
      have hne : ab ≠ bk := by have := HBK.out; omega
      have hlenk : k + 1 ≤ len := hlt
      rcases nowF_pair s x with ⟨tt, hn⟩ | ⟨er, he, hn⟩
      · have pd := fun (w4 : World) (h4 : Below wr.heap.size wr w4) => pending_any bk s x w4 (hkw.below h4 hkw.lt) KOK.out hi64.2
        have hpl := pendF_left hn
        rw [hpl] at pd
        rw [hn] at nw
        obtain ⟨x1, x2, _, _, _⟩ := nowF_is hn
        rw [HR.out] at x1
        clear hn hpl
        by_cases hxr : x < r
        · have tx : decide (x < r) = true := by simpa using hxr
          go_wp2_with fail
          refine nw.mono ?_
          rintro e w4 ⟨rfl, hb4⟩
          have hc4 : w4.cell? ⟨ab, ao + k, none⟩ = some (.int .i64 x) := (hb4.cell (Nat.lt_of_lt_of_le hab HBr.out.size)).trans hcr
          have HB4 : Kp (Below w.heap.size w w4) := ⟨Below.then HBr.out HBr.out.size hb4⟩
          have HW4 : Kp (Below w2.heap.size w2 w4) := ⟨Below.then HBW.out HBW.out.size hb4⟩
          have pd4 := pd w4 hb4
          clear hb4 pd nw hcr hkw
          go_wp2_with fail
          refine pd4.mono ?_
          rintro e w5 ⟨rfl, hb5⟩
          have hc5 : w5.cell? ⟨ab, ao + k, none⟩ = some (.int .i64 x) := (hb5.cell (Nat.lt_of_lt_of_le hab HB4.out.size)).trans hc4
          have HW5 : Kp (Below w2.heap.size w2 w5) := ⟨Below.then HW4.out HW4.out.size hb5⟩
          clear hb5 pd4 hc4 HB4 HW4
          go_wp2_with fail
          go_roundw
          case rel => exact ⟨k + 1, r, by omega, by go_num, rfl, rfl, hr1, hr2, HW5.out⟩
          case measure => simp [intOf]; omega
        · have tx : decide (x < r) = false := by simp; omega
          obtain ⟨mo1, mo2⟩ := leftAt_mono KOK.out (r1 := r) (r2 := x) (by rw [HR.out]; exact hr1) (by omega) x2
          obtain ⟨lv, hlv⟩ : ∃ v, leftAt s r = v := ⟨_, rfl⟩
          obtain ⟨nv, hnv⟩ : ∃ v, leftAt s x = v := ⟨_, rfl⟩
          rw [hlv, hnv] at mo1 mo2
          rw [hnv] at pd
          rw [hlv]
          have HNV := Kp.mk hnv
          clear hlv hnv
          rcases (show 0 < lv ∨ lv = 0 ∨ lv < 0 by omega) with hsg | hsg | hsg
          · have q1 := mo1 (by omega)
            have y1 : decide (0 ≤ lv) = true := by simp; omega
            have y2 : decide (lv ≤ 0) = false := by simp; omega
            have y3 : decide (nv < 0) = false := by simp; omega
            have y4 : decide (lv < nv) = false := by simp; omega
            clear mo1 mo2
            go_wp2_with fail
            refine nw.mono ?_
            rintro e w4 ⟨rfl, hb4⟩
            have hc4 : w4.cell? ⟨ab, ao + k, none⟩ = some (.int .i64 x) := (hb4.cell (Nat.lt_of_lt_of_le hab HBr.out.size)).trans hcr
            have HB4 : Kp (Below w.heap.size w w4) := ⟨Below.then HBr.out HBr.out.size hb4⟩
            have HW4 : Kp (Below w2.heap.size w2 w4) := ⟨Below.then HBW.out HBW.out.size hb4⟩
            have pd4 := pd w4 hb4
            clear hb4 pd nw hcr hkw
            go_wp2_with fail
            refine pd4.mono ?_
            rintro e w5 ⟨rfl, hb5⟩
            have hc5 : w5.cell? ⟨ab, ao + k, none⟩ = some (.int .i64 x) := (hb5.cell (Nat.lt_of_lt_of_le hab HB4.out.size)).trans hc4
            have HW5 : Kp (Below w2.heap.size w2 w5) := ⟨Below.then HW4.out HW4.out.size hb5⟩
            clear hb5 pd4 hc4 HB4 HW4
            go_wp2_with fail
            go_roundw
            case rel => exact ⟨k + 1, x, by omega, by go_num, rfl, by rw [HNV.out], by omega, x2, HW5.out⟩
            case measure => simp [intOf]; omega
          · have q1 := mo1 (by omega)
            have q2 := mo2 (by omega)
            have hnz : nv = 0 := by omega
            subst hsg hnz
            clear mo1 mo2
            go_wp2_with fail
            refine nw.mono ?_
            rintro e w4 ⟨rfl, hb4⟩
            have hc4 : w4.cell? ⟨ab, ao + k, none⟩ = some (.int .i64 x) := (hb4.cell (Nat.lt_of_lt_of_le hab HBr.out.size)).trans hcr
            have HB4 : Kp (Below w.heap.size w w4) := ⟨Below.then HBr.out HBr.out.size hb4⟩
            have HW4 : Kp (Below w2.heap.size w2 w4) := ⟨Below.then HBW.out HBW.out.size hb4⟩
            have pd4 := pd w4 hb4
            clear hb4 pd nw hcr hkw
            go_wp2_with fail
            refine pd4.mono ?_
            rintro e w5 ⟨rfl, hb5⟩
            have hc5 : w5.cell? ⟨ab, ao + k, none⟩ = some (.int .i64 x) := (hb5.cell (Nat.lt_of_lt_of_le hab HB4.out.size)).trans hc4
            have HW5 : Kp (Below w2.heap.size w2 w5) := ⟨Below.then HW4.out HW4.out.size hb5⟩
            clear hb5 pd4 hc4 HB4 HW4
            go_wp2_with fail
            go_roundw
            case rel => exact ⟨k + 1, x, by omega, by go_num, rfl, by rw [HNV.out], by omega, x2, HW5.out⟩
            case measure => simp [intOf]; omega
          · have q2 := mo2 (by omega)
            have y1 : decide (0 ≤ lv) = false := by simp; omega
            have y2 : decide (lv ≤ 0) = true := by simp; omega
            have y3 : decide (0 < nv) = false := by simp; omega
            have y4 : decide (nv < lv) = false := by simp; omega
            clear mo1 mo2
            go_wp2_with fail
            refine nw.mono ?_
            rintro e w4 ⟨rfl, hb4⟩
            have hc4 : w4.cell? ⟨ab, ao + k, none⟩ = some (.int .i64 x) := (hb4.cell (Nat.lt_of_lt_of_le hab HBr.out.size)).trans hcr
            have HB4 : Kp (Below w.heap.size w w4) := ⟨Below.then HBr.out HBr.out.size hb4⟩
            have HW4 : Kp (Below w2.heap.size w2 w4) := ⟨Below.then HBW.out HBW.out.size hb4⟩
            have pd4 := pd w4 hb4
            clear hb4 pd nw hcr hkw
            go_wp2_with fail
            refine pd4.mono ?_
            rintro e w5 ⟨rfl, hb5⟩
            have hc5 : w5.cell? ⟨ab, ao + k, none⟩ = some (.int .i64 x) := (hb5.cell (Nat.lt_of_lt_of_le hab HB4.out.size)).trans hc4
            have HW5 : Kp (Below w2.heap.size w2 w5) := ⟨Below.then HW4.out HW4.out.size hb5⟩
            clear hb5 pd4 hc4 HB4 HW4
            go_wp2_with fail
            go_roundw
            case rel => exact ⟨k + 1, x, by omega, by go_num, rfl, by rw [HNV.out], by omega, x2, HW5.out⟩
            case measure => simp [intOf]; omega

      · have pd := fun (w4 : World) (h4 : Below wr.heap.size wr w4) => pending_any bk s x w4 (hkw.below h4 hkw.lt) KOK.out hi64.2
        rw [pendF_err hn he] at pd
        rw [hn] at nw
        have te : (er != 0) = true := by simpa using he
        have te' : (er == 0) = false := by simpa using he
        clear hn he
        go_wp2_with fail
        refine nw.mono ?_
        rintro e w4 ⟨rfl, hb4⟩
        have hc4 : w4.cell? ⟨ab, ao + k, none⟩ = some (.int .i64 x) := (hb4.cell (Nat.lt_of_lt_of_le hab HBr.out.size)).trans hcr
        have HB4 : Kp (Below w.heap.size w w4) := ⟨Below.then HBr.out HBr.out.size hb4⟩
        have HW4 : Kp (Below w2.heap.size w2 w4) := ⟨Below.then HBW.out HBW.out.size hb4⟩
        have pd4 := pd w4 hb4
        clear hb4 pd nw hcr hkw
        go_wp2_with fail
        refine pd4.mono ?_
        rintro e w5 ⟨rfl, hb5⟩
        have hc5 : w5.cell? ⟨ab, ao + k, none⟩ = some (.int .i64 x) := (hb5.cell (Nat.lt_of_lt_of_le hab HB4.out.size)).trans hc4
        have HW5 : Kp (Below w2.heap.size w2 w5) := ⟨Below.then HW4.out HW4.out.size hb5⟩
        clear hb5 pd4 hc4 HB4 HW4
        go_wp2_with fail
        go_roundw
        case rel => exact ⟨k + 1, r, by omega, by go_num, rfl, rfl, hr1, hr2, HW5.out⟩
        case measure => simp [intOf]; omega

    · obtain rfl : k = len := by omega
      clear hk hlt
      have hst := state_any _ _ _ (hkw.below (Below.refl wr.heap.size wr).drew hkw.lt)
      unfold StatePost CS.vals at hst
      rw [← HSD.out] at hst
      simp only at hst
      obtain ⟨hs, c0, c1, c2, c3, c4, c5⟩ := hSr
      clear hkw
      go_wp2_with fail
      go_region_held3 (fun w' => w.heap.size < w'.heap.size ∧ w'.cell? ⟨w.heap.size, 0, none⟩ = some (.int .i64 sraw) ∧ w'.cell? ⟨w.heap.size, 1, none⟩ = some (.int .i64 time) ∧ w'.cell? ⟨w.heap.size, 2, none⟩ = some (.int .i64 ppb) ∧ w'.cell? ⟨w.heap.size, 3, none⟩ = some (.int .i64 left) ∧ w'.cell? ⟨w.heap.size, 4, none⟩ = some (.int .i64 rate) ∧ w'.cell? ⟨w.heap.size, 5, none⟩ = some (.int .i64 steps)) (first | exact held6 (by assumption) hblB | exact held6 (by assumption) hblA | go_keep)
        (first | (go_at_call 12; refine hst.mono ?_; rintro e w3 ⟨rfl, hblA⟩) | (go_at_call 15; refine (awake_any _).mono ?_; rintro e w4 ⟨rfl, hblB⟩))
      have HE : Kp (Below w.heap.size w w4) := ⟨chain3 HBr.out hblA hblB⟩
      clear hblA hblB hst hs c0 c1 c2 c3 c4 c5
      go_wp2_with fail
      go_ret
      exact ⟨by simp, HE.out⟩
set_option maxHeartbeats 8000000 in
theorem pend_empty (sraw time ppb left rate steps : Int) (ok : (CS.mk sraw time ppb left rate steps).Ok) (w : World) (a : Option Addr) (cap : Nat) : Calls Try.prog 7 #[.agg #[.int .i64 sraw, .int .i64 time, .int .i64 ppb, .int .i64 left, .int .i64 rate, .int .i64 steps], .slice a 0 cap] w fun x w' => x = .returned (.bool true) ∧ Below w.heap.size w w' := by
  obtain ⟨s, hsd⟩ : ∃ s, CS.mk sraw time ppb left rate steps = s := ⟨_, rfl⟩
  have o1 := fun w => of_good _ ok w
  unfold CS.vals at o1
  simp only at o1
  rw [hsd] at ok o1
  have hr0 : s.raw = sraw := by rw [← hsd]
  have hl0 : s.left = left := by rw [← hsd]
  have kraw1 := ok.raw1
  have kraw2 := ok.raw2
  have KOK := Kp.mk ok
  have hst0 : leftAt s sraw = left := by rw [← hr0, leftAt_start ok, hl0]
  rw [hr0] at kraw1 kraw2
  have HR := Kp.mk hr0
  have HT := Kp.mk hst0
  have HSD := Kp.mk hsd
  clear hr0 hl0 hst0 ok hsd
  go_enter Try.func7, Try.ntmps7
  go_wp2_with fail
  have HX : Below w.heap.size w (w.alloc (.cells #[.int .i64 sraw, .int .i64 time, .int .i64 ppb, .int .i64 left, .int .i64 rate, .int .i64 steps] 23)) := (Below.refl _ _).alloc (Nat.le_refl _) _
  refine (o1 _).mono ?_
  rintro e w1 ⟨bk, rfl, hbk, hk, hbl⟩
  obtain ⟨⟨c0, c1, c2⟩, c3, c4, c5⟩ := loc6 hbl
  have HB1 : Kp (Below w.heap.size w w1) := ⟨Below.then HX HX.size hbl⟩
  have hs : w.heap.size < w1.heap.size := by have := hbl.size; simp at this; omega
  have HBK : Kp (w.heap.size < bk) := ⟨by simp at hbk; omega⟩
  clear HX hbl hbk
  go_wp2_with fail
  go_quiet (fail)
  obtain ⟨w2, hC⟩ : ∃ W, W = w1.drewN nq := ⟨_, rfl⟩
  have hbl : Below w1.heap.size w1 w2 := by rw [hC]; exact Below.of_drewN _ _
  rw [← hC]
  clear hC
  have hS := held6 (w := w) ⟨hs, c0, c1, c2, c3, c4, c5⟩ hbl
  have HB2 : Kp (Below w.heap.size w w2) := ⟨Below.then HB1.out HB1.out.size hbl⟩
  have hk2 := hk.below hbl hk.lt
  have HK2 : Kp (Clk w2 bk s ∧ (w.heap.size < w2.heap.size ∧ w2.cell? ⟨w.heap.size, 0, none⟩ = some (.int .i64 sraw) ∧ w2.cell? ⟨w.heap.size, 1, none⟩ = some (.int .i64 time) ∧ w2.cell? ⟨w.heap.size, 2, none⟩ = some (.int .i64 ppb) ∧ w2.cell? ⟨w.heap.size, 3, none⟩ = some (.int .i64 left) ∧ w2.cell? ⟨w.heap.size, 4, none⟩ = some (.int .i64 rate) ∧ w2.cell? ⟨w.heap.size, 5, none⟩ = some (.int .i64 steps))) := ⟨hk2, hS⟩
  clear hbl HB1 hk hk2 hS hs c0 c1 c2 c3 c4 c5
  go_wp2_with fail
  go_loopw [6, 7, 8] (fun lv rv i wr => ∃ (k : Nat) (r : Int), k ≤ 0 ∧ i = .int .i64 k ∧ rv = .int .i64 r ∧ lv = .int .i64 (leftAt s r) ∧ sraw ≤ r ∧ r ≤ 4503599627370496 ∧ Below w2.heap.size w2 wr) (fun _ _ i _ => 0 - (intOf i).toNat)
  case atStart => exact ⟨0, sraw, Nat.zero_le _, rfl, rfl, by rw [HT.out], by omega, kraw2, Below.refl _ _⟩
  case round =>
    obtain ⟨k, r, hk, rfl, rfl, rfl, hr1, hr2, hb⟩ := hrel
    have hkw : Clk wr bk s := HK2.out.1.below hb HK2.out.1.lt
    have hSr := held6 (w := w) HK2.out.2 hb
    have HBr : Kp (Below w.heap.size w wr) := ⟨Below.then HB2.out HB2.out.size hb⟩
    have HBW := Kp.mk hb
    clear hb
    obtain rfl : k = 0 := by omega
    clear hk
    have hst := state_any _ _ _ (hkw.below (Below.refl wr.heap.size wr).drew hkw.lt)
    unfold StatePost CS.vals at hst
    rw [← HSD.out] at hst
    simp only at hst
    obtain ⟨hs, c0, c1, c2, c3, c4, c5⟩ := hSr
    clear hkw
    go_wp2_with fail
    go_region_held3 (fun w' => w.heap.size < w'.heap.size ∧ w'.cell? ⟨w.heap.size, 0, none⟩ = some (.int .i64 sraw) ∧ w'.cell? ⟨w.heap.size, 1, none⟩ = some (.int .i64 time) ∧ w'.cell? ⟨w.heap.size, 2, none⟩ = some (.int .i64 ppb) ∧ w'.cell? ⟨w.heap.size, 3, none⟩ = some (.int .i64 left) ∧ w'.cell? ⟨w.heap.size, 4, none⟩ = some (.int .i64 rate) ∧ w'.cell? ⟨w.heap.size, 5, none⟩ = some (.int .i64 steps)) (first | exact held6 (by assumption) hblB | exact held6 (by assumption) hblA | go_keep)
      (first | (go_at_call 12; refine hst.mono ?_; rintro e w3 ⟨rfl, hblA⟩) | (go_at_call 15; refine (awake_any _).mono ?_; rintro e w4 ⟨rfl, hblB⟩))
    have HE : Kp (Below w.heap.size w w4) := ⟨chain3 HBr.out hblA hblB⟩
    clear hblA hblB hst hs c0 c1 c2 c3 c4 c5
    go_wp2_with fail
    go_ret
    exact ⟨by simp, HE.out⟩
set_option maxHeartbeats 2000000 in
theorem pend_early (sraw time ppb left rate steps : Int) (hst : steps ≤ 9223372036854775807) (w : World) (a : Option Addr) (len cap : Nat) (hlen : len ≤ 9223372036854775807) (h : ¬ (CS.mk sraw time ppb left rate steps).Ok ∨ 50 < len) : Calls Try.prog 7 #[.agg #[.int .i64 sraw, .int .i64 time, .int .i64 ppb, .int .i64 left, .int .i64 rate, .int .i64 steps], .slice a len cap] w fun x w' => x = .returned (.bool true) ∧ Below w.heap.size w w' := by
  have HX : Below w.heap.size w (w.alloc (.cells #[.int .i64 sraw, .int .i64 time, .int .i64 ppb, .int .i64 left, .int .i64 rate, .int .i64 steps] 23)) := (Below.refl _ _).alloc (Nat.le_refl _) _
  by_cases ok : (CS.mk sraw time ppb left rate steps).Ok
  · have h50 : 50 < len := by rcases h with h | h; exact absurd ok h; exact h
    have o1 := fun w => of_good _ ok w
    unfold CS.vals at o1
    simp only at o1
    clear ok hst h
    have t0 : decide ((len : Int) > 50) = true := by simp; omega
    go_enter Try.func7, Try.ntmps7
    go_wp2_with fail
    refine (o1 _).mono ?_
    rintro e w1 ⟨bk, rfl, hbk, hk, hbl⟩
    have HB1 : Kp (Below w.heap.size w w1) := ⟨Below.then HX HX.size hbl⟩
    clear hbl HX hk hbk
    go_wp2_with fail
    refine (awake_any _).mono ?_
    rintro e wE ⟨rfl, hbl⟩
    have HE : Kp (Below w.heap.size w wE) := ⟨Below.then HB1.out HB1.out.size hbl⟩
    clear hbl
    go_wp2_with fail
    go_ret
    exact ⟨by simp, HE.out⟩
  · have o1 := fun w => of_bad _ ok hst w
    unfold CS.vals at o1
    simp only at o1
    clear ok hst h
    go_enter Try.func7, Try.ntmps7
    go_wp2_with fail
    refine (o1 _).mono ?_
    rintro e w1 ⟨rfl, hbl⟩
    have HB1 : Kp (Below w.heap.size w w1) := ⟨Below.then HX HX.size hbl⟩
    clear hbl HX
    go_wp2_with fail
    refine (awake_any _).mono ?_
    rintro e wE ⟨rfl, hbl⟩
    have HE : Kp (Below w.heap.size w wE) := ⟨Below.then HB1.out HB1.out.size hbl⟩
    clear hbl
    go_wp2_with fail
    go_ret
    exact ⟨by simp, HE.out⟩
theorem pending_walk (sraw time ppb left rate steps : Int) (a : Option Addr) (len cap : Nat) (z : List Int) (w : World) (_ : I64 sraw) (_ : I64 time) (_ : I64 ppb) (_ : I64 left) (_ : I64 rate) (hs : I64 steps) (hrow : IntRow w a len z) : Calls Try.prog 7 #[.agg #[.int .i64 sraw, .int .i64 time, .int .i64 ppb, .int .i64 left, .int .i64 rate, .int .i64 steps], .slice a len cap] w fun x w' => x = .returned (.bool true) ∧ Below w.heap.size w w' := by
  obtain ⟨hm, hrow⟩ := hrow
  by_cases h : ¬ (CS.mk sraw time ppb left rate steps).Ok ∨ 50 < len
  · exact pend_early sraw time ppb left rate steps hs.2 w a len cap hm h
  · have ok : (CS.mk sraw time ppb left rate steps).Ok := Classical.not_not.1 (fun h' => h (Or.inl h'))
    have h50 : len ≤ 50 := by rcases Nat.lt_or_ge 50 len with h' | h'; exact absurd (Or.inr h') h; exact h'
    rcases hrow with rfl | ⟨b, off, rfl, hb, hc⟩
    · exact pend_empty sraw time ppb left rate steps ok w a cap
    · exact pend_row sraw time ppb left rate steps ok w b off len cap z h50 hb hc
end Go.Proofs.Ytnfkffaogidleaa
