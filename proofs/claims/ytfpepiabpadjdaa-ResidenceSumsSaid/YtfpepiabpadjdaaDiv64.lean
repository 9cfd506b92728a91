/-
  The contract of math/bits.Div64 (two words by one, no panic): for hi < y it returns the quotient and the remainder, whatever the order that Go leaves open; memory is as it was. Printed by wip/common/gen_div64.py.
-/
import Derived.Test.YtfpepiabpadjdaaHelp
import Derived.Test.YtfpepiabpadjdaaPlainWrap
import Derived.Lib.BitFns
set_option linter.unusedSimpArgs false
set_option linter.unusedVariables false
namespace Go.Proofs.Ytfpepiabpadjdaa
open Go.RowKit PlainDiv
theorem len_zero (f : Nat) : Lib.bitLenAux f 0 = 0 := by cases f <;> rfl
/-- The number of bits of x bounds x from both sides. -/
theorem len_bounds (f : Nat) : ∀ x : Nat, x ≠ 0 → x < 2 ^ f → ∃ L, Lib.bitLenAux f x = L + 1 ∧ 2 ^ L ≤ x ∧ x < 2 ^ (L + 1) := by
  induction f with
  | zero => intro x h0 h; simp at h; exact absurd h h0
  | succ f ih =>
    intro x h0 h
    simp only [Lib.bitLenAux, if_neg h0]
    rcases Nat.lt_or_ge x 2 with h2 | h2
    · obtain rfl : x = 1 := by omega
      exact ⟨0, by simp [len_zero], by simp, by simp⟩
    · obtain ⟨L, e, a, b⟩ := ih (x / 2) (by omega) (by rw [Nat.pow_succ] at h; omega)
      rw [Nat.pow_succ] at b
      exact ⟨L + 1, by omega, by rw [Nat.pow_succ]; omega, by rw [Nat.pow_succ, Nat.pow_succ]; omega⟩
theorem lz_any (y : Nat) (h0 : 0 < y) (hy : y < 18446744073709551616) (w : World) :
   ∃ s : Nat, s ≤ 63 ∧ 2 ^ 63 ≤ y * 2 ^ s ∧ y * 2 ^ s < 2 ^ 64 ∧ Calls Try.prog 65 #[.int .u64 y] w fun e w' => e = .returned (.int .i64 s) ∧ w = w' := by
  obtain ⟨k, a, b, c⟩ := len_bounds 64 y (by omega) (by simpa using hy)
  have d := Lib.bitLen_le y 64 (Nat.le_refl _) (by simpa using hy)
  have e : Lib.bitLen y = Lib.bitLenAux 64 y := rfl
  rw [← e] at a
  refine ⟨63 - k, by omega, ?_, ?_, ?_⟩
  · have := Nat.mul_le_mul_right (2 ^ (63 - k)) b
    rwa [← Nat.pow_add, show k + (63 - k) = 63 by omega] at this
  · have := Nat.mul_lt_mul_of_pos_right c (Nat.pow_pos (n := 63 - k) (show 0 < 2 by omega))
    rwa [← Nat.pow_add, show k + 1 + (63 - k) = 64 by omega] at this
  · refine (Try.bits_LeadingZeros64 y w (by omega) (by omega)).mono ?_
    rintro e w' ⟨rfl, rfl⟩
    refine ⟨?_, rfl⟩
    simp only [Int.toNat_natCast, a]
    congr 2
    omega
theorem quo_parts {z p : Nat} (hz : z < 4294967296) (hp : p < 4294967296) : IntKind.u64.wrap (IntKind.u64.wrap ((z : Int) * 4294967296) + (p : Int)) = (z : Int) * 4294967296 + (p : Int) := by
  rw [w_mod, w_mod, Int.emod_add_emod]
  exact Int.emod_eq_of_lt (by omega) (by omega)
theorem quo_sum {z p : Nat} (hz : z < 4294967296) (hp : p < 4294967296) : IntKind.u64.wrap ((z : Int) * 4294967296 + (p : Int)) = (z : Int) * 4294967296 + (p : Int) := by
  rw [w_mod]
  exact Int.emod_eq_of_lt (by omega) (by omega)
set_option maxHeartbeats 400000 in
theorem div64_zero (lo y : Nat) (hy0 : 0 < y) (hlo : lo < 18446744073709551616) (hy : y < 18446744073709551616) (w : World) :
    Calls Try.prog 55 #[.int .u64 0, .int .u64 lo, .int .u64 y] w fun e w' => e = .returned (.tuple #[.int .u64 ((lo / y : Nat) : Int), .int .u64 ((lo % y : Nat) : Int)]) ∧ ∃ n, w' = w.drewN n := by
  go_enter Try.func55, Try.ntmps55
  have h1 : ((y : Int) == 0) = false := by simp; omega
  have h2 : decide ((y : Int) ≤ 0) = false := by simp; omega
  go_wp2
  go_quiet (fail)
  go_wp2
  go_ret2
  exact ⟨by simp; exact wrap_u (Nat.lt_of_le_of_lt (Nat.div_le_self _ _) hlo), ⟨_, rfl⟩⟩
def DivPost (Y un un1 un0 s : Nat) (w : World) (e : Ending) (w' : World) : Prop :=
  (∃ q1 q0 u21 R : Nat, Digit Y (un * 4294967296 + un1) q1 ∧ un * 4294967296 + un1 - q1 * Y = u21 ∧ Digit Y (u21 * 4294967296 + un0) q0 ∧ u21 * 4294967296 + un0 - q0 * Y = R ∧ e = .returned (.tuple #[.int .u64 (q1 * 4294967296 + q0 : Nat), .int .u64 (R / 2 ^ s : Nat)])) ∧ w = w'
set_option maxHeartbeats 4000000 in
theorem div64_walk (hi lo y Y yn1 yn0 un un1 un0 L : Nat) (h0 : 0 < hi) (hh : hi < y) (hlo : lo < 18446744073709551616) (hy : y < 18446744073709551616) (w : World) (s : Nat) (hs : s ≤ 63)
   (hlz : Calls Try.prog 65 #[.int .u64 y] w fun e w' => e = .returned (.int .i64 s) ∧ w = w')
   (eY : IntKind.u64.wrap ((y : Int) * 2 ^ s) = (Y : Int)) (e1 : (Y : Int) / 4294967296 = (yn1 : Int)) (e0 : bits BinOp.and IntKind.u64 (Y : Int) 4294967295 = (yn0 : Int))
   (eU : bits BinOp.or IntKind.u64 (IntKind.u64.wrap (↑hi * 2 ^ s)) (↑lo / 2 ^ (64 - s)) = (un : Int))
   (eL : IntKind.u64.wrap ((lo : Int) * 2 ^ s) = (L : Int)) (f1 : (L : Int) / 4294967296 = (un1 : Int)) (f0 : bits BinOp.and IntKind.u64 (L : Int) 4294967295 = (un0 : Int))
   (hyn : 2147483648 ≤ yn1) (hyn' : yn1 < 4294967296) (hy0 : yn0 < 4294967296) (hu1 : un1 < 4294967296) (hu0 : un0 < 4294967296) (hu : un < yn1 * 4294967296 + yn0)
   (hY : Kp (Y = yn1 * 4294967296 + yn0)) :
    Calls Try.prog 55 #[.int .u64 hi, .int .u64 lo, .int .u64 y] w (DivPost Y un un1 un0 s w) := by
  have hbu : un < 18446744073709551616 := by omega
  have hbY : Y < 18446744073709551616 := by have := hY.out; omega
  have hst : Kp (Inv yn1 yn0 un un1 (un / yn1) (un % yn1)) := ⟨Inv.start hyn hyn' hy0 hu hu1⟩
  obtain ⟨q0, hq0⟩ : ∃ q0, un / yn1 = q0 := ⟨_, rfl⟩
  obtain ⟨r0, hr0⟩ : ∃ r0, un % yn1 = r0 := ⟨_, rfl⟩
  have eq0 := quo_wraps (yn1 := yn1) hbu
  have er0 := rem_wraps (yn1 := yn1) hbu (by omega)
  rw [hq0] at eq0 er0 hst
  rw [hr0] at er0 hst
  clear hq0 hr0
  go_enter Try.func55, Try.ntmps55
  have h1 : ((y : Int) == 0) = false := by simp; omega
  have h2 : decide ((y : Int) ≤ hi) = false := by simp; omega
  have h3 : ((hi : Int) == 0) = false := by simp; omega
  go_wp2_with (go_at_call 65; refine hlz.mono ?_; rintro e w' ⟨rfl, rfl⟩)
  clear hlz eU eL f1 f0 eY e1 e0
  go_loop [15, 16] (fun a b => ∃ q r : Nat, a = .int .u64 q ∧ b = .int .u64 r ∧ Inv yn1 yn0 un un1 q r) (fun _ b => 4294967296 - (intOf b).toNat)
  case atStart => exact ⟨q0, r0, rfl, rfl, hst.out⟩
  case round =>
    obtain ⟨q, r, rfl, rfl, hinv⟩ := hrel
    obtain ⟨g1, g2⟩ := hinv.fits hy0 hu1
    have g3 := hinv.small
    have HI := Kp.mk hinv
    clear hinv eq0 er0 hst
    by_cases hq : 4294967296 ≤ q
    · have t1 : decide (((q : Nat) : Int) ≥ 4294967296) = true := by simp; omega
      obtain ⟨k0, k1, k2, k3⟩ := HI.out.lower hu hu1 (Or.inl hq)
      have eq1 : ((q : Nat) : Int) - 1 = ((q - 1 : Nat) : Int) := by omega
      have er1 : ((r : Nat) : Int) + (yn1 : Int) = ((r + yn1 : Nat) : Int) := by simp
      obtain ⟨m1, hm⟩ : ∃ m1, q - 1 = m1 := ⟨_, rfl⟩
      obtain ⟨v1, hv⟩ : ∃ v1, r + yn1 = v1 := ⟨_, rfl⟩
      rw [hm] at eq1 k3
      rw [hv] at er1
      have hv3 : v1 < 8589934592 := by omega
      by_cases hs : r + yn1 < 4294967296
      · have HN := Kp.mk (HI.out.again hu hu1 (Or.inl hq) hs)
        rw [hm, hv] at HN
        rw [hv] at hs
        have t4 : decide ((v1 : Int) ≥ 4294967296) = false := by simp; omega
        have HV : Kp (r < v1) := ⟨by omega⟩
        clear hm hv HI k0 k1 k2
        go_wp2
        go_round
        case rel => exact ⟨m1, v1, rfl, rfl, HN.out⟩
        case measure => have := HV.out; simp [intOf]; omega
      · have hd := HI.out.out hy0 hu hu1 (Or.inl hq) (by omega)
        rw [hm] at hd
        rw [hv] at hs
        have t4 : decide ((v1 : Int) ≥ 4294967296) = true := by simp; omega
        clear hm hv HI k0 k1 k2
        rw [← hY.out] at hd
        have HD := Kp.mk hd
        have r21 := rest_wraps hd hbY
        obtain ⟨u21, hu21⟩ : ∃ u, un * 4294967296 + un1 - m1 * Y = u := ⟨_, rfl⟩
        rw [hu21] at r21
        have hb21 : u21 < Y := by rw [← hu21]; exact Nat.sub_lt_left_of_lt_add hd.1 hd.2
        have hK := Kp.mk hu21
        clear hu21 hd
        have hb21' : u21 < 18446744073709551616 := Nat.lt_trans hb21 hbY
        have hst2 : Kp (Inv yn1 yn0 u21 un0 (u21 / yn1) (u21 % yn1)) := ⟨Inv.start hyn hyn' hy0 (by rw [← hY.out]; exact hb21) hu0⟩
        obtain ⟨p0, hp0⟩ : ∃ q0, u21 / yn1 = q0 := ⟨_, rfl⟩
        obtain ⟨s0, hs0⟩ : ∃ r0, u21 % yn1 = r0 := ⟨_, rfl⟩
        have ep0 := quo_wraps (yn1 := yn1) hb21'
        have es0 := rem_wraps (yn1 := yn1) hb21' (Nat.lt_of_lt_of_le (by decide) hyn)
        rw [hp0] at ep0 es0 hst2
        rw [hs0] at es0 hst2
        clear hp0 hs0
        have HU := Kp.mk hu
        have HB : Kp (u21 < yn1 * 4294967296 + yn0) := ⟨by rw [← hY.out]; exact hb21⟩
        have HBY := Kp.mk hbY
        have HBU := Kp.mk hbu
        clear hu hb21 hb21' hbY hbu h0 hh hlo
        go_wp2
        clear r21 ep0 es0
        go_loop [16, 18] (fun b a => ∃ p t : Nat, a = .int .u64 p ∧ b = .int .u64 t ∧ Inv yn1 yn0 u21 un0 p t) (fun b _ => 4294967296 - (intOf b).toNat)
        case atStart => exact ⟨p0, s0, rfl, rfl, hst2.out⟩
        case round =>
          obtain ⟨p, t, rfl, rfl, hinv⟩ := hrel
          obtain ⟨g1, g2⟩ := hinv.fits hy0 hu0
          have g3 := hinv.small
          have HI := Kp.mk hinv
          clear hinv hst2
          by_cases hq : 4294967296 ≤ p
          · have t1 : decide (((p : Nat) : Int) ≥ 4294967296) = true := by simp; omega
            obtain ⟨k0, k1, k2, k3⟩ := HI.out.lower HB.out hu0 (Or.inl hq)
            have eq1 : ((p : Nat) : Int) - 1 = ((p - 1 : Nat) : Int) := by omega
            have er1 : ((t : Nat) : Int) + (yn1 : Int) = ((t + yn1 : Nat) : Int) := by simp
            obtain ⟨m2, hm⟩ : ∃ m2, p - 1 = m2 := ⟨_, rfl⟩
            obtain ⟨v2, hv⟩ : ∃ v2, t + yn1 = v2 := ⟨_, rfl⟩
            rw [hm] at eq1 k3
            rw [hv] at er1
            have hv3 : v2 < 8589934592 := by omega
            by_cases hs : t + yn1 < 4294967296
            · have HN := Kp.mk (HI.out.again HB.out hu0 (Or.inl hq) hs)
              rw [hm, hv] at HN
              rw [hv] at hs
              have t4 : decide ((v2 : Int) ≥ 4294967296) = false := by simp; omega
              have HV : Kp (t < v2) := ⟨by omega⟩
              clear hm hv HI k0 k1 k2
              go_wp2
              go_round
              case rel => exact ⟨m2, v2, rfl, rfl, HN.out⟩
              case measure => have := HV.out; simp [intOf]; omega
            · have hd := HI.out.out hy0 HB.out hu0 (Or.inl hq) (by omega)
              rw [hm] at hd
              rw [hv] at hs
              have t4 : decide ((v2 : Int) ≥ 4294967296) = true := by simp; omega
              clear hm hv HI k0 k1 k2
              rw [← hY.out] at hd
              have HD' := Kp.mk hd
              have rR := rest_wraps hd HBY.out
              obtain ⟨R, hR⟩ : ∃ u, u21 * 4294967296 + un0 - m2 * Y = u := ⟨_, rfl⟩
              rw [hR] at rR
              have hK' := Kp.mk hR
              clear hR hd
              go_wp2
              go_ret2
              refine ⟨⟨m1, m2, u21, R, HD.out, hK.out, HD'.out, hK'.out, ?_⟩, rfl⟩
              have hz := HD.out.small (by rw [hY.out]; exact HU.out) hu1
              have hp := HD'.out.small (by rw [hY.out]; exact HB.out) hu0
              first | (simp [quo_parts hz hp]; done) | (simp; exact quo_sum hz hp)
          · have t1 : decide (((p : Nat) : Int) ≥ 4294967296) = false := by simp; omega
            by_cases hc : 4294967296 * t + un0 < p * yn0
            · obtain ⟨k0, k1, k2, k3⟩ := HI.out.lower HB.out hu0 (Or.inr hc)
              have eq1 : ((p : Nat) : Int) - 1 = ((p - 1 : Nat) : Int) := by omega
              have er1 : ((t : Nat) : Int) + (yn1 : Int) = ((t + yn1 : Nat) : Int) := by simp
              obtain ⟨m2, hm⟩ : ∃ m2, p - 1 = m2 := ⟨_, rfl⟩
              obtain ⟨v2, hv⟩ : ∃ v2, t + yn1 = v2 := ⟨_, rfl⟩
              rw [hm] at eq1 k3
              rw [hv] at er1
              have hv3 : v2 < 8589934592 := by omega
              by_cases hs : t + yn1 < 4294967296
              · have HN := Kp.mk (HI.out.again HB.out hu0 (Or.inr hc) hs)
                rw [hm, hv] at HN
                rw [hv] at hs
                have t4 : decide ((v2 : Int) ≥ 4294967296) = false := by simp; omega
                have HV : Kp (t < v2) := ⟨by omega⟩
                clear hm hv HI k0 k1 k2
                go_wp2
                go_round
                case rel => exact ⟨m2, v2, rfl, rfl, HN.out⟩
                case measure => have := HV.out; simp [intOf]; omega
              · have hd := HI.out.out hy0 HB.out hu0 (Or.inr hc) (by omega)
                rw [hm] at hd
                rw [hv] at hs
                have t4 : decide ((v2 : Int) ≥ 4294967296) = true := by simp; omega
                clear hm hv HI k0 k1 k2
                rw [← hY.out] at hd
                have HD' := Kp.mk hd
                have rR := rest_wraps hd HBY.out
                obtain ⟨R, hR⟩ : ∃ u, u21 * 4294967296 + un0 - m2 * Y = u := ⟨_, rfl⟩
                rw [hR] at rR
                have hK' := Kp.mk hR
                clear hR hd
                go_wp2
                go_ret2
                refine ⟨⟨m1, m2, u21, R, HD.out, hK.out, HD'.out, hK'.out, ?_⟩, rfl⟩
                have hz := HD.out.small (by rw [hY.out]; exact HU.out) hu1
                have hp := HD'.out.small (by rw [hY.out]; exact HB.out) hu0
                first | (simp [quo_parts hz hp]; done) | (simp; exact quo_sum hz hp)
            · have hd := HI.out.done (by omega)
              clear HI hq
              rw [← hY.out] at hd
              have HD' := Kp.mk hd
              have rR := rest_wraps hd HBY.out
              obtain ⟨R, hR⟩ : ∃ u, u21 * 4294967296 + un0 - p * Y = u := ⟨_, rfl⟩
              rw [hR] at rR
              have hK' := Kp.mk hR
              clear hR hd
              go_wp2
              go_ret2
              refine ⟨⟨m1, p, u21, R, HD.out, hK.out, HD'.out, hK'.out, ?_⟩, rfl⟩
              have hz := HD.out.small (by rw [hY.out]; exact HU.out) hu1
              have hp := HD'.out.small (by rw [hY.out]; exact HB.out) hu0
              first | (simp [quo_parts hz hp]; done) | (simp; exact quo_sum hz hp)

    · have t1 : decide (((q : Nat) : Int) ≥ 4294967296) = false := by simp; omega
      by_cases hc : 4294967296 * r + un1 < q * yn0
      · obtain ⟨k0, k1, k2, k3⟩ := HI.out.lower hu hu1 (Or.inr hc)
        have eq1 : ((q : Nat) : Int) - 1 = ((q - 1 : Nat) : Int) := by omega
        have er1 : ((r : Nat) : Int) + (yn1 : Int) = ((r + yn1 : Nat) : Int) := by simp
        obtain ⟨m1, hm⟩ : ∃ m1, q - 1 = m1 := ⟨_, rfl⟩
        obtain ⟨v1, hv⟩ : ∃ v1, r + yn1 = v1 := ⟨_, rfl⟩
        rw [hm] at eq1 k3
        rw [hv] at er1
        have hv3 : v1 < 8589934592 := by omega
        by_cases hs : r + yn1 < 4294967296
        · have HN := Kp.mk (HI.out.again hu hu1 (Or.inr hc) hs)
          rw [hm, hv] at HN
          rw [hv] at hs
          have t4 : decide ((v1 : Int) ≥ 4294967296) = false := by simp; omega
          have HV : Kp (r < v1) := ⟨by omega⟩
          clear hm hv HI k0 k1 k2
          go_wp2
          go_round
          case rel => exact ⟨m1, v1, rfl, rfl, HN.out⟩
          case measure => have := HV.out; simp [intOf]; omega
        · have hd := HI.out.out hy0 hu hu1 (Or.inr hc) (by omega)
          rw [hm] at hd
          rw [hv] at hs
          have t4 : decide ((v1 : Int) ≥ 4294967296) = true := by simp; omega
          clear hm hv HI k0 k1 k2
          rw [← hY.out] at hd
          have HD := Kp.mk hd
          have r21 := rest_wraps hd hbY
          obtain ⟨u21, hu21⟩ : ∃ u, un * 4294967296 + un1 - m1 * Y = u := ⟨_, rfl⟩
          rw [hu21] at r21
          have hb21 : u21 < Y := by rw [← hu21]; exact Nat.sub_lt_left_of_lt_add hd.1 hd.2
          have hK := Kp.mk hu21
          clear hu21 hd
          have hb21' : u21 < 18446744073709551616 := Nat.lt_trans hb21 hbY
          have hst2 : Kp (Inv yn1 yn0 u21 un0 (u21 / yn1) (u21 % yn1)) := ⟨Inv.start hyn hyn' hy0 (by rw [← hY.out]; exact hb21) hu0⟩
          obtain ⟨p0, hp0⟩ : ∃ q0, u21 / yn1 = q0 := ⟨_, rfl⟩
          obtain ⟨s0, hs0⟩ : ∃ r0, u21 % yn1 = r0 := ⟨_, rfl⟩
          have ep0 := quo_wraps (yn1 := yn1) hb21'
          have es0 := rem_wraps (yn1 := yn1) hb21' (Nat.lt_of_lt_of_le (by decide) hyn)
          rw [hp0] at ep0 es0 hst2
          rw [hs0] at es0 hst2
          clear hp0 hs0
          have HU := Kp.mk hu
          have HB : Kp (u21 < yn1 * 4294967296 + yn0) := ⟨by rw [← hY.out]; exact hb21⟩
          have HBY := Kp.mk hbY
          have HBU := Kp.mk hbu
          clear hu hb21 hb21' hbY hbu h0 hh hlo
          go_wp2
          clear r21 ep0 es0
          go_loop [16, 18] (fun b a => ∃ p t : Nat, a = .int .u64 p ∧ b = .int .u64 t ∧ Inv yn1 yn0 u21 un0 p t) (fun b _ => 4294967296 - (intOf b).toNat)
          case atStart => exact ⟨p0, s0, rfl, rfl, hst2.out⟩
          case round =>
            obtain ⟨p, t, rfl, rfl, hinv⟩ := hrel
            obtain ⟨g1, g2⟩ := hinv.fits hy0 hu0
            have g3 := hinv.small
            have HI := Kp.mk hinv
            clear hinv hst2
            by_cases hq : 4294967296 ≤ p
            · have t1 : decide (((p : Nat) : Int) ≥ 4294967296) = true := by simp; omega
              obtain ⟨k0, k1, k2, k3⟩ := HI.out.lower HB.out hu0 (Or.inl hq)
              have eq1 : ((p : Nat) : Int) - 1 = ((p - 1 : Nat) : Int) := by omega
              have er1 : ((t : Nat) : Int) + (yn1 : Int) = ((t + yn1 : Nat) : Int) := by simp
              obtain ⟨m2, hm⟩ : ∃ m2, p - 1 = m2 := ⟨_, rfl⟩
              obtain ⟨v2, hv⟩ : ∃ v2, t + yn1 = v2 := ⟨_, rfl⟩
              rw [hm] at eq1 k3
              rw [hv] at er1
              have hv3 : v2 < 8589934592 := by omega
              by_cases hs : t + yn1 < 4294967296
              · have HN := Kp.mk (HI.out.again HB.out hu0 (Or.inl hq) hs)
                rw [hm, hv] at HN
                rw [hv] at hs
                have t4 : decide ((v2 : Int) ≥ 4294967296) = false := by simp; omega
                have HV : Kp (t < v2) := ⟨by omega⟩
                clear hm hv HI k0 k1 k2
                go_wp2
                go_round
                case rel => exact ⟨m2, v2, rfl, rfl, HN.out⟩
                case measure => have := HV.out; simp [intOf]; omega
              · have hd := HI.out.out hy0 HB.out hu0 (Or.inl hq) (by omega)
                rw [hm] at hd
                rw [hv] at hs
                have t4 : decide ((v2 : Int) ≥ 4294967296) = true := by simp; omega
                clear hm hv HI k0 k1 k2
                rw [← hY.out] at hd
                have HD' := Kp.mk hd
                have rR := rest_wraps hd HBY.out
                obtain ⟨R, hR⟩ : ∃ u, u21 * 4294967296 + un0 - m2 * Y = u := ⟨_, rfl⟩
                rw [hR] at rR
                have hK' := Kp.mk hR
                clear hR hd
                go_wp2
                go_ret2
                refine ⟨⟨m1, m2, u21, R, HD.out, hK.out, HD'.out, hK'.out, ?_⟩, rfl⟩
                have hz := HD.out.small (by rw [hY.out]; exact HU.out) hu1
                have hp := HD'.out.small (by rw [hY.out]; exact HB.out) hu0
                first | (simp [quo_parts hz hp]; done) | (simp; exact quo_sum hz hp)
            · have t1 : decide (((p : Nat) : Int) ≥ 4294967296) = false := by simp; omega
              by_cases hc : 4294967296 * t + un0 < p * yn0
              · obtain ⟨k0, k1, k2, k3⟩ := HI.out.lower HB.out hu0 (Or.inr hc)
                have eq1 : ((p : Nat) : Int) - 1 = ((p - 1 : Nat) : Int) := by omega
                have er1 : ((t : Nat) : Int) + (yn1 : Int) = ((t + yn1 : Nat) : Int) := by simp
                obtain ⟨m2, hm⟩ : ∃ m2, p - 1 = m2 := ⟨_, rfl⟩
                obtain ⟨v2, hv⟩ : ∃ v2, t + yn1 = v2 := ⟨_, rfl⟩
                rw [hm] at eq1 k3
                rw [hv] at er1
                have hv3 : v2 < 8589934592 := by omega
                by_cases hs : t + yn1 < 4294967296
                · have HN := Kp.mk (HI.out.again HB.out hu0 (Or.inr hc) hs)
                  rw [hm, hv] at HN
                  rw [hv] at hs
                  have t4 : decide ((v2 : Int) ≥ 4294967296) = false := by simp; omega
                  have HV : Kp (t < v2) := ⟨by omega⟩
                  clear hm hv HI k0 k1 k2
                  go_wp2
                  go_round
                  case rel => exact ⟨m2, v2, rfl, rfl, HN.out⟩
                  case measure => have := HV.out; simp [intOf]; omega
                · have hd := HI.out.out hy0 HB.out hu0 (Or.inr hc) (by omega)
                  rw [hm] at hd
                  rw [hv] at hs
                  have t4 : decide ((v2 : Int) ≥ 4294967296) = true := by simp; omega
                  clear hm hv HI k0 k1 k2
                  rw [← hY.out] at hd
                  have HD' := Kp.mk hd
                  have rR := rest_wraps hd HBY.out
                  obtain ⟨R, hR⟩ : ∃ u, u21 * 4294967296 + un0 - m2 * Y = u := ⟨_, rfl⟩
                  rw [hR] at rR
                  have hK' := Kp.mk hR
                  clear hR hd
                  go_wp2
                  go_ret2
                  refine ⟨⟨m1, m2, u21, R, HD.out, hK.out, HD'.out, hK'.out, ?_⟩, rfl⟩
                  have hz := HD.out.small (by rw [hY.out]; exact HU.out) hu1
                  have hp := HD'.out.small (by rw [hY.out]; exact HB.out) hu0
                  first | (simp [quo_parts hz hp]; done) | (simp; exact quo_sum hz hp)
              · have hd := HI.out.done (by omega)
                clear HI hq
                rw [← hY.out] at hd
                have HD' := Kp.mk hd
                have rR := rest_wraps hd HBY.out
                obtain ⟨R, hR⟩ : ∃ u, u21 * 4294967296 + un0 - p * Y = u := ⟨_, rfl⟩
                rw [hR] at rR
                have hK' := Kp.mk hR
                clear hR hd
                go_wp2
                go_ret2
                refine ⟨⟨m1, p, u21, R, HD.out, hK.out, HD'.out, hK'.out, ?_⟩, rfl⟩
                have hz := HD.out.small (by rw [hY.out]; exact HU.out) hu1
                have hp := HD'.out.small (by rw [hY.out]; exact HB.out) hu0
                first | (simp [quo_parts hz hp]; done) | (simp; exact quo_sum hz hp)

      · have hd := HI.out.done (by omega)
        clear HI hq
        rw [← hY.out] at hd
        have HD := Kp.mk hd
        have r21 := rest_wraps hd hbY
        obtain ⟨u21, hu21⟩ : ∃ u, un * 4294967296 + un1 - q * Y = u := ⟨_, rfl⟩
        rw [hu21] at r21
        have hb21 : u21 < Y := by rw [← hu21]; exact Nat.sub_lt_left_of_lt_add hd.1 hd.2
        have hK := Kp.mk hu21
        clear hu21 hd
        have hb21' : u21 < 18446744073709551616 := Nat.lt_trans hb21 hbY
        have hst2 : Kp (Inv yn1 yn0 u21 un0 (u21 / yn1) (u21 % yn1)) := ⟨Inv.start hyn hyn' hy0 (by rw [← hY.out]; exact hb21) hu0⟩
        obtain ⟨p0, hp0⟩ : ∃ q0, u21 / yn1 = q0 := ⟨_, rfl⟩
        obtain ⟨s0, hs0⟩ : ∃ r0, u21 % yn1 = r0 := ⟨_, rfl⟩
        have ep0 := quo_wraps (yn1 := yn1) hb21'
        have es0 := rem_wraps (yn1 := yn1) hb21' (Nat.lt_of_lt_of_le (by decide) hyn)
        rw [hp0] at ep0 es0 hst2
        rw [hs0] at es0 hst2
        clear hp0 hs0
        have HU := Kp.mk hu
        have HB : Kp (u21 < yn1 * 4294967296 + yn0) := ⟨by rw [← hY.out]; exact hb21⟩
        have HBY := Kp.mk hbY
        have HBU := Kp.mk hbu
        clear hu hb21 hb21' hbY hbu h0 hh hlo
        go_wp2
        clear r21 ep0 es0
        go_loop [16, 18] (fun b a => ∃ p t : Nat, a = .int .u64 p ∧ b = .int .u64 t ∧ Inv yn1 yn0 u21 un0 p t) (fun b _ => 4294967296 - (intOf b).toNat)
        case atStart => exact ⟨p0, s0, rfl, rfl, hst2.out⟩
        case round =>
          obtain ⟨p, t, rfl, rfl, hinv⟩ := hrel
          obtain ⟨g1, g2⟩ := hinv.fits hy0 hu0
          have g3 := hinv.small
          have HI := Kp.mk hinv
          clear hinv hst2
          by_cases hq : 4294967296 ≤ p
          · have t1 : decide (((p : Nat) : Int) ≥ 4294967296) = true := by simp; omega
            obtain ⟨k0, k1, k2, k3⟩ := HI.out.lower HB.out hu0 (Or.inl hq)
            have eq1 : ((p : Nat) : Int) - 1 = ((p - 1 : Nat) : Int) := by omega
            have er1 : ((t : Nat) : Int) + (yn1 : Int) = ((t + yn1 : Nat) : Int) := by simp
            obtain ⟨m2, hm⟩ : ∃ m2, p - 1 = m2 := ⟨_, rfl⟩
            obtain ⟨v2, hv⟩ : ∃ v2, t + yn1 = v2 := ⟨_, rfl⟩
            rw [hm] at eq1 k3
            rw [hv] at er1
            have hv3 : v2 < 8589934592 := by omega
            by_cases hs : t + yn1 < 4294967296
            · have HN := Kp.mk (HI.out.again HB.out hu0 (Or.inl hq) hs)
              rw [hm, hv] at HN
              rw [hv] at hs
              have t4 : decide ((v2 : Int) ≥ 4294967296) = false := by simp; omega
              have HV : Kp (t < v2) := ⟨by omega⟩
              clear hm hv HI k0 k1 k2
              go_wp2
              go_round
              case rel => exact ⟨m2, v2, rfl, rfl, HN.out⟩
              case measure => have := HV.out; simp [intOf]; omega
            · have hd := HI.out.out hy0 HB.out hu0 (Or.inl hq) (by omega)
              rw [hm] at hd
              rw [hv] at hs
              have t4 : decide ((v2 : Int) ≥ 4294967296) = true := by simp; omega
              clear hm hv HI k0 k1 k2
              rw [← hY.out] at hd
              have HD' := Kp.mk hd
              have rR := rest_wraps hd HBY.out
              obtain ⟨R, hR⟩ : ∃ u, u21 * 4294967296 + un0 - m2 * Y = u := ⟨_, rfl⟩
              rw [hR] at rR
              have hK' := Kp.mk hR
              clear hR hd
              go_wp2
              go_ret2
              refine ⟨⟨q, m2, u21, R, HD.out, hK.out, HD'.out, hK'.out, ?_⟩, rfl⟩
              have hz := HD.out.small (by rw [hY.out]; exact HU.out) hu1
              have hp := HD'.out.small (by rw [hY.out]; exact HB.out) hu0
              first | (simp [quo_parts hz hp]; done) | (simp; exact quo_sum hz hp)
          · have t1 : decide (((p : Nat) : Int) ≥ 4294967296) = false := by simp; omega
            by_cases hc : 4294967296 * t + un0 < p * yn0
            · obtain ⟨k0, k1, k2, k3⟩ := HI.out.lower HB.out hu0 (Or.inr hc)
              have eq1 : ((p : Nat) : Int) - 1 = ((p - 1 : Nat) : Int) := by omega
              have er1 : ((t : Nat) : Int) + (yn1 : Int) = ((t + yn1 : Nat) : Int) := by simp
              obtain ⟨m2, hm⟩ : ∃ m2, p - 1 = m2 := ⟨_, rfl⟩
              obtain ⟨v2, hv⟩ : ∃ v2, t + yn1 = v2 := ⟨_, rfl⟩
              rw [hm] at eq1 k3
              rw [hv] at er1
              have hv3 : v2 < 8589934592 := by omega
              by_cases hs : t + yn1 < 4294967296
              · have HN := Kp.mk (HI.out.again HB.out hu0 (Or.inr hc) hs)
                rw [hm, hv] at HN
                rw [hv] at hs
                have t4 : decide ((v2 : Int) ≥ 4294967296) = false := by simp; omega
                have HV : Kp (t < v2) := ⟨by omega⟩
                clear hm hv HI k0 k1 k2
                go_wp2
                go_round
                case rel => exact ⟨m2, v2, rfl, rfl, HN.out⟩
                case measure => have := HV.out; simp [intOf]; omega
              · have hd := HI.out.out hy0 HB.out hu0 (Or.inr hc) (by omega)
                rw [hm] at hd
                rw [hv] at hs
                have t4 : decide ((v2 : Int) ≥ 4294967296) = true := by simp; omega
                clear hm hv HI k0 k1 k2
                rw [← hY.out] at hd
                have HD' := Kp.mk hd
                have rR := rest_wraps hd HBY.out
                obtain ⟨R, hR⟩ : ∃ u, u21 * 4294967296 + un0 - m2 * Y = u := ⟨_, rfl⟩
                rw [hR] at rR
                have hK' := Kp.mk hR
                clear hR hd
                go_wp2
                go_ret2
                refine ⟨⟨q, m2, u21, R, HD.out, hK.out, HD'.out, hK'.out, ?_⟩, rfl⟩
                have hz := HD.out.small (by rw [hY.out]; exact HU.out) hu1
                have hp := HD'.out.small (by rw [hY.out]; exact HB.out) hu0
                first | (simp [quo_parts hz hp]; done) | (simp; exact quo_sum hz hp)
            · have hd := HI.out.done (by omega)
              clear HI hq
              rw [← hY.out] at hd
              have HD' := Kp.mk hd
              have rR := rest_wraps hd HBY.out
              obtain ⟨R, hR⟩ : ∃ u, u21 * 4294967296 + un0 - p * Y = u := ⟨_, rfl⟩
              rw [hR] at rR
              have hK' := Kp.mk hR
              clear hR hd
              go_wp2
              go_ret2
              refine ⟨⟨q, p, u21, R, HD.out, hK.out, HD'.out, hK'.out, ?_⟩, rfl⟩
              have hz := HD.out.small (by rw [hY.out]; exact HU.out) hu1
              have hp := HD'.out.small (by rw [hY.out]; exact HB.out) hu0
              first | (simp [quo_parts hz hp]; done) | (simp; exact quo_sum hz hp)


/-- math/bits.Div64 for hi < y: the quotient and the remainder of two words by one; nothing in memory turns. -/
theorem div64_any (hi lo y : Nat) (hh : hi < y) (hlo : lo < 18446744073709551616) (hy : y < 18446744073709551616) (w : World) :
    Calls Try.prog 55 #[.int .u64 hi, .int .u64 lo, .int .u64 y] w fun e w' => e = .returned (.tuple #[.int .u64 (((hi * 18446744073709551616 + lo) / y : Nat) : Int), .int .u64 (((hi * 18446744073709551616 + lo) % y : Nat) : Int)]) ∧ ∃ n, w' = w.drewN n := by
  rcases Nat.eq_zero_or_pos hi with rfl | h0
  · have := div64_zero lo y (by omega) hlo hy w
    simpa using this
  · obtain ⟨s, hs, a, b, hlz⟩ := lz_any y (by omega) hy w
    have hn := normal (lo := lo) hs hh hlo
    have hh2 : hi * 2 ^ s < 18446744073709551616 := Nat.lt_of_le_of_lt (Nat.le_add_right _ _) (Nat.lt_trans hn (by simpa using b))
    have hY : y * 2 ^ s < 18446744073709551616 := by simpa using b
    have a' : 9223372036854775808 ≤ y * 2 ^ s := by simpa using a
    have hL : lo * 2 ^ s % 18446744073709551616 < 18446744073709551616 := Nat.mod_lt _ (by decide)
    obtain ⟨Y, eY⟩ : ∃ Y, y * 2 ^ s = Y := ⟨_, rfl⟩
    obtain ⟨L, eL⟩ : ∃ L, lo * 2 ^ s % 18446744073709551616 = L := ⟨_, rfl⟩
    obtain ⟨un, eU⟩ : ∃ u, hi * 2 ^ s + lo / 2 ^ (64 - s) = u := ⟨_, rfl⟩
    have wY := shl_wraps (x := y) (s := s) hY
    have wL := shl_mod lo s
    have wU := or_wraps (hi := hi) hs hlo hh2
    have sh := shifted (hi := hi) (lo := lo) hs
    rw [eY] at wY hn a' hY
    rw [eL] at wL hL sh
    rw [eU] at wU hn sh
    have hs' := hs
    refine (div64_walk hi lo y Y (Y / 4294967296) (Y % 4294967296) un (L / 4294967296) (L % 4294967296) L h0 hh hlo hy w s hs hlz wY (Int.natCast_ediv _ _).symm (and_wraps Y hY) wU wL (Int.natCast_ediv _ _).symm (and_wraps L hL) (by omega) (by omega) (Nat.mod_lt _ (by decide)) (by omega) (Nat.mod_lt _ (by decide)) (by omega) ⟨by omega⟩).mono ?_
    rintro e w' ⟨⟨q1, q0, u21, R, d1, h21, d0, hR, rfl⟩, rfl⟩
    rw [← eY] at d1 h21 d0 hR
    obtain ⟨x1, x2⟩ := whole_core (Nat.pow_pos (by decide)) sh (by omega) d1 h21 d0 hR
    rw [x1, x2]
    exact ⟨rfl, 0, rfl⟩
end Go.Proofs.Ytfpepiabpadjdaa
