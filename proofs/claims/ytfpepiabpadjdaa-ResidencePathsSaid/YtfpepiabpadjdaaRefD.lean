/-
  The reference's division, as far as it is reached: a divisor below 2^31.
-/
import Derived.Test.YtfpepiabpadjdaaRefC
set_option linter.unusedSimpArgs false
set_option linter.unusedVariables false
namespace Go.Proofs.Ytfpepiabpadjdaa
open Go.RowKit
theorem or_bit (x b : Nat) (hx : 2 * x < 18446744073709551616) (hb : b < 2) : bits .or .u64 ((2 * x : Nat) : Int) (b : Int) = ((2 * x + b : Nat) : Int) := by
  have e : bits .or .u64 ((2 * x : Nat) : Int) (b : Int) = IntKind.u64.wrap (((BitVec.ofInt 64 ((2 * x : Nat) : Int)) ||| (BitVec.ofInt 64 (b : Int))).toNat : Int) := rfl
  rw [e, BitVec.toNat_or, BitVec.toNat_ofInt, BitVec.toNat_ofInt]
  have e1 : (((2 * x : Nat) : Int) % ((2 ^ 64 : Nat) : Int)).toNat = 2 * x := by
    have : ((2 ^ 64 : Nat) : Int) = 18446744073709551616 := by decide
    rw [this]; omega
  have e2 : ((b : Int) % ((2 ^ 64 : Nat) : Int)).toNat = b := by
    have : ((2 ^ 64 : Nat) : Int) = 18446744073709551616 := by decide
    rw [this]; omega
  rw [e1, e2]
  have e3 : 2 * x ||| b = 2 * x + b := by
    have := Nat.shiftLeft_add_eq_or_of_lt (i := 1) (b := b) (by simpa using hb) x
    have e4 : x <<< 1 = 2 * x := by rw [Nat.shiftLeft_eq]; omega
    rw [e4] at this
    exact this.symm
  rw [e3, w_mod]
  omega
/-- Behind k rounds. -/
structure DV (N c k h l q1 q0 r : Nat) : Prop where
  eq : N * 2 ^ k = ((q1 * 18446744073709551616 + q0) * c + r) * 340282366920938463463374607431768211456 + (h * 18446744073709551616 + l)
  rc : r < c
  hh : h < 18446744073709551616
  hl : l < 18446744073709551616
  hq : q0 < 18446744073709551616
theorem DV.q1lt {N c k h l q1 q0 r : Nat} (d : DV N c k h l q1 q0 r) (hN : N < 19342813113834066795298816) (hk : k ≤ 128) : q1 < 1048576 := by
  have h1 : N * 2 ^ k ≤ N * 340282366920938463463374607431768211456 := Nat.mul_le_mul_left _ (by
    have : (2 : Nat) ^ k ≤ 2 ^ 128 := Nat.pow_le_pow_right (by decide) hk
    simpa using this)
  have h2 := d.eq
  have h0 := d.rc
  have h3 : q1 * 18446744073709551616 + q0 ≤ (q1 * 18446744073709551616 + q0) * c := Nat.le_mul_of_pos_right _ (by omega)
  generalize (q1 * 18446744073709551616 + q0) * c = Q at *
  generalize N * 2 ^ k = P at *
  omega
theorem DV.step0 {N c k h l q1 q0 r : Nat} (d : DV N c k h l q1 q0 r) (hr : 2 * r + h / 9223372036854775808 < c) :
    DV N c (k + 1) (2 * h % 18446744073709551616 + l / 9223372036854775808) (2 * l % 18446744073709551616) (2 * q1 + q0 / 9223372036854775808) (2 * q0 % 18446744073709551616) (2 * r + h / 9223372036854775808) := by
  obtain ⟨eq, rc, hh, hl, hq⟩ := d
  refine ⟨?_, hr, by omega, by omega, by omega⟩
  have e1 : N * 2 ^ (k + 1) = 2 * (N * 2 ^ k) := by rw [Nat.pow_succ, Nat.mul_comm 2, Nat.mul_assoc]
  have e2 : (2 * q1 + q0 / 9223372036854775808) * 18446744073709551616 + 2 * q0 % 18446744073709551616 = 2 * (q1 * 18446744073709551616 + q0) := by omega
  rw [e1, eq, e2, Nat.mul_assoc 2]
  generalize (q1 * 18446744073709551616 + q0) * c = Q
  omega
theorem DV.step1 {N c k h l q1 q0 r : Nat} (d : DV N c k h l q1 q0 r) (hr : c ≤ 2 * r + h / 9223372036854775808) :
    DV N c (k + 1) (2 * h % 18446744073709551616 + l / 9223372036854775808) (2 * l % 18446744073709551616) (2 * q1 + q0 / 9223372036854775808) (2 * q0 % 18446744073709551616 + 1) (2 * r + h / 9223372036854775808 - c) := by
  obtain ⟨eq, rc, hh, hl, hq⟩ := d
  refine ⟨?_, by omega, by omega, by omega, by omega⟩
  have e1 : N * 2 ^ (k + 1) = 2 * (N * 2 ^ k) := by rw [Nat.pow_succ, Nat.mul_comm 2, Nat.mul_assoc]
  have e2 : (2 * q1 + q0 / 9223372036854775808) * 18446744073709551616 + (2 * q0 % 18446744073709551616 + 1) = 2 * (q1 * 18446744073709551616 + q0) + 1 := by omega
  have e3 : (2 * (q1 * 18446744073709551616 + q0) + 1) * c = 2 * ((q1 * 18446744073709551616 + q0) * c) + c := by
    generalize q1 * 18446744073709551616 + q0 = q
    rw [Nat.add_mul, Nat.mul_assoc, Nat.one_mul]
  rw [e1, eq, e2, e3]
  clear e2 e3
  generalize (q1 * 18446744073709551616 + q0) * c = Q
  omega
theorem DV.done {N c h l q1 q0 r : Nat} (d : DV N c 128 h l q1 q0 r) : q1 = N / c / 18446744073709551616 ∧ q0 = N / c % 18446744073709551616 ∧ r = N % c := by
  obtain ⟨eq, rc, hh, hl, hq⟩ := d
  have e : (2 : Nat) ^ 128 = 340282366920938463463374607431768211456 := by decide
  rw [e] at eq
  have e2 : N = (q1 * 18446744073709551616 + q0) * c + r := by
    generalize (q1 * 18446744073709551616 + q0) * c = Q at *
    omega
  have hq2 : N / c = q1 * 18446744073709551616 + q0 := by
    rw [e2, Nat.mul_comm, Nat.mul_add_div (by omega), Nat.div_eq_of_lt rc, Nat.add_zero]
  have hr2 : N % c = r := by rw [e2, Nat.mul_comm, Nat.mul_add_mod, Nat.mod_eq_of_lt rc]
  rw [hq2, hr2]
  omega
theorem DV.start {N c hi lo : Nat} (hN : hi * 18446744073709551616 + lo = N) (hc : 0 < c) (h1 : hi < 18446744073709551616) (h2 : lo < 18446744073709551616) : DV N c 0 hi lo 0 0 0 :=
  ⟨by rw [← hN]; simp, hc, h1, h2, by decide⟩
set_option maxRecDepth 20000 in
set_option maxHeartbeats 4000000 in
theorem rdivide_any (hi lo c N : Nat) (hN : hi * 18446744073709551616 + lo = N) (hN2 : N < 19342813113834066795298816) (h2 : lo < 18446744073709551616) (hc : 0 < c) (hc2 : c < 2147483648) (w : World) :
    Calls Try.prog 59 #[.int .u64 hi, .int .u64 lo, .int .u64 c] w fun x w' => x = .returned (.tuple #[.int .u64 ((N / c / 18446744073709551616 : Nat) : Int), .int .u64 ((N / c % 18446744073709551616 : Nat) : Int), .int .u64 ((N % c : Nat) : Int)]) ∧ w = w' := by
  have H0 := Kp.mk (DV.start hN hc (by omega) h2)
  have HC := Kp.mk (And.intro hN2 hc2)
  clear hN hN2 h2 hc hc2
  go_enter Try.func59, Try.ntmps59
  go_wp2
  go_loopw [0, 1, 9, 10, 11, 12] (fun hv lv q1v q0v rv i wr => ∃ q1 q0 r h l k : Nat, hv = .int .u64 h ∧ lv = .int .u64 l ∧ q1v = .int .u64 q1 ∧ q0v = .int .u64 q0 ∧ rv = .int .u64 r ∧ i = .int .i64 k ∧ k ≤ 128 ∧ DV N c k h l q1 q0 r ∧ w = wr) (fun _ _ _ _ _ i _ => 128 - (intOf i).toNat)
  case atStart => exact ⟨0, 0, 0, hi, lo, 0, rfl, rfl, rfl, rfl, rfl, rfl, by omega, H0.out, rfl⟩
  case round =>
    obtain ⟨q1, q0, r, h, l, k, rfl, rfl, rfl, rfl, rfl, rfl, hk, hd, rfl⟩ := hrel
    by_cases hlt : k < 128
    · have t1 : decide ((k : Int) < 128) = true := by simp; omega
      have hq1 := hd.q1lt HC.out.1 hk
      obtain ⟨hN2, hc2⟩ := HC.out
      have hrc := hd.rc
      have hh := hd.hh
      have hl := hd.hl
      have hq := hd.hq
      obtain ⟨r2, hr2⟩ : ∃ x, 2 * r + h / 9223372036854775808 = x := ⟨_, rfl⟩
      obtain ⟨h2, hh2⟩ : ∃ x, 2 * h % 18446744073709551616 + l / 9223372036854775808 = x := ⟨_, rfl⟩
      obtain ⟨l2, hl2⟩ : ∃ x, 2 * l % 18446744073709551616 = x := ⟨_, rfl⟩
      obtain ⟨p1, hp1⟩ : ∃ x, 2 * q1 + q0 / 9223372036854775808 = x := ⟨_, rfl⟩
      obtain ⟨p0, hp0⟩ : ∃ x, 2 * q0 % 18446744073709551616 = x := ⟨_, rfl⟩
      have s0 := fun hr => hd.step0 hr
      have s1 := fun hr => hd.step1 hr
      rw [hr2, hh2, hl2, hp1, hp0] at s0 s1
      have a1 : (r : Int) / 9223372036854775808 = 0 := by omega
      have a2 : bits .or .u64 (IntKind.u64.wrap ((r : Int) * 2)) ((h : Int) / 9223372036854775808) = (r2 : Int) := by
        have e1 : IntKind.u64.wrap ((r : Int) * 2) = ((2 * r : Nat) : Int) := by rw [w_mod]; omega
        have e2 : (h : Int) / 9223372036854775808 = ((h / 9223372036854775808 : Nat) : Int) := by omega
        rw [e1, e2, or_bit _ _ (by omega) (by omega), hr2]
      have a2' : bits .or .u64 ((r : Int) * 2) ((h : Int) / 9223372036854775808) = (r2 : Int) := by
        rw [← a2]; congr 1; rw [w_mod]; omega
      have a3 : bits .or .u64 (IntKind.u64.wrap ((h : Int) * 2)) ((l : Int) / 9223372036854775808) = (h2 : Int) := by
        have e1 : IntKind.u64.wrap ((h : Int) * 2) = ((2 * (h % 9223372036854775808) : Nat) : Int) := by rw [w_mod]; omega
        have e2 : (l : Int) / 9223372036854775808 = ((l / 9223372036854775808 : Nat) : Int) := by omega
        rw [e1, e2, or_bit _ _ (by omega) (by omega)]
        omega
      have a4 : IntKind.u64.wrap ((l : Int) * 2) = (l2 : Int) := by rw [w_mod]; omega
      have a5 : bits .or .u64 (IntKind.u64.wrap ((q1 : Int) * 2)) ((q0 : Int) / 9223372036854775808) = (p1 : Int) := by
        have e1 : IntKind.u64.wrap ((q1 : Int) * 2) = ((2 * q1 : Nat) : Int) := by rw [w_mod]; omega
        have e2 : (q0 : Int) / 9223372036854775808 = ((q0 / 9223372036854775808 : Nat) : Int) := by omega
        rw [e1, e2, or_bit _ _ (by omega) (by omega), hp1]
      have a5' : bits .or .u64 ((q1 : Int) * 2) ((q0 : Int) / 9223372036854775808) = (p1 : Int) := by
        rw [← a5]; congr 1; rw [w_mod]; omega
      have a6 : IntKind.u64.wrap ((q0 : Int) * 2) = (p0 : Int) := by rw [w_mod]; omega
      have a7 : bits .or .u64 (p0 : Int) 1 = ((p0 + 1 : Nat) : Int) := by
        have e1 : (p0 : Int) = ((2 * (p0 / 2) : Nat) : Int) := by omega
        have := or_bit (p0 / 2) 1 (by omega) (by decide)
        rw [← e1] at this
        rw [show ((1 : Nat) : Int) = 1 from rfl] at this
        rw [this]
        omega
      have S0 := Kp.mk (And.intro s0 s1)
      clear s0 s1
      by_cases hcr : c ≤ r2
      · have t2 : decide ((c : Int) ≤ (r2 : Int)) = true := by simp; omega
        have a8 : IntKind.u64.wrap ((r2 : Int) - (c : Int)) = ((r2 - c : Nat) : Int) := by rw [w_mod]; omega
        have S := Kp.mk (S0.out.2 hcr)
        clear S0 hr2 hh2 hl2 hp1 hp0 hq1 hN2 hc2 hrc hh hl hq hd
        have hcr' := hcr
        go_wp2
        all_goals first
          | (exfalso; omega)
          | (go_roundw
             case rel => exact ⟨_, _, _, _, _, k + 1, rfl, rfl, rfl, rfl, rfl, by go_num, by omega, S.out, by first | trivial | rfl⟩
             case measure => simp [intOf]; omega)
      · have t2 : decide ((c : Int) ≤ (r2 : Int)) = false := by simp; omega
        have S := Kp.mk (S0.out.1 (by omega))
        clear S0 hr2 hh2 hl2 hp1 hp0 hq1 hN2 hc2 hrc hh hl hq hd
        have hcr' := hcr
        go_wp2
        all_goals first
          | (exfalso; omega)
          | (go_roundw
             case rel => exact ⟨_, _, _, _, _, k + 1, rfl, rfl, rfl, rfl, rfl, by go_num, by omega, S.out, by first | trivial | rfl⟩
             case measure => simp [intOf]; omega)
    · obtain rfl : k = 128 := by omega
      have S := Kp.mk hd.done
      clear hd hlt hk
      go_wp2
      exact bodyPost_ret (v := .tuple #[.int .u64 q1, .int .u64 q0, .int .u64 r]) (by simp [results, Try.results59, go_sem]) rfl ⟨by rw [← S.out.1, ← S.out.2.1, ← S.out.2.2], rfl⟩
end Go.Proofs.Ytfpepiabpadjdaa
