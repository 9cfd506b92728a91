/-
  The contract of package pll's small.
-/
import Derived.Test.YtbfobodaeimklaaDoorPllC
set_option linter.unusedSimpArgs false
set_option linter.unusedVariables false
namespace Go.Proofs.YtbfobodaeimklaaDoor
open Go.RowKit
set_option maxHeartbeats 1000000 in
theorem small_unset (b : Nat) (s : LS) (o mu poll : Int) (w : World) (h : Lp w b s) (hs : s.st = 0) : Calls Tryd.prog 28 #[.pointer (some ⟨b, 0, none⟩), .int .i64 o, .int .i64 mu, .int .i64 poll] w (LPost b { s with st := 1, ph := o } (.tuple #[]) w) := by
  have H := Kp.mk h
  obtain ⟨lt, c0, c1, c2, c3, c4, c5, c6, c7, c8, c9, c10, c11, f5, f6, f7, f8, f9, f10, f11⟩ := h
  rw [hs] at c5
  go_enter Tryd.func28, Tryd.ntmps28
  go_wp2
  refine bodyPost_end (results_none rfl _ _ _) rfl ⟨rfl, ?_, ?_⟩
  · exact (H.out.set5 _).set7 _
  · exact ((Oth.refl _ _).setCell (by rfl) _).setCell (by rfl) _
set_option maxHeartbeats 1000000 in
theorem small_freq (b : Nat) (s : LS) (o mu poll : Int) (w : World) (h : Lp w b s) (hs : s.st = 1) (hm : 1 ≤ mu) (ho : -1125899906842624 ≤ o) (ho2 : o ≤ 1125899906842624) (q1 : 1 ≤ s.li) (q2 : s.li ≤ 500000) (q3 : -s.li ≤ s.fr) (q4 : s.fr ≤ s.li) : Calls Tryd.prog 28 #[.pointer (some ⟨b, 0, none⟩), .int .i64 o, .int .i64 mu, .int .i64 poll] w (LPost b { s with st := 3, ph := o, fr := clampF (s.fr + o / mu) (-s.li) s.li } (.tuple #[]) w) := by
  have H := Kp.mk h
  obtain ⟨lt, c0, c1, c2, c3, c4, c5, c6, c7, c8, c9, c10, c11, f5, f6, f7, f8, f9, f10, f11⟩ := h
  rw [hs] at c5
  have hb := tdiv_abs (show 0 < mu by omega) ho ho2
  have fl := fun w => fl_any o mu (by omega) (by omega) (by omega) w
  have ad := fun (w1 : World) (h1 : Lp w1 b s) => add_any b s (o / mu) w1 h1 (by omega) (by omega) q1 q2
  clear hm ho ho2 q1 q2 q3 q4 hb
  go_enter Tryd.func28, Tryd.ntmps28
  go_wp2_with (first | (go_at_call 32; refine (fl _).mono ?_; rintro e w' ⟨rfl, rfl⟩) | fail)
  clear c0 c1 c2 c3 c4 c5 c6 c7 c8 c9 c10 c11 f5 f6 f7 f8 f9 f10 f11
  refine (ad _ H.out).mono ?_
  rintro x w1 ⟨rfl, hl, ho⟩
  have HL := Kp.mk hl
  have HO := Kp.mk ho
  obtain ⟨lt1, c0, c1, c2, c3, c4, c5, c6, c7, c8, c9, c10, c11, f5, f6, f7, f8, f9, f10, f11⟩ := hl
  clear ho ad fl lt
  go_wp2
  refine bodyPost_end (results_none rfl _ _ _) rfl ⟨rfl, ?_, ?_⟩
  · exact (HL.out.set5 _).set7 _
  · exact (HO.out.setCell (by rfl) _).setCell (by rfl) _
theorem Below.of_some {w W : World} (h : ∃ k, W = w.drewN k) : Below w.heap.size w W := by obtain ⟨k, rfl⟩ := h; exact Below.of_drewN _ _
theorem quo_bound {o m C : Int} (ho : -1125899906842624 ≤ o) (ho2 : o ≤ 1125899906842624) (hm : 0 ≤ m) (hC : m ≤ C) (hC0 : 0 < C) : -1125899906842624 ≤ o * m / C ∧ o * m / C ≤ 1125899906842624 := by
  have h1 : -1125899906842624 * m ≤ o * m := Int.mul_le_mul_of_nonneg_right ho hm
  have h2 : o * m ≤ 1125899906842624 * m := Int.mul_le_mul_of_nonneg_right ho2 hm
  exact ⟨(Int.le_ediv_iff_mul_le hC0).2 (by omega), Int.lt_add_one_iff.1 ((Int.ediv_lt_iff_lt_mul hC0).2 (by omega))⟩
theorem pow_prod {p T : Int} (p1 : 3 ≤ p) (p2 : p ≤ 17) (hT : (2 : Int) ^ p.toNat = T) : 16 * T ≤ 2097152 ∧ T ≤ 16 * T * T ∧ 16 * T * T ≤ 274877906944 := by
  obtain ⟨k, hk⟩ : ∃ k, p.toNat = k := ⟨_, rfl⟩
  rw [hk] at hT
  have h1 : 3 ≤ k := by omega
  have h2 : k ≤ 17 := by omega
  clear hk p1 p2
  subst hT
  rcases (show k = 3 ∨ k = 4 ∨ k = 5 ∨ k = 6 ∨ k = 7 ∨ k = 8 ∨ k = 9 ∨ k = 10 ∨ k = 11 ∨ k = 12 ∨ k = 13 ∨ k = 14 ∨ k = 15 ∨ k = 16 ∨ k = 17 by omega) with h | h | h | h | h | h | h | h | h | h | h | h | h | h | h <;> subst h <;> decide
/-- The correction of the frequency that a small update makes in LoopSync and LoopSpike. -/
def corr (ph o mu poll : Int) : Int := o * min mu (2 ^ poll.toNat) / (16 * 2 ^ poll.toNat * 2 ^ poll.toNat) + if 11 ≤ poll then (o - ph) / (4 * max mu 2048) else 0

set_option maxHeartbeats 1000000 in
theorem small_near (b : Nat) (s : LS) (o mu poll : Int) (w : World) (h : Lp w b s) (hs : s.st ≠ 0) (hs1 : s.st ≠ 1) (hm : 1 ≤ mu) (hm2 : mu ≤ 1073741824) (hp : 3 ≤ poll) (hp2 : poll ≤ 17) (hf : poll < 11) (ho : -1125899906842624 ≤ o) (ho2 : o ≤ 1125899906842624) (hh : -1125899906842624 ≤ s.ph) (hh2 : s.ph ≤ 1125899906842624) (q1 : 1 ≤ s.li) (q2 : s.li ≤ 500000) (q3 : -s.li ≤ s.fr) (q4 : s.fr ≤ s.li) : Calls Tryd.prog 28 #[.pointer (some ⟨b, 0, none⟩), .int .i64 o, .int .i64 mu, .int .i64 poll] w (LPost b { s with st := 3, ph := o, fr := clampF (s.fr + corr s.ph o mu poll) (-s.li) s.li } (.tuple #[]) w) := by
  have H := Kp.mk h
  obtain ⟨lt, c0, c1, c2, c3, c4, c5, c6, c7, c8, c9, c10, c11, f5, f6, f7, f8, f9, f10, f11⟩ := h
  have hpow := pow_rows hp hp2
  obtain ⟨T, hT⟩ : ∃ T, (2 : Int) ^ poll.toNat = T := ⟨_, rfl⟩
  have hpp := pow_prod hp hp2 hT
  have t1 : (s.st == 0) = false := by simpa using hs
  have t2 : (s.st == 1) = false := by simpa using hs1
  have t3 : decide (poll ≥ 11) = false := by simp; omega
  have ec : corr s.ph o mu poll = o * min mu T / (16 * T * T) := by unfold corr; rw [hT, if_neg (by omega)]; omega
  rw [ec]
  rw [hT] at hpow
  have eT : IntKind.i64.wrap T = T := by rw [IntKind.wrap_i64]; omega
  have eT1 : IntKind.i64.wrap (1 * T) = T := by rw [IntKind.wrap_i64]; omega
  have e16 : wrap64 (16 * T) = 16 * T := by unfold wrap64; omega
  obtain ⟨C, hC⟩ : ∃ C, 16 * T * T = C := ⟨_, rfl⟩
  rw [hC] at hpp ⊢
  have eC : wrap64 C = C := by unfold wrap64; omega
  obtain ⟨m, hmm⟩ : ∃ m, min mu T = m := ⟨_, rfl⟩
  have hm0 : 1 ≤ m ∧ m ≤ T := by omega
  have qb := quo_bound (m := m) (C := C) ho ho2 (by omega) (by omega) (by omega)
  have md := fun w => muldiv_any o m C (by omega) (by omega) (by omega) (by omega) (by omega) (by omega) w
  have hmd : mdiv o m C = (o * m / C, true) := by unfold mdiv; rw [if_pos (by omega)]
  unfold MulPost at md
  rw [hmd] at md
  rw [hmm]
  obtain ⟨Q, hQ⟩ : ∃ Q, o * m / C = Q := ⟨_, rfl⟩
  rw [hQ] at md qb ⊢
  have ad := fun (w1 : World) (h1 : Lp w1 b s) => add_any b s Q w1 h1 (by omega) (by omega) q1 q2
  clear hs hs1 hf ho ho2 hh hh2 q1 q2 q3 q4 ec hpp hQ qb hmd hm2 hm0
  go_enter Tryd.func28, Tryd.ntmps28
  go_wp2_with fail
  clear c0 c1 c2 c3 c4 c5 c6 c7 c8 c9 c10 c11 f5 f6 f7 f8 f9 f10 f11
  refine (md _).mono ?_
  rintro x w1 ⟨rfl, k, hw1⟩
  have hb := Below.of_some ⟨k, hw1⟩
  have HB := Kp.mk hb
  have hl := H.out.below hb lt
  have HL := Kp.mk hl
  obtain ⟨lt1, c0, c1, c2, c3, c4, c5, c6, c7, c8, c9, c10, c11, f5, f6, f7, f8, f9, f10, f11⟩ := hl
  clear hw1 hb md
  go_wp2_with fail
  clear c0 c1 c2 c3 c4 c5 c6 c7 c8 c9 c10 c11 f5 f6 f7 f8 f9 f10 f11
  refine (ad _ HL.out).mono ?_
  rintro x w2 ⟨rfl, hl, ho⟩
  have HL2 := Kp.mk hl
  have HO : Kp (Oth b w w2) := ⟨(Oth.of_below HB.out).trans ho⟩
  obtain ⟨lt2, c0, c1, c2, c3, c4, c5, c6, c7, c8, c9, c10, c11, f5, f6, f7, f8, f9, f10, f11⟩ := hl
  clear ho ad
  go_wp2
  refine bodyPost_end (results_none rfl _ _ _) rfl ⟨rfl, ?_, ?_⟩
  · exact (HL2.out.set5 _).set7 _
  · exact (HO.out.setCell (by rfl) _).setCell (by rfl) _
set_option maxHeartbeats 1000000 in
theorem small_far (b : Nat) (s : LS) (o mu poll : Int) (w : World) (h : Lp w b s) (hs : s.st ≠ 0) (hs1 : s.st ≠ 1) (hm : 1 ≤ mu) (hm2 : mu ≤ 1073741824) (hp : 3 ≤ poll) (hp2 : poll ≤ 17) (hf : 11 ≤ poll) (ho : -1125899906842624 ≤ o) (ho2 : o ≤ 1125899906842624) (hh : -1125899906842624 ≤ s.ph) (hh2 : s.ph ≤ 1125899906842624) (q1 : 1 ≤ s.li) (q2 : s.li ≤ 500000) (q3 : -s.li ≤ s.fr) (q4 : s.fr ≤ s.li) : Calls Tryd.prog 28 #[.pointer (some ⟨b, 0, none⟩), .int .i64 o, .int .i64 mu, .int .i64 poll] w (LPost b { s with st := 3, ph := o, fr := clampF (s.fr + corr s.ph o mu poll) (-s.li) s.li } (.tuple #[]) w) := by
  have H := Kp.mk h
  obtain ⟨lt, c0, c1, c2, c3, c4, c5, c6, c7, c8, c9, c10, c11, f5, f6, f7, f8, f9, f10, f11⟩ := h
  have hpow := pow_rows hp hp2
  obtain ⟨T, hT⟩ : ∃ T, (2 : Int) ^ poll.toNat = T := ⟨_, rfl⟩
  have hpp := pow_prod hp hp2 hT
  have t1 : (s.st == 0) = false := by simpa using hs
  have t2 : (s.st == 1) = false := by simpa using hs1
  have t3 : decide (poll ≥ 11) = true := by simp; omega
  have ec : corr s.ph o mu poll = o * min mu T / (16 * T * T) + (o - s.ph) / (4 * max mu 2048) := by unfold corr; rw [hT, if_pos (by omega)]
  rw [ec]
  rw [hT] at hpow
  have eT : IntKind.i64.wrap T = T := by rw [IntKind.wrap_i64]; omega
  have eT1 : IntKind.i64.wrap (1 * T) = T := by rw [IntKind.wrap_i64]; omega
  have e16 : wrap64 (16 * T) = 16 * T := by unfold wrap64; omega
  obtain ⟨C, hC⟩ : ∃ C, 16 * T * T = C := ⟨_, rfl⟩
  rw [hC] at hpp ⊢
  have eC : wrap64 C = C := by unfold wrap64; omega
  obtain ⟨m, hmm⟩ : ∃ m, min mu T = m := ⟨_, rfl⟩
  have hm0 : 1 ≤ m ∧ m ≤ T := by omega
  have qb := quo_bound (m := m) (C := C) ho ho2 (by omega) (by omega) (by omega)
  have md := fun w => muldiv_any o m C (by omega) (by omega) (by omega) (by omega) (by omega) (by omega) w
  have hmd : mdiv o m C = (o * m / C, true) := by unfold mdiv; rw [if_pos (by omega)]
  unfold MulPost at md
  rw [hmd] at md
  rw [hmm]
  obtain ⟨Q, hQ⟩ : ∃ Q, o * m / C = Q := ⟨_, rfl⟩
  rw [hQ] at md qb ⊢
  obtain ⟨X, hX⟩ : ∃ X, max mu 2048 = X := ⟨_, rfl⟩
  have hX0 : 1 ≤ X ∧ X ≤ 1073741824 := by omega
  rw [hX]
  have eX : wrap64 (4 * X) = 4 * X := by unfold wrap64; omega
  have eo : wrap64 (o - s.ph) = o - s.ph := by unfold wrap64; omega
  have fb := tdiv_abs (a := o - s.ph) (b := 4 * X) (m := 2251799813685248) (by omega) (by omega) (by omega)
  have fl := fun w => fl_any (o - s.ph) (4 * X) (by omega) (by omega) (by omega) w
  obtain ⟨F, hF⟩ : ∃ F, (o - s.ph) / (4 * X) = F := ⟨_, rfl⟩
  rw [hF] at fl fb ⊢
  have eQ : wrap64 (Q + F) = Q + F := by unfold wrap64; omega
  have ad := fun (w1 : World) (h1 : Lp w1 b s) => add_any b s (Q + F) w1 h1 (by omega) (by omega) q1 q2
  clear hX0 fb hF
  clear hs hs1 hf ho ho2 hh hh2 q1 q2 q3 q4 ec hpp hQ qb hmd hm2 hm0
  go_enter Tryd.func28, Tryd.ntmps28
  go_wp2_with fail
  clear c0 c1 c2 c3 c4 c5 c6 c7 c8 c9 c10 c11 f5 f6 f7 f8 f9 f10 f11
  refine (md _).mono ?_
  rintro x w1 ⟨rfl, k, hw1⟩
  have hb := Below.of_some ⟨k, hw1⟩
  have HB := Kp.mk hb
  have hl := H.out.below hb lt
  have HL := Kp.mk hl
  obtain ⟨lt1, c0, c1, c2, c3, c4, c5, c6, c7, c8, c9, c10, c11, f5, f6, f7, f8, f9, f10, f11⟩ := hl
  clear hw1 hb md
  go_wp2_with fail
  simp only [eo, eX]
  refine (fl _).mono ?_
  rintro x w1' ⟨rfl, rfl⟩
  go_wp2_with fail
  simp only [eQ]
  clear c0 c1 c2 c3 c4 c5 c6 c7 c8 c9 c10 c11 f5 f6 f7 f8 f9 f10 f11
  refine (ad _ HL.out).mono ?_
  rintro x w2 ⟨rfl, hl, ho⟩
  have HL2 := Kp.mk hl
  have HO : Kp (Oth b w w2) := ⟨(Oth.of_below HB.out).trans ho⟩
  obtain ⟨lt2, c0, c1, c2, c3, c4, c5, c6, c7, c8, c9, c10, c11, f5, f6, f7, f8, f9, f10, f11⟩ := hl
  clear ho ad
  go_wp2
  refine bodyPost_end (results_none rfl _ _ _) rfl ⟨rfl, ?_, ?_⟩
  · exact (HL2.out.set5 _).set7 _
  · exact (HO.out.setCell (by rfl) _).setCell (by rfl) _
end Go.Proofs.YtbfobodaeimklaaDoor
