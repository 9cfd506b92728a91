/-
  The reference's large, small and Update of layer 13.
-/
import Derived.Test.YtbfobodaeimklaaDoorPllX
set_option linter.unusedSimpArgs false
set_option linter.unusedVariables false
namespace Go.Proofs.YtbfobodaeimklaaDoor
open Go.RowKit
set_option maxHeartbeats 2000000 in
theorem rlarge_unset (b : Nat) (s : LS) (t o mu : Int) (w : World) (h : Rp w b s 0 0) (hs : s.st = 0) : Calls Tryd.prog 29 #[.pointer (some ⟨b, 0, none⟩), .int .i64 t, .int .i64 o, .int .i64 mu] w (RPost b { s with ph := 0, st := 1 } 2 o (.bool true) w) := by
  have H := Kp.mk h
  obtain ⟨lt, c0, c1, c2, c3, c4, c5, c6, c7, c8, c9, c10, c11, c12, c13, f5, f6, f7, f8, f9, f10, f11, f12, f13⟩ := h
  rw [hs] at c5
  go_enter Tryd.func29, Tryd.ntmps29
  go_wp2_with fail
  refine (step_any b _ _ _ o 1 _ H.out).mono ?_
  rintro e w2 ⟨rfl, hl2, ho2⟩
  clear c5
  go_wp2_with fail
  refine bodyPost_ret (v := .bool true) (by simp [results, Tryd.results29, go_sem]) rfl ⟨rfl, ?_, ?_⟩
  · exact hl2
  · exact ho2
set_option maxHeartbeats 2000000 in
theorem rlarge_wait (b : Nat) (s : LS) (t o mu : Int) (w : World) (h : Rp w b s 0 0) (hs : s.st = 1) (hm : mu < s.so) : Calls Tryd.prog 29 #[.pointer (some ⟨b, 0, none⟩), .int .i64 t, .int .i64 o, .int .i64 mu] w (RPost b s 0 0 (.bool false) w) := by
  have H := Kp.mk h
  obtain ⟨lt, c0, c1, c2, c3, c4, c5, c6, c7, c8, c9, c10, c11, c12, c13, f5, f6, f7, f8, f9, f10, f11, f12, f13⟩ := h
  rw [hs] at c5
  have t1 : decide (mu < s.so) = true := by simpa using hm
  go_enter Tryd.func29, Tryd.ntmps29
  go_wp2_with fail
  refine bodyPost_ret (v := .bool false) (by simp [results, Tryd.results29, go_sem]) rfl ⟨rfl, ?_, ?_⟩
  · exact H.out
  · exact Oth.refl _ _
set_option maxHeartbeats 2000000 in
theorem rlarge_freq (b : Nat) (s : LS) (t o mu : Int) (w : World) (h : Rp w b s 0 0) (hs : s.st = 1) (hw : s.so ≤ mu) (hm : 1 ≤ mu) (ho : -1125899906842624 ≤ o) (ho2 : o ≤ 1125899906842624) (q1 : 1 ≤ s.li) (q2 : s.li ≤ 500000) (q3 : -s.li ≤ s.fr) (q4 : s.fr ≤ s.li) : Calls Tryd.prog 29 #[.pointer (some ⟨b, 0, none⟩), .int .i64 t, .int .i64 o, .int .i64 mu] w (RPost b { s with fr := clampF (s.fr + o / mu) (-s.li) s.li, ph := 0, st := 3 } 2 o (.bool true) w) := by
  have H := Kp.mk h
  obtain ⟨lt, c0, c1, c2, c3, c4, c5, c6, c7, c8, c9, c10, c11, c12, c13, f5, f6, f7, f8, f9, f10, f11, f12, f13⟩ := h
  rw [hs] at c5
  have t1 : decide (mu < s.so) = false := by simp; omega
  have hb := tdiv_abs (show 0 < mu by omega) ho ho2
  have fl := fun w => rfl_any o mu (by omega) (by omega) (by omega) w
  have sr := fun (w1 : World) (h1 : Rp w1 b s 0 0) => steer_any b s 0 0 (o / mu) w1 h1 (by omega) (by omega) q1 q2
  clear hm ho ho2 q1 q2 q3 q4 hb
  go_enter Tryd.func29, Tryd.ntmps29
  go_wp2_with fail
  refine (fl _).mono ?_
  rintro e w' ⟨rfl, rfl⟩
  go_wp2_with fail
  refine (sr _ H.out).mono ?_
  rintro e w1 ⟨rfl, hl1, ho1⟩
  clear c0 c1 c2 c3 c4 c5 c6 c7 c8 c9 c10 c11 c12 c13 f5 f6 f7 f8 f9 f10 f11 f12 f13
  go_wp2_with fail
  refine (step_any b _ _ _ o 3 _ hl1).mono ?_
  rintro e w2 ⟨rfl, hl2, ho2⟩
  go_wp2_with fail
  refine bodyPost_ret (v := .bool true) (by simp [results, Tryd.results29, go_sem]) rfl ⟨rfl, ?_, ?_⟩
  · exact hl2
  · exact ho1.trans ho2
set_option maxHeartbeats 2000000 in
theorem rlarge_sync (b : Nat) (s : LS) (t o mu : Int) (w : World) (h : Rp w b s 0 0) (hs : s.st = 3) : Calls Tryd.prog 29 #[.pointer (some ⟨b, 0, none⟩), .int .i64 t, .int .i64 o, .int .i64 mu] w (RPost b { s with st := 2, sp := t } 0 0 (.bool true) w) := by
  have H := Kp.mk h
  obtain ⟨lt, c0, c1, c2, c3, c4, c5, c6, c7, c8, c9, c10, c11, c12, c13, f5, f6, f7, f8, f9, f10, f11, f12, f13⟩ := h
  rw [hs] at c5
  go_enter Tryd.func29, Tryd.ntmps29
  go_wp2_with fail
  refine bodyPost_ret (v := .bool true) (by simp [results, Tryd.results29, go_sem]) rfl ⟨rfl, ?_, ?_⟩
  · exact (H.out.set5 _).set11 _
  · exact ((Oth.refl _ _).setCell (by rfl) _).setCell (by rfl) _
set_option maxHeartbeats 2000000 in
theorem rlarge_spike (b : Nat) (s : LS) (t o mu : Int) (w : World) (h : Rp w b s 0 0) (hs : s.st = 2) (ht : 0 ≤ t - s.sp) (ht2 : t - s.sp < s.so) (hso : s.so ≤ 100000) : Calls Tryd.prog 29 #[.pointer (some ⟨b, 0, none⟩), .int .i64 t, .int .i64 o, .int .i64 mu] w (RPost b s 0 0 (.bool true) w) := by
  have H := Kp.mk h
  obtain ⟨lt, c0, c1, c2, c3, c4, c5, c6, c7, c8, c9, c10, c11, c12, c13, f5, f6, f7, f8, f9, f10, f11, f12, f13⟩ := h
  rw [hs] at c5
  have e1 : wrap64 (t - s.sp) = t - s.sp := by unfold wrap64; omega
  have t1 : decide (s.so ≤ t - s.sp) = false := by simp; omega
  go_enter Tryd.func29, Tryd.ntmps29
  go_wp2_with fail
  go_quiet (fail)
  rename_i nq
  go_wp2_with fail
  refine bodyPost_ret (v := .bool true) (by simp [results, Tryd.results29, go_sem]) rfl ⟨rfl, ?_, ?_⟩
  · exact H.out.drewN nq
  · exact (Oth.refl _ _).drewN nq
set_option maxHeartbeats 2000000 in
theorem rlarge_due (b : Nat) (s : LS) (t o mu : Int) (w : World) (h : Rp w b s 0 0) (hs : s.st = 2) (ht : s.so ≤ t - s.sp) (ht2 : t - s.sp ≤ 4503599627370496) (hso : 1 ≤ s.so) : Calls Tryd.prog 29 #[.pointer (some ⟨b, 0, none⟩), .int .i64 t, .int .i64 o, .int .i64 mu] w (RPost b { s with ph := 0, st := 3 } 2 o (.bool true) w) := by
  have H := Kp.mk h
  obtain ⟨lt, c0, c1, c2, c3, c4, c5, c6, c7, c8, c9, c10, c11, c12, c13, f5, f6, f7, f8, f9, f10, f11, f12, f13⟩ := h
  rw [hs] at c5
  have e1 : wrap64 (t - s.sp) = t - s.sp := by unfold wrap64; omega
  have t1 : decide (s.so ≤ t - s.sp) = true := by simp; omega
  go_enter Tryd.func29, Tryd.ntmps29
  go_wp2_with fail
  go_quiet (fail)
  rename_i nq
  go_wp2_with fail
  refine (step_any b _ _ _ o 3 _ (H.out.drewN nq)).mono ?_
  rintro e w2 ⟨rfl, hl2, ho2⟩
  clear c0 c1 c2 c3 c4 c5 c6 c7 c8 c9 c10 c11 c12 c13 f5 f6 f7 f8 f9 f10 f11 f12 f13
  go_wp2_with fail
  refine bodyPost_ret (v := .bool true) (by simp [results, Tryd.results29, go_sem]) rfl ⟨rfl, ?_, ?_⟩
  · exact hl2
  · exact ((Oth.refl _ _).drewN nq).trans ho2
set_option maxHeartbeats 2000000 in
theorem rsmall_unset (b : Nat) (s : LS) (o mu poll : Int) (w : World) (h : Rp w b s 0 0) (hs : s.st = 0) : Calls Tryd.prog 30 #[.pointer (some ⟨b, 0, none⟩), .int .i64 o, .int .i64 mu, .int .i64 poll] w (RPost b { s with st := 1, ph := o } 1 s.fr (.bool true) w) := by
  have H := Kp.mk h
  obtain ⟨lt, c0, c1, c2, c3, c4, c5, c6, c7, c8, c9, c10, c11, c12, c13, f5, f6, f7, f8, f9, f10, f11, f12, f13⟩ := h
  rw [hs] at c5
  go_enter Tryd.func30, Tryd.ntmps30
  go_wp2_with fail
  refine bodyPost_ret (v := .bool true) (by simp [results, Tryd.results30, go_sem]) rfl ⟨rfl, ?_, ?_⟩
  · exact (((H.out.set5 _).set7 _).set12 _).set13 _
  · exact ((((Oth.refl _ _).setCell (by rfl) _).setCell (by rfl) _).setCell (by rfl) _).setCell (by rfl) _
set_option maxHeartbeats 2000000 in
theorem rsmall_wait (b : Nat) (s : LS) (o mu poll : Int) (w : World) (h : Rp w b s 0 0) (hs : s.st = 1) (hm : mu < s.so) : Calls Tryd.prog 30 #[.pointer (some ⟨b, 0, none⟩), .int .i64 o, .int .i64 mu, .int .i64 poll] w (RPost b s 0 0 (.bool false) w) := by
  have H := Kp.mk h
  obtain ⟨lt, c0, c1, c2, c3, c4, c5, c6, c7, c8, c9, c10, c11, c12, c13, f5, f6, f7, f8, f9, f10, f11, f12, f13⟩ := h
  rw [hs] at c5
  have t1 : decide (mu < s.so) = true := by simpa using hm
  go_enter Tryd.func30, Tryd.ntmps30
  go_wp2_with fail
  refine bodyPost_ret (v := .bool false) (by simp [results, Tryd.results30, go_sem]) rfl ⟨rfl, ?_, ?_⟩
  · exact H.out
  · exact Oth.refl _ _
set_option maxHeartbeats 2000000 in
theorem rsmall_freq (b : Nat) (s : LS) (o mu poll : Int) (w : World) (h : Rp w b s 0 0) (hs : s.st = 1) (hw : s.so ≤ mu) (hm : 1 ≤ mu) (ho : -1125899906842624 ≤ o) (ho2 : o ≤ 1125899906842624) (q1 : 1 ≤ s.li) (q2 : s.li ≤ 500000) (q3 : -s.li ≤ s.fr) (q4 : s.fr ≤ s.li) : Calls Tryd.prog 30 #[.pointer (some ⟨b, 0, none⟩), .int .i64 o, .int .i64 mu, .int .i64 poll] w (RPost b { s with fr := clampF (s.fr + o / mu) (-s.li) s.li, st := 3, ph := o } 1 (clampF (s.fr + o / mu) (-s.li) s.li) (.bool true) w) := by
  have H := Kp.mk h
  obtain ⟨lt, c0, c1, c2, c3, c4, c5, c6, c7, c8, c9, c10, c11, c12, c13, f5, f6, f7, f8, f9, f10, f11, f12, f13⟩ := h
  rw [hs] at c5
  have t1 : decide (mu < s.so) = false := by simp; omega
  have hb := tdiv_abs (show 0 < mu by omega) ho ho2
  have fl := fun w => rfl_any o mu (by omega) (by omega) (by omega) w
  have sr := fun (w1 : World) (h1 : Rp w1 b s 0 0) => steer_any b s 0 0 (o / mu) w1 h1 (by omega) (by omega) q1 q2
  clear hm ho ho2 q1 q2 q3 q4 hb
  go_enter Tryd.func30, Tryd.ntmps30
  go_wp2_with fail
  refine (fl _).mono ?_
  rintro e w' ⟨rfl, rfl⟩
  go_wp2_with fail
  refine (sr _ H.out).mono ?_
  rintro e w1 ⟨rfl, hl1, ho1⟩
  have HL := Kp.mk hl1
  have HO := Kp.mk ho1
  clear c0 c1 c2 c3 c4 c5 c6 c7 c8 c9 c10 c11 c12 c13 f5 f6 f7 f8 f9 f10 f11 f12 f13
  obtain ⟨lt1, c0, c1, c2, c3, c4, c5, c6, c7, c8, c9, c10, c11, c12, c13, f5, f6, f7, f8, f9, f10, f11, f12, f13⟩ := hl1
  clear ho1
  go_wp2_with fail
  refine bodyPost_ret (v := .bool true) (by simp [results, Tryd.results30, go_sem]) rfl ⟨rfl, ?_, ?_⟩
  · exact (((HL.out.set5 _).set7 _).set12 _).set13 _
  · exact (((HO.out.setCell (by rfl) _).setCell (by rfl) _).setCell (by rfl) _).setCell (by rfl) _
set_option maxHeartbeats 2000000 in
theorem rsmall_near (b : Nat) (s : LS) (o mu poll : Int) (w : World) (h : Rp w b s 0 0) (hs : s.st ≠ 0) (hs1 : s.st ≠ 1) (hm : 1 ≤ mu) (hm2 : mu ≤ 1073741824) (hp : 3 ≤ poll) (hp2 : poll ≤ 17) (hf : poll < 11) (ho : -1125899906842624 ≤ o) (ho2 : o ≤ 1125899906842624) (hh : -1125899906842624 ≤ s.ph) (hh2 : s.ph ≤ 1125899906842624) (q1 : 1 ≤ s.li) (q2 : s.li ≤ 500000) (q3 : -s.li ≤ s.fr) (q4 : s.fr ≤ s.li) : Calls Tryd.prog 30 #[.pointer (some ⟨b, 0, none⟩), .int .i64 o, .int .i64 mu, .int .i64 poll] w (RPost b { s with fr := clampF (s.fr + corr s.ph o mu poll) (-s.li) s.li, st := 3, ph := o } 1 (clampF (s.fr + corr s.ph o mu poll) (-s.li) s.li) (.bool true) w) := by
  have H := Kp.mk h
  obtain ⟨lt, c0, c1, c2, c3, c4, c5, c6, c7, c8, c9, c10, c11, c12, c13, f5, f6, f7, f8, f9, f10, f11, f12, f13⟩ := h
  have hpow := pow_rows hp hp2
  have hpp := pow_prod hp hp2 rfl
  have ph := fun w => rphase_any o mu poll w hm hm2 hp hp2 ho ho2
  have qb := quo_bound ho ho2 (show 0 ≤ min mu (2 ^ poll.toNat) by omega) (show min mu (2 ^ poll.toNat) ≤ 16 * 2 ^ poll.toNat * 2 ^ poll.toNat by omega) (by omega)
  have t1 : (s.st == 0) = false := by simpa using hs
  have t2 : (s.st == 1) = false := by simpa using hs1
  have t3 : decide (11 ≤ poll) = false := by simp; omega
  have hc : corr s.ph o mu poll = o * min mu (2 ^ poll.toNat) / (16 * 2 ^ poll.toNat * 2 ^ poll.toNat) := by unfold corr; rw [if_neg (by omega)]; omega
  have sr := fun (w1 : World) (h1 : Rp w1 b s 0 0) => steer_any b s 0 0 (corr s.ph o mu poll) w1 h1 (by omega) (by omega) q1 q2
  generalize corr s.ph o mu poll = C at *
  generalize o * min mu (2 ^ poll.toNat) / (16 * 2 ^ poll.toNat * 2 ^ poll.toNat) = q at *
  subst hc
  clear hpow hpp qb hm hm2 hp hp2 hf ho ho2 hh hh2 q1 q2 q3 q4 hs hs1
  go_enter Tryd.func30, Tryd.ntmps30
  go_wp2_with fail
  refine (ph _).mono ?_
  rintro e w' ⟨rfl, rfl⟩
  go_wp2_with fail
  refine (sr _ H.out).mono ?_
  rintro e w1 ⟨rfl, hl1, ho1⟩
  have HL := Kp.mk hl1
  have HO := Kp.mk ho1
  clear c0 c1 c2 c3 c4 c5 c6 c7 c8 c9 c10 c11 c12 c13 f5 f6 f7 f8 f9 f10 f11 f12 f13
  obtain ⟨lt1, c0, c1, c2, c3, c4, c5, c6, c7, c8, c9, c10, c11, c12, c13, f5, f6, f7, f8, f9, f10, f11, f12, f13⟩ := hl1
  clear ho1
  go_wp2_with fail
  refine bodyPost_ret (v := .bool true) (by simp [results, Tryd.results30, go_sem]) rfl ⟨rfl, ?_, ?_⟩
  · exact (((HL.out.set5 _).set7 _).set12 _).set13 _
  · exact (((HO.out.setCell (by rfl) _).setCell (by rfl) _).setCell (by rfl) _).setCell (by rfl) _
set_option maxHeartbeats 2000000 in
theorem rsmall_far (b : Nat) (s : LS) (o mu poll : Int) (w : World) (h : Rp w b s 0 0) (hs : s.st ≠ 0) (hs1 : s.st ≠ 1) (hm : 1 ≤ mu) (hm2 : mu ≤ 1073741824) (hp : 3 ≤ poll) (hp2 : poll ≤ 17) (hf : 11 ≤ poll) (ho : -1125899906842624 ≤ o) (ho2 : o ≤ 1125899906842624) (hh : -1125899906842624 ≤ s.ph) (hh2 : s.ph ≤ 1125899906842624) (q1 : 1 ≤ s.li) (q2 : s.li ≤ 500000) (q3 : -s.li ≤ s.fr) (q4 : s.fr ≤ s.li) : Calls Tryd.prog 30 #[.pointer (some ⟨b, 0, none⟩), .int .i64 o, .int .i64 mu, .int .i64 poll] w (RPost b { s with fr := clampF (s.fr + corr s.ph o mu poll) (-s.li) s.li, st := 3, ph := o } 1 (clampF (s.fr + corr s.ph o mu poll) (-s.li) s.li) (.bool true) w) := by
  have H := Kp.mk h
  obtain ⟨lt, c0, c1, c2, c3, c4, c5, c6, c7, c8, c9, c10, c11, c12, c13, f5, f6, f7, f8, f9, f10, f11, f12, f13⟩ := h
  have hpow := pow_rows hp hp2
  have hpp := pow_prod hp hp2 rfl
  have ph := fun w => rphase_any o mu poll w hm hm2 hp hp2 ho ho2
  have qb := quo_bound ho ho2 (show 0 ≤ min mu (2 ^ poll.toNat) by omega) (show min mu (2 ^ poll.toNat) ≤ 16 * 2 ^ poll.toNat * 2 ^ poll.toNat by omega) (by omega)
  have t1 : (s.st == 0) = false := by simpa using hs
  have t2 : (s.st == 1) = false := by simpa using hs1
  have t3 : decide (11 ≤ poll) = true := by simpa using hf
  have hc : corr s.ph o mu poll = o * min mu (2 ^ poll.toNat) / (16 * 2 ^ poll.toNat * 2 ^ poll.toNat) + (o - s.ph) / (4 * max mu 2048) := by unfold corr; rw [if_pos hf]
  have fb := tdiv_abs (show 0 < 4 * max mu 2048 by omega) (a := o - s.ph) (m := 2251799813685248) (by omega) (by omega)
  have e4 : wrap64 (o - s.ph) = o - s.ph := by unfold wrap64; omega
  have e5 : wrap64 (4 * max mu 2048) = 4 * max mu 2048 := by unfold wrap64; omega
  have fl := fun w => rfl_any (o - s.ph) (4 * max mu 2048) (by omega) (by omega) (by omega) w
  have e6 : wrap64 (o * min mu (2 ^ poll.toNat) / (16 * 2 ^ poll.toNat * 2 ^ poll.toNat) + (o - s.ph) / (4 * max mu 2048)) = corr s.ph o mu poll := by rw [hc]; unfold wrap64; omega
  have sr := fun (w1 : World) (h1 : Rp w1 b s 0 0) => steer_any b s 0 0 (corr s.ph o mu poll) w1 h1 (by omega) (by omega) q1 q2
  generalize corr s.ph o mu poll = C at *
  generalize o * min mu (2 ^ poll.toNat) / (16 * 2 ^ poll.toNat * 2 ^ poll.toNat) = q at *
  obtain ⟨M, hM⟩ : ∃ M, 4 * max mu 2048 = M := ⟨_, rfl⟩
  rw [hM] at e5 fl e6
  generalize (o - s.ph) / M = u at *
  clear hc fb
  clear hpow hpp qb hm hm2 hp hp2 hf ho ho2 hh hh2 q1 q2 q3 q4 hs hs1
  go_enter Tryd.func30, Tryd.ntmps30
  go_wp2_with fail
  refine (ph _).mono ?_
  rintro e w' ⟨rfl, rfl⟩
  go_wp2_with fail
  simp only [hM, e5]
  with_reducible refine (fl _).mono ?_
  rintro e w' ⟨rfl, rfl⟩
  go_wp2_with fail
  refine (sr _ H.out).mono ?_
  rintro e w1 ⟨rfl, hl1, ho1⟩
  have HL := Kp.mk hl1
  have HO := Kp.mk ho1
  clear c0 c1 c2 c3 c4 c5 c6 c7 c8 c9 c10 c11 c12 c13 f5 f6 f7 f8 f9 f10 f11 f12 f13
  obtain ⟨lt1, c0, c1, c2, c3, c4, c5, c6, c7, c8, c9, c10, c11, c12, c13, f5, f6, f7, f8, f9, f10, f11, f12, f13⟩ := hl1
  clear ho1
  go_wp2_with fail
  refine bodyPost_ret (v := .bool true) (by simp [results, Tryd.results30, go_sem]) rfl ⟨rfl, ?_, ?_⟩
  · exact (((HL.out.set5 _).set7 _).set12 _).set13 _
  · exact (((HO.out.setCell (by rfl) _).setCell (by rfl) _).setCell (by rfl) _).setCell (by rfl) _
theorem rlarge_any (b : Nat) (s : LS) (t o mu : Int) (ok : s.Ok) (hm : s.st = 1 → 1 ≤ mu ∨ mu < s.so) (ht : s.sp ≤ t) (ht2 : t ≤ 1073741824) (ho : -1125899906842624 ≤ o) (ho2 : o ≤ 1125899906842624) :
    ∃ s1 k1 v1 r, (∀ w, Rp w b s 0 0 → Calls Tryd.prog 29 #[.pointer (some ⟨b, 0, none⟩), .int .i64 t, .int .i64 o, .int .i64 mu] w (RPost b s1 k1 v1 (.bool r) w)) ∧ ((r = false ∧ s.st = 1 ∧ mu < s.so ∧ s1 = s ∧ k1 = 0 ∧ v1 = 0) ∨ (r = true ∧ ¬ (s.st = 1 ∧ mu < s.so) ∧ s1 = (largeF s t o mu).1 ∧ k1 = (largeF s t o mu).2.1 ∧ v1 = (largeF s t o mu).2.2)) := by
  have h1 := ok.so1
  have h2 := ok.so2
  have h3 := ok.st1
  have h4 := ok.st2
  have h5 := ok.sp1
  by_cases e0 : s.st = 0
  · exact ⟨_, _, _, _, fun w h => rlarge_unset b s t o mu w h e0, .inr ⟨rfl, by omega, by simp [largeF, e0], by simp [largeF, e0], by simp [largeF, e0]⟩⟩
  · by_cases e1 : s.st = 1
    · by_cases hw : mu < s.so
      · exact ⟨_, _, _, _, fun w h => rlarge_wait b s t o mu w h e1 hw, .inl ⟨rfl, e1, hw, rfl, rfl, rfl⟩⟩
      · refine ⟨_, _, _, _, fun w h => rlarge_freq b s t o mu w h e1 (by omega) (by have := hm e1; omega) ho ho2 ok.li1 ok.li2 ok.fr1 ok.fr2, .inr ⟨rfl, by omega, by simp [largeF, e1], by simp [largeF, e1], by simp [largeF, e1]⟩⟩
    · by_cases e3 : s.st = 3
      · exact ⟨_, _, _, _, fun w h => rlarge_sync b s t o mu w h e3, .inr ⟨rfl, by omega, by simp [largeF, e3], by simp [largeF, e3], by simp [largeF, e3]⟩⟩
      · have e2 : s.st = 2 := by omega
        by_cases hd : t - s.sp < s.so
        · exact ⟨_, _, _, _, fun w h => rlarge_spike b s t o mu w h e2 (by omega) hd h2, .inr ⟨rfl, by omega, by simp [largeF, e2, hd], by simp [largeF, e2, hd], by simp [largeF, e2, hd]⟩⟩
        · exact ⟨_, _, _, _, fun w h => rlarge_due b s t o mu w h e2 (by omega) (by omega) h1, .inr ⟨rfl, by omega, by simp [largeF, e2, hd], by simp [largeF, e2, hd], by simp [largeF, e2, hd]⟩⟩
theorem rsmall_any (b : Nat) (s : LS) (o mu poll : Int) (ok : s.Ok) (hm : s.st ≠ 0 → 1 ≤ mu) (hm2 : mu ≤ 1073741824) (hp : 3 ≤ poll) (hp2 : poll ≤ 17) (ho : -1125899906842624 ≤ o) (ho2 : o ≤ 1125899906842624) :
    ∃ s1 k1 v1 r, (∀ w, Rp w b s 0 0 → Calls Tryd.prog 30 #[.pointer (some ⟨b, 0, none⟩), .int .i64 o, .int .i64 mu, .int .i64 poll] w (RPost b s1 k1 v1 (.bool r) w)) ∧ ((r = false ∧ s.st = 1 ∧ mu < s.so ∧ s1 = s ∧ k1 = 0 ∧ v1 = 0) ∨ (r = true ∧ ¬ (s.st = 1 ∧ mu < s.so) ∧ s1 = smallF s o mu poll ∧ k1 = 1 ∧ v1 = (smallF s o mu poll).fr)) := by
  have h1 := ok.ph1
  have h2 := ok.ph2
  have h3 := ok.sa2
  by_cases e0 : s.st = 0
  · exact ⟨_, _, _, _, fun w h => rsmall_unset b s o mu poll w h e0, .inr ⟨rfl, by omega, by simp [smallF, e0], rfl, by simp [smallF, e0]⟩⟩
  · by_cases e1 : s.st = 1
    · by_cases hw : mu < s.so
      · exact ⟨_, _, _, _, fun w h => rsmall_wait b s o mu poll w h e1 hw, .inl ⟨rfl, e1, hw, rfl, rfl, rfl⟩⟩
      · exact ⟨_, _, _, _, fun w h => rsmall_freq b s o mu poll w h e1 (by omega) (hm e0) ho ho2 ok.li1 ok.li2 ok.fr1 ok.fr2, .inr ⟨rfl, by omega, by simp [smallF, e1], rfl, by simp [smallF, e1]⟩⟩
    · by_cases hf : poll < 11
      · exact ⟨_, _, _, _, fun w h => rsmall_near b s o mu poll w h e0 e1 (hm e0) hm2 hp hp2 hf ho ho2 (by omega) (by omega) ok.li1 ok.li2 ok.fr1 ok.fr2, .inr ⟨rfl, by omega, by simp [smallF, e0, e1], rfl, by simp [smallF, e0, e1]⟩⟩
      · exact ⟨_, _, _, _, fun w h => rsmall_far b s o mu poll w h e0 e1 (hm e0) hm2 hp hp2 (by omega) ho ho2 (by omega) (by omega) ok.li1 ok.li2 ok.fr1 ok.fr2, .inr ⟨rfl, by omega, by simp [smallF, e0, e1], rfl, by simp [smallF, e0, e1]⟩⟩
/-- An update of the reference: the loop in block b is then in the state s', whatever its action; (K, V) and the error E are answered. -/
def RU (b : Nat) (s' : LS) (K V E : Int) (w : World) (x : Ending) (w' : World) : Prop := x = .returned (upv K V E) ∧ (∃ k v, Rp w' b s' k v) ∧ Oth b w w'
set_option maxHeartbeats 2000000 in
theorem rupd_range (b : Nat) (s : LS) (k v : Int) (t o p : Int) (w : World) (h : Rp w b s k v) (hr : t < 0 ∨ 1073741824 < t ∨ o < -1125899906842624 ∨ 1125899906842624 < o ∨ p < s.mn ∨ s.mx < p) : Calls Tryd.prog 19 #[.pointer (some ⟨b, 0, none⟩), .int .i64 t, .int .i64 o, .int .i64 p] w (RU b s 0 0 3 w) := by
  have hmf : ∀ (fn : Fn) (first cap : Array Value) (w : World), (Instr.makeFunc fn first cap).run Tryd.prog w = .ok (.func fn first cap) w := fun _ _ _ _ => rfl
  have H := Kp.mk h
  obtain ⟨lt, c0, c1, c2, c3, c4, c5, c6, c7, c8, c9, c10, c11, c12, c13, f5, f6, f7, f8, f9, f10, f11, f12, f13⟩ := h
  go_enter Tryd.func19, Tryd.ntmps19
  go_wp2_with fail
  all_goals first
    | (exfalso; omega)
    | exact bodyPost_ret (v := upv 0 0 3) (by simp [results, Tryd.results19, go_sem, upv, act]; done) rfl ⟨rfl, ⟨k, v, H.out.alloc _⟩, (Oth.refl _ _).alloc _⟩
set_option maxHeartbeats 2000000 in
theorem rupd_order (b : Nat) (s : LS) (k v : Int) (t o p : Int) (w : World) (h : Rp w b s k v) (t1 : 0 ≤ t) (t2 : t ≤ 1073741824) (o1 : -1125899906842624 ≤ o) (o2 : o ≤ 1125899906842624) (p1 : s.mn ≤ p) (p2 : p ≤ s.mx) (hu : s.up = true) (hl : t ≤ s.la) : Calls Tryd.prog 19 #[.pointer (some ⟨b, 0, none⟩), .int .i64 t, .int .i64 o, .int .i64 p] w (RU b s 0 0 12 w) := by
  have hmf : ∀ (fn : Fn) (first cap : Array Value) (w : World), (Instr.makeFunc fn first cap).run Tryd.prog w = .ok (.func fn first cap) w := fun _ _ _ _ => rfl
  have H := Kp.mk h
  obtain ⟨lt, c0, c1, c2, c3, c4, c5, c6, c7, c8, c9, c10, c11, c12, c13, f5, f6, f7, f8, f9, f10, f11, f12, f13⟩ := h
  rw [hu] at c8
  have r1 : decide (t < 0) = false := by simp; omega
  have r2 : decide (1073741824 < t) = false := by simp; omega
  have r3 : decide (o < -1125899906842624) = false := by simp; omega
  have r4 : decide (1125899906842624 < o) = false := by simp; omega
  have r5 : decide (p < s.mn) = false := by simp; omega
  have r6 : decide (s.mx < p) = false := by simp; omega
  have l1 : decide (t ≤ s.la) = true := by simpa using hl
  clear t1 t2 o1 o2 p1 p2 hl
  go_enter Tryd.func19, Tryd.ntmps19
  go_wp2_with fail
  all_goals first
    | (exfalso; omega)
    | exact bodyPost_ret (v := upv 0 0 12) (by simp [results, Tryd.results19, go_sem, upv, act]; done) rfl ⟨rfl, ⟨k, v, H.out.alloc _⟩, (Oth.refl _ _).alloc _⟩
set_option maxHeartbeats 2000000 in
theorem rupd_new_0_true (b : Nat) (s : LS) (k v : Int) (t o p : Int) (w : World) (h : Rp w b s k v) (t1 : 0 ≤ t) (t2 : t ≤ 1073741824) (o1 : -1125899906842624 ≤ o) (o2 : o ≤ 1125899906842624) (p1 : s.mn ≤ p) (p2 : p ≤ s.mx) (hu : s.up = false) (z1 : 1 ≤ s.sa) (z2 : s.sa ≤ 1125899906842624) (hd : s.sa ≤ o) (s1 : LS) (k1 v1 : Int) (lg : ∀ w1, Rp w1 b s 0 0 → Calls Tryd.prog 29 #[.pointer (some ⟨b, 0, none⟩), .int .i64 t, .int .i64 o, .int .i64 0] w1 (RPost b s1 k1 v1 (.bool true) w1)) : Calls Tryd.prog 19 #[.pointer (some ⟨b, 0, none⟩), .int .i64 t, .int .i64 o, .int .i64 p] w (RU b { s1 with la := t, po := p, up := true } k1 v1 0 w) := by
  have hmf : ∀ (fn : Fn) (first cap : Array Value) (w : World), (Instr.makeFunc fn first cap).run Tryd.prog w = .ok (.func fn first cap) w := fun _ _ _ _ => rfl
  have H := Kp.mk h
  obtain ⟨lt, c0, c1, c2, c3, c4, c5, c6, c7, c8, c9, c10, c11, c12, c13, f5, f6, f7, f8, f9, f10, f11, f12, f13⟩ := h
  rw [hu] at c8
  have r1 : decide (t < 0) = false := by simp; omega
  have r2 : decide (1073741824 < t) = false := by simp; omega
  have r3 : decide (o < -1125899906842624) = false := by simp; omega
  have r4 : decide (1125899906842624 < o) = false := by simp; omega
  have r5 : decide (p < s.mn) = false := by simp; omega
  have r6 : decide (s.mx < p) = false := by simp; omega
  have e9 : wrap64 (-s.sa) = -s.sa := by unfold wrap64; omega
  have d1 : decide (s.sa ≤ o) = true := by simpa using hd
  clear t1 t2 o1 o2 p1 p2 z1 z2 hd
  go_enter Tryd.func19, Tryd.ntmps19
  go_wp2_with fail
  refine (lg _ (((H.out.set12 _).set13 _).alloc _)).mono ?_
  rintro x w1 ⟨rfl, hl, ho⟩
  have HL := Kp.mk hl
  have HO : Kp (Oth b w w1) := ⟨((((Oth.refl _ _).setCell (by rfl) _).setCell (by rfl) _).alloc _).trans ho⟩
  have g := one_new ho (by simpa [World.setCell] using lt)
  simp only [World.size_setCell] at g
  obtain ⟨g0, g1, g2, g3⟩ := g
  have hb : w.heap.size ≠ b := by omega
  have hb' : b ≠ w.heap.size := by omega
  clear c0 c1 c2 c3 c4 c5 c6 c7 c8 c9 c10 c11 c12 c13 f5 f6 f7 f8 f9 f10 f11 f12 f13
  obtain ⟨lt1, c0, c1, c2, c3, c4, c5, c6, c7, c8, c9, c10, c11, c12, c13, f5, f6, f7, f8, f9, f10, f11, f12, f13⟩ := hl
  clear ho lg lt
  go_wp2_with fail
  refine bodyPost_ret (v := upv k1 v1 0) (by simp [results, Tryd.results19, go_sem, upv, act, g0, g1, hb, hb']) rfl ⟨rfl, ⟨k1, v1, ?_⟩, ?_⟩
  · exact ((((HL.out.set8 _).set9 _).set10 _).setOther hb' _).setOther hb' _
  · exact ((((HO.out.setCell (by rfl) _).setCell (by rfl) _).setCell (by rfl) _).setNew (by exact Nat.le_refl _) _).setNew (by exact Nat.le_refl _) _
set_option maxHeartbeats 2000000 in
theorem rupd_new_0_false (b : Nat) (s : LS) (k v : Int) (t o p : Int) (w : World) (h : Rp w b s k v) (t1 : 0 ≤ t) (t2 : t ≤ 1073741824) (o1 : -1125899906842624 ≤ o) (o2 : o ≤ 1125899906842624) (p1 : s.mn ≤ p) (p2 : p ≤ s.mx) (hu : s.up = false) (z1 : 1 ≤ s.sa) (z2 : s.sa ≤ 1125899906842624) (hd : s.sa ≤ o) (s1 : LS) (k1 v1 : Int) (lg : ∀ w1, Rp w1 b s 0 0 → Calls Tryd.prog 29 #[.pointer (some ⟨b, 0, none⟩), .int .i64 t, .int .i64 o, .int .i64 0] w1 (RPost b s1 k1 v1 (.bool false) w1)) : Calls Tryd.prog 19 #[.pointer (some ⟨b, 0, none⟩), .int .i64 t, .int .i64 o, .int .i64 p] w (RU b s1 k1 v1 0 w) := by
  have hmf : ∀ (fn : Fn) (first cap : Array Value) (w : World), (Instr.makeFunc fn first cap).run Tryd.prog w = .ok (.func fn first cap) w := fun _ _ _ _ => rfl
  have H := Kp.mk h
  obtain ⟨lt, c0, c1, c2, c3, c4, c5, c6, c7, c8, c9, c10, c11, c12, c13, f5, f6, f7, f8, f9, f10, f11, f12, f13⟩ := h
  rw [hu] at c8
  have r1 : decide (t < 0) = false := by simp; omega
  have r2 : decide (1073741824 < t) = false := by simp; omega
  have r3 : decide (o < -1125899906842624) = false := by simp; omega
  have r4 : decide (1125899906842624 < o) = false := by simp; omega
  have r5 : decide (p < s.mn) = false := by simp; omega
  have r6 : decide (s.mx < p) = false := by simp; omega
  have e9 : wrap64 (-s.sa) = -s.sa := by unfold wrap64; omega
  have d1 : decide (s.sa ≤ o) = true := by simpa using hd
  clear t1 t2 o1 o2 p1 p2 z1 z2 hd
  go_enter Tryd.func19, Tryd.ntmps19
  go_wp2_with fail
  refine (lg _ (((H.out.set12 _).set13 _).alloc _)).mono ?_
  rintro x w1 ⟨rfl, hl, ho⟩
  have HL := Kp.mk hl
  have HO : Kp (Oth b w w1) := ⟨((((Oth.refl _ _).setCell (by rfl) _).setCell (by rfl) _).alloc _).trans ho⟩
  have g := one_new ho (by simpa [World.setCell] using lt)
  simp only [World.size_setCell] at g
  obtain ⟨g0, g1, g2, g3⟩ := g
  have hb : w.heap.size ≠ b := by omega
  have hb' : b ≠ w.heap.size := by omega
  clear c0 c1 c2 c3 c4 c5 c6 c7 c8 c9 c10 c11 c12 c13 f5 f6 f7 f8 f9 f10 f11 f12 f13
  obtain ⟨lt1, c0, c1, c2, c3, c4, c5, c6, c7, c8, c9, c10, c11, c12, c13, f5, f6, f7, f8, f9, f10, f11, f12, f13⟩ := hl
  clear ho lg lt
  go_wp2_with fail
  refine bodyPost_ret (v := upv k1 v1 0) (by simp [results, Tryd.results19, go_sem, upv, act, g0, g1, hb, hb']) rfl ⟨rfl, ⟨k1, v1, ?_⟩, ?_⟩
  · exact ((HL.out).setOther hb' _).setOther hb' _
  · exact ((HO.out).setNew (by exact Nat.le_refl _) _).setNew (by exact Nat.le_refl _) _
set_option maxHeartbeats 2000000 in
theorem rupd_new_1_true (b : Nat) (s : LS) (k v : Int) (t o p : Int) (w : World) (h : Rp w b s k v) (t1 : 0 ≤ t) (t2 : t ≤ 1073741824) (o1 : -1125899906842624 ≤ o) (o2 : o ≤ 1125899906842624) (p1 : s.mn ≤ p) (p2 : p ≤ s.mx) (hu : s.up = false) (z1 : 1 ≤ s.sa) (z2 : s.sa ≤ 1125899906842624) (hd : ¬ s.sa ≤ o) (hd2 : o ≤ -s.sa) (s1 : LS) (k1 v1 : Int) (lg : ∀ w1, Rp w1 b s 0 0 → Calls Tryd.prog 29 #[.pointer (some ⟨b, 0, none⟩), .int .i64 t, .int .i64 o, .int .i64 0] w1 (RPost b s1 k1 v1 (.bool true) w1)) : Calls Tryd.prog 19 #[.pointer (some ⟨b, 0, none⟩), .int .i64 t, .int .i64 o, .int .i64 p] w (RU b { s1 with la := t, po := p, up := true } k1 v1 0 w) := by
  have hmf : ∀ (fn : Fn) (first cap : Array Value) (w : World), (Instr.makeFunc fn first cap).run Tryd.prog w = .ok (.func fn first cap) w := fun _ _ _ _ => rfl
  have H := Kp.mk h
  obtain ⟨lt, c0, c1, c2, c3, c4, c5, c6, c7, c8, c9, c10, c11, c12, c13, f5, f6, f7, f8, f9, f10, f11, f12, f13⟩ := h
  rw [hu] at c8
  have r1 : decide (t < 0) = false := by simp; omega
  have r2 : decide (1073741824 < t) = false := by simp; omega
  have r3 : decide (o < -1125899906842624) = false := by simp; omega
  have r4 : decide (1125899906842624 < o) = false := by simp; omega
  have r5 : decide (p < s.mn) = false := by simp; omega
  have r6 : decide (s.mx < p) = false := by simp; omega
  have e9 : wrap64 (-s.sa) = -s.sa := by unfold wrap64; omega
  have d1 : decide (s.sa ≤ o) = false := by simpa using hd
  have d2 : decide (o ≤ -s.sa) = true := by simpa using hd2
  clear t1 t2 o1 o2 p1 p2 z1 z2 hd hd2
  go_enter Tryd.func19, Tryd.ntmps19
  go_wp2_with fail
  refine (lg _ (((H.out.set12 _).set13 _).alloc _)).mono ?_
  rintro x w1 ⟨rfl, hl, ho⟩
  have HL := Kp.mk hl
  have HO : Kp (Oth b w w1) := ⟨((((Oth.refl _ _).setCell (by rfl) _).setCell (by rfl) _).alloc _).trans ho⟩
  have g := one_new ho (by simpa [World.setCell] using lt)
  simp only [World.size_setCell] at g
  obtain ⟨g0, g1, g2, g3⟩ := g
  have hb : w.heap.size ≠ b := by omega
  have hb' : b ≠ w.heap.size := by omega
  clear c0 c1 c2 c3 c4 c5 c6 c7 c8 c9 c10 c11 c12 c13 f5 f6 f7 f8 f9 f10 f11 f12 f13
  obtain ⟨lt1, c0, c1, c2, c3, c4, c5, c6, c7, c8, c9, c10, c11, c12, c13, f5, f6, f7, f8, f9, f10, f11, f12, f13⟩ := hl
  clear ho lg lt
  go_wp2_with fail
  refine bodyPost_ret (v := upv k1 v1 0) (by simp [results, Tryd.results19, go_sem, upv, act, g0, g1, hb, hb']) rfl ⟨rfl, ⟨k1, v1, ?_⟩, ?_⟩
  · exact ((((HL.out.set8 _).set9 _).set10 _).setOther hb' _).setOther hb' _
  · exact ((((HO.out.setCell (by rfl) _).setCell (by rfl) _).setCell (by rfl) _).setNew (by exact Nat.le_refl _) _).setNew (by exact Nat.le_refl _) _
set_option maxHeartbeats 2000000 in
theorem rupd_new_1_false (b : Nat) (s : LS) (k v : Int) (t o p : Int) (w : World) (h : Rp w b s k v) (t1 : 0 ≤ t) (t2 : t ≤ 1073741824) (o1 : -1125899906842624 ≤ o) (o2 : o ≤ 1125899906842624) (p1 : s.mn ≤ p) (p2 : p ≤ s.mx) (hu : s.up = false) (z1 : 1 ≤ s.sa) (z2 : s.sa ≤ 1125899906842624) (hd : ¬ s.sa ≤ o) (hd2 : o ≤ -s.sa) (s1 : LS) (k1 v1 : Int) (lg : ∀ w1, Rp w1 b s 0 0 → Calls Tryd.prog 29 #[.pointer (some ⟨b, 0, none⟩), .int .i64 t, .int .i64 o, .int .i64 0] w1 (RPost b s1 k1 v1 (.bool false) w1)) : Calls Tryd.prog 19 #[.pointer (some ⟨b, 0, none⟩), .int .i64 t, .int .i64 o, .int .i64 p] w (RU b s1 k1 v1 0 w) := by
  have hmf : ∀ (fn : Fn) (first cap : Array Value) (w : World), (Instr.makeFunc fn first cap).run Tryd.prog w = .ok (.func fn first cap) w := fun _ _ _ _ => rfl
  have H := Kp.mk h
  obtain ⟨lt, c0, c1, c2, c3, c4, c5, c6, c7, c8, c9, c10, c11, c12, c13, f5, f6, f7, f8, f9, f10, f11, f12, f13⟩ := h
  rw [hu] at c8
  have r1 : decide (t < 0) = false := by simp; omega
  have r2 : decide (1073741824 < t) = false := by simp; omega
  have r3 : decide (o < -1125899906842624) = false := by simp; omega
  have r4 : decide (1125899906842624 < o) = false := by simp; omega
  have r5 : decide (p < s.mn) = false := by simp; omega
  have r6 : decide (s.mx < p) = false := by simp; omega
  have e9 : wrap64 (-s.sa) = -s.sa := by unfold wrap64; omega
  have d1 : decide (s.sa ≤ o) = false := by simpa using hd
  have d2 : decide (o ≤ -s.sa) = true := by simpa using hd2
  clear t1 t2 o1 o2 p1 p2 z1 z2 hd hd2
  go_enter Tryd.func19, Tryd.ntmps19
  go_wp2_with fail
  refine (lg _ (((H.out.set12 _).set13 _).alloc _)).mono ?_
  rintro x w1 ⟨rfl, hl, ho⟩
  have HL := Kp.mk hl
  have HO : Kp (Oth b w w1) := ⟨((((Oth.refl _ _).setCell (by rfl) _).setCell (by rfl) _).alloc _).trans ho⟩
  have g := one_new ho (by simpa [World.setCell] using lt)
  simp only [World.size_setCell] at g
  obtain ⟨g0, g1, g2, g3⟩ := g
  have hb : w.heap.size ≠ b := by omega
  have hb' : b ≠ w.heap.size := by omega
  clear c0 c1 c2 c3 c4 c5 c6 c7 c8 c9 c10 c11 c12 c13 f5 f6 f7 f8 f9 f10 f11 f12 f13
  obtain ⟨lt1, c0, c1, c2, c3, c4, c5, c6, c7, c8, c9, c10, c11, c12, c13, f5, f6, f7, f8, f9, f10, f11, f12, f13⟩ := hl
  clear ho lg lt
  go_wp2_with fail
  refine bodyPost_ret (v := upv k1 v1 0) (by simp [results, Tryd.results19, go_sem, upv, act, g0, g1, hb, hb']) rfl ⟨rfl, ⟨k1, v1, ?_⟩, ?_⟩
  · exact ((HL.out).setOther hb' _).setOther hb' _
  · exact ((HO.out).setNew (by exact Nat.le_refl _) _).setNew (by exact Nat.le_refl _) _
set_option maxHeartbeats 2000000 in
theorem rupd_new_2_true (b : Nat) (s : LS) (k v : Int) (t o p : Int) (w : World) (h : Rp w b s k v) (t1 : 0 ≤ t) (t2 : t ≤ 1073741824) (o1 : -1125899906842624 ≤ o) (o2 : o ≤ 1125899906842624) (p1 : s.mn ≤ p) (p2 : p ≤ s.mx) (hu : s.up = false) (z1 : 1 ≤ s.sa) (z2 : s.sa ≤ 1125899906842624) (hd : ¬ s.sa ≤ o) (hd2 : ¬ o ≤ -s.sa) (s1 : LS) (k1 v1 : Int) (lg : ∀ w1, Rp w1 b s 0 0 → Calls Tryd.prog 30 #[.pointer (some ⟨b, 0, none⟩), .int .i64 o, .int .i64 0, .int .i64 p] w1 (RPost b s1 k1 v1 (.bool true) w1)) : Calls Tryd.prog 19 #[.pointer (some ⟨b, 0, none⟩), .int .i64 t, .int .i64 o, .int .i64 p] w (RU b { s1 with la := t, po := p, up := true } k1 v1 0 w) := by
  have hmf : ∀ (fn : Fn) (first cap : Array Value) (w : World), (Instr.makeFunc fn first cap).run Tryd.prog w = .ok (.func fn first cap) w := fun _ _ _ _ => rfl
  have H := Kp.mk h
  obtain ⟨lt, c0, c1, c2, c3, c4, c5, c6, c7, c8, c9, c10, c11, c12, c13, f5, f6, f7, f8, f9, f10, f11, f12, f13⟩ := h
  rw [hu] at c8
  have r1 : decide (t < 0) = false := by simp; omega
  have r2 : decide (1073741824 < t) = false := by simp; omega
  have r3 : decide (o < -1125899906842624) = false := by simp; omega
  have r4 : decide (1125899906842624 < o) = false := by simp; omega
  have r5 : decide (p < s.mn) = false := by simp; omega
  have r6 : decide (s.mx < p) = false := by simp; omega
  have e9 : wrap64 (-s.sa) = -s.sa := by unfold wrap64; omega
  have d1 : decide (s.sa ≤ o) = false := by simpa using hd
  have d2 : decide (o ≤ -s.sa) = false := by simpa using hd2
  clear t1 t2 o1 o2 p1 p2 z1 z2 hd hd2
  go_enter Tryd.func19, Tryd.ntmps19
  go_wp2_with fail
  refine (lg _ (((H.out.set12 _).set13 _).alloc _)).mono ?_
  rintro x w1 ⟨rfl, hl, ho⟩
  have HL := Kp.mk hl
  have HO : Kp (Oth b w w1) := ⟨((((Oth.refl _ _).setCell (by rfl) _).setCell (by rfl) _).alloc _).trans ho⟩
  have g := one_new ho (by simpa [World.setCell] using lt)
  simp only [World.size_setCell] at g
  obtain ⟨g0, g1, g2, g3⟩ := g
  have hb : w.heap.size ≠ b := by omega
  have hb' : b ≠ w.heap.size := by omega
  clear c0 c1 c2 c3 c4 c5 c6 c7 c8 c9 c10 c11 c12 c13 f5 f6 f7 f8 f9 f10 f11 f12 f13
  obtain ⟨lt1, c0, c1, c2, c3, c4, c5, c6, c7, c8, c9, c10, c11, c12, c13, f5, f6, f7, f8, f9, f10, f11, f12, f13⟩ := hl
  clear ho lg lt
  go_wp2_with fail
  refine bodyPost_ret (v := upv k1 v1 0) (by simp [results, Tryd.results19, go_sem, upv, act, g0, g1, hb, hb']) rfl ⟨rfl, ⟨k1, v1, ?_⟩, ?_⟩
  · exact ((((HL.out.set8 _).set9 _).set10 _).setOther hb' _).setOther hb' _
  · exact ((((HO.out.setCell (by rfl) _).setCell (by rfl) _).setCell (by rfl) _).setNew (by exact Nat.le_refl _) _).setNew (by exact Nat.le_refl _) _
set_option maxHeartbeats 2000000 in
theorem rupd_new_2_false (b : Nat) (s : LS) (k v : Int) (t o p : Int) (w : World) (h : Rp w b s k v) (t1 : 0 ≤ t) (t2 : t ≤ 1073741824) (o1 : -1125899906842624 ≤ o) (o2 : o ≤ 1125899906842624) (p1 : s.mn ≤ p) (p2 : p ≤ s.mx) (hu : s.up = false) (z1 : 1 ≤ s.sa) (z2 : s.sa ≤ 1125899906842624) (hd : ¬ s.sa ≤ o) (hd2 : ¬ o ≤ -s.sa) (s1 : LS) (k1 v1 : Int) (lg : ∀ w1, Rp w1 b s 0 0 → Calls Tryd.prog 30 #[.pointer (some ⟨b, 0, none⟩), .int .i64 o, .int .i64 0, .int .i64 p] w1 (RPost b s1 k1 v1 (.bool false) w1)) : Calls Tryd.prog 19 #[.pointer (some ⟨b, 0, none⟩), .int .i64 t, .int .i64 o, .int .i64 p] w (RU b s1 k1 v1 0 w) := by
  have hmf : ∀ (fn : Fn) (first cap : Array Value) (w : World), (Instr.makeFunc fn first cap).run Tryd.prog w = .ok (.func fn first cap) w := fun _ _ _ _ => rfl
  have H := Kp.mk h
  obtain ⟨lt, c0, c1, c2, c3, c4, c5, c6, c7, c8, c9, c10, c11, c12, c13, f5, f6, f7, f8, f9, f10, f11, f12, f13⟩ := h
  rw [hu] at c8
  have r1 : decide (t < 0) = false := by simp; omega
  have r2 : decide (1073741824 < t) = false := by simp; omega
  have r3 : decide (o < -1125899906842624) = false := by simp; omega
  have r4 : decide (1125899906842624 < o) = false := by simp; omega
  have r5 : decide (p < s.mn) = false := by simp; omega
  have r6 : decide (s.mx < p) = false := by simp; omega
  have e9 : wrap64 (-s.sa) = -s.sa := by unfold wrap64; omega
  have d1 : decide (s.sa ≤ o) = false := by simpa using hd
  have d2 : decide (o ≤ -s.sa) = false := by simpa using hd2
  clear t1 t2 o1 o2 p1 p2 z1 z2 hd hd2
  go_enter Tryd.func19, Tryd.ntmps19
  go_wp2_with fail
  refine (lg _ (((H.out.set12 _).set13 _).alloc _)).mono ?_
  rintro x w1 ⟨rfl, hl, ho⟩
  have HL := Kp.mk hl
  have HO : Kp (Oth b w w1) := ⟨((((Oth.refl _ _).setCell (by rfl) _).setCell (by rfl) _).alloc _).trans ho⟩
  have g := one_new ho (by simpa [World.setCell] using lt)
  simp only [World.size_setCell] at g
  obtain ⟨g0, g1, g2, g3⟩ := g
  have hb : w.heap.size ≠ b := by omega
  have hb' : b ≠ w.heap.size := by omega
  clear c0 c1 c2 c3 c4 c5 c6 c7 c8 c9 c10 c11 c12 c13 f5 f6 f7 f8 f9 f10 f11 f12 f13
  obtain ⟨lt1, c0, c1, c2, c3, c4, c5, c6, c7, c8, c9, c10, c11, c12, c13, f5, f6, f7, f8, f9, f10, f11, f12, f13⟩ := hl
  clear ho lg lt
  go_wp2_with fail
  refine bodyPost_ret (v := upv k1 v1 0) (by simp [results, Tryd.results19, go_sem, upv, act, g0, g1, hb, hb']) rfl ⟨rfl, ⟨k1, v1, ?_⟩, ?_⟩
  · exact ((HL.out).setOther hb' _).setOther hb' _
  · exact ((HO.out).setNew (by exact Nat.le_refl _) _).setNew (by exact Nat.le_refl _) _
set_option maxHeartbeats 2000000 in
theorem rupd_old_0_true (b : Nat) (s : LS) (k v : Int) (t o p : Int) (w : World) (h : Rp w b s k v) (t1 : 0 ≤ t) (t2 : t ≤ 1073741824) (o1 : -1125899906842624 ≤ o) (o2 : o ≤ 1125899906842624) (p1 : s.mn ≤ p) (p2 : p ≤ s.mx) (hu : s.up = true) (hl : s.la < t) (hl0 : 0 ≤ s.la) (z1 : 1 ≤ s.sa) (z2 : s.sa ≤ 1125899906842624) (hd : s.sa ≤ o) (s1 : LS) (k1 v1 : Int) (lg : ∀ w1, Rp w1 b s 0 0 → Calls Tryd.prog 29 #[.pointer (some ⟨b, 0, none⟩), .int .i64 t, .int .i64 o, .int .i64 (t - s.la)] w1 (RPost b s1 k1 v1 (.bool true) w1)) : Calls Tryd.prog 19 #[.pointer (some ⟨b, 0, none⟩), .int .i64 t, .int .i64 o, .int .i64 p] w (RU b { s1 with la := t, po := p, up := true } k1 v1 0 w) := by
  have hmf : ∀ (fn : Fn) (first cap : Array Value) (w : World), (Instr.makeFunc fn first cap).run Tryd.prog w = .ok (.func fn first cap) w := fun _ _ _ _ => rfl
  have H := Kp.mk h
  obtain ⟨lt, c0, c1, c2, c3, c4, c5, c6, c7, c8, c9, c10, c11, c12, c13, f5, f6, f7, f8, f9, f10, f11, f12, f13⟩ := h
  rw [hu] at c8
  have r1 : decide (t < 0) = false := by simp; omega
  have r2 : decide (1073741824 < t) = false := by simp; omega
  have r3 : decide (o < -1125899906842624) = false := by simp; omega
  have r4 : decide (1125899906842624 < o) = false := by simp; omega
  have r5 : decide (p < s.mn) = false := by simp; omega
  have r6 : decide (s.mx < p) = false := by simp; omega
  have e9 : wrap64 (-s.sa) = -s.sa := by unfold wrap64; omega
  have l1 : decide (t ≤ s.la) = false := by simp; omega
  have l4 : wrap64 (t - s.la) = t - s.la := by unfold wrap64; omega
  have d1 : decide (s.sa ≤ o) = true := by simpa using hd
  clear t1 t2 o1 o2 p1 p2 z1 z2 hd hl hl0
  go_enter Tryd.func19, Tryd.ntmps19
  go_wp2_with fail
  simp only [l4]
  refine (lg _ (((H.out.set12 _).set13 _).alloc _)).mono ?_
  rintro x w1 ⟨rfl, hl, ho⟩
  have HL := Kp.mk hl
  have HO : Kp (Oth b w w1) := ⟨((((Oth.refl _ _).setCell (by rfl) _).setCell (by rfl) _).alloc _).trans ho⟩
  have g := one_new ho (by simpa [World.setCell] using lt)
  simp only [World.size_setCell] at g
  obtain ⟨g0, g1, g2, g3⟩ := g
  have hb : w.heap.size ≠ b := by omega
  have hb' : b ≠ w.heap.size := by omega
  clear c0 c1 c2 c3 c4 c5 c6 c7 c8 c9 c10 c11 c12 c13 f5 f6 f7 f8 f9 f10 f11 f12 f13
  obtain ⟨lt1, c0, c1, c2, c3, c4, c5, c6, c7, c8, c9, c10, c11, c12, c13, f5, f6, f7, f8, f9, f10, f11, f12, f13⟩ := hl
  clear ho lg lt
  go_wp2_with fail
  refine bodyPost_ret (v := upv k1 v1 0) (by simp [results, Tryd.results19, go_sem, upv, act, g0, g1, hb, hb']) rfl ⟨rfl, ⟨k1, v1, ?_⟩, ?_⟩
  · exact ((((HL.out.set8 _).set9 _).set10 _).setOther hb' _).setOther hb' _
  · exact ((((HO.out.setCell (by rfl) _).setCell (by rfl) _).setCell (by rfl) _).setNew (by exact Nat.le_refl _) _).setNew (by exact Nat.le_refl _) _
set_option maxHeartbeats 2000000 in
theorem rupd_old_0_false (b : Nat) (s : LS) (k v : Int) (t o p : Int) (w : World) (h : Rp w b s k v) (t1 : 0 ≤ t) (t2 : t ≤ 1073741824) (o1 : -1125899906842624 ≤ o) (o2 : o ≤ 1125899906842624) (p1 : s.mn ≤ p) (p2 : p ≤ s.mx) (hu : s.up = true) (hl : s.la < t) (hl0 : 0 ≤ s.la) (z1 : 1 ≤ s.sa) (z2 : s.sa ≤ 1125899906842624) (hd : s.sa ≤ o) (s1 : LS) (k1 v1 : Int) (lg : ∀ w1, Rp w1 b s 0 0 → Calls Tryd.prog 29 #[.pointer (some ⟨b, 0, none⟩), .int .i64 t, .int .i64 o, .int .i64 (t - s.la)] w1 (RPost b s1 k1 v1 (.bool false) w1)) : Calls Tryd.prog 19 #[.pointer (some ⟨b, 0, none⟩), .int .i64 t, .int .i64 o, .int .i64 p] w (RU b s1 k1 v1 0 w) := by
  have hmf : ∀ (fn : Fn) (first cap : Array Value) (w : World), (Instr.makeFunc fn first cap).run Tryd.prog w = .ok (.func fn first cap) w := fun _ _ _ _ => rfl
  have H := Kp.mk h
  obtain ⟨lt, c0, c1, c2, c3, c4, c5, c6, c7, c8, c9, c10, c11, c12, c13, f5, f6, f7, f8, f9, f10, f11, f12, f13⟩ := h
  rw [hu] at c8
  have r1 : decide (t < 0) = false := by simp; omega
  have r2 : decide (1073741824 < t) = false := by simp; omega
  have r3 : decide (o < -1125899906842624) = false := by simp; omega
  have r4 : decide (1125899906842624 < o) = false := by simp; omega
  have r5 : decide (p < s.mn) = false := by simp; omega
  have r6 : decide (s.mx < p) = false := by simp; omega
  have e9 : wrap64 (-s.sa) = -s.sa := by unfold wrap64; omega
  have l1 : decide (t ≤ s.la) = false := by simp; omega
  have l4 : wrap64 (t - s.la) = t - s.la := by unfold wrap64; omega
  have d1 : decide (s.sa ≤ o) = true := by simpa using hd
  clear t1 t2 o1 o2 p1 p2 z1 z2 hd hl hl0
  go_enter Tryd.func19, Tryd.ntmps19
  go_wp2_with fail
  simp only [l4]
  refine (lg _ (((H.out.set12 _).set13 _).alloc _)).mono ?_
  rintro x w1 ⟨rfl, hl, ho⟩
  have HL := Kp.mk hl
  have HO : Kp (Oth b w w1) := ⟨((((Oth.refl _ _).setCell (by rfl) _).setCell (by rfl) _).alloc _).trans ho⟩
  have g := one_new ho (by simpa [World.setCell] using lt)
  simp only [World.size_setCell] at g
  obtain ⟨g0, g1, g2, g3⟩ := g
  have hb : w.heap.size ≠ b := by omega
  have hb' : b ≠ w.heap.size := by omega
  clear c0 c1 c2 c3 c4 c5 c6 c7 c8 c9 c10 c11 c12 c13 f5 f6 f7 f8 f9 f10 f11 f12 f13
  obtain ⟨lt1, c0, c1, c2, c3, c4, c5, c6, c7, c8, c9, c10, c11, c12, c13, f5, f6, f7, f8, f9, f10, f11, f12, f13⟩ := hl
  clear ho lg lt
  go_wp2_with fail
  refine bodyPost_ret (v := upv k1 v1 0) (by simp [results, Tryd.results19, go_sem, upv, act, g0, g1, hb, hb']) rfl ⟨rfl, ⟨k1, v1, ?_⟩, ?_⟩
  · exact ((HL.out).setOther hb' _).setOther hb' _
  · exact ((HO.out).setNew (by exact Nat.le_refl _) _).setNew (by exact Nat.le_refl _) _
set_option maxHeartbeats 2000000 in
theorem rupd_old_1_true (b : Nat) (s : LS) (k v : Int) (t o p : Int) (w : World) (h : Rp w b s k v) (t1 : 0 ≤ t) (t2 : t ≤ 1073741824) (o1 : -1125899906842624 ≤ o) (o2 : o ≤ 1125899906842624) (p1 : s.mn ≤ p) (p2 : p ≤ s.mx) (hu : s.up = true) (hl : s.la < t) (hl0 : 0 ≤ s.la) (z1 : 1 ≤ s.sa) (z2 : s.sa ≤ 1125899906842624) (hd : ¬ s.sa ≤ o) (hd2 : o ≤ -s.sa) (s1 : LS) (k1 v1 : Int) (lg : ∀ w1, Rp w1 b s 0 0 → Calls Tryd.prog 29 #[.pointer (some ⟨b, 0, none⟩), .int .i64 t, .int .i64 o, .int .i64 (t - s.la)] w1 (RPost b s1 k1 v1 (.bool true) w1)) : Calls Tryd.prog 19 #[.pointer (some ⟨b, 0, none⟩), .int .i64 t, .int .i64 o, .int .i64 p] w (RU b { s1 with la := t, po := p, up := true } k1 v1 0 w) := by
  have hmf : ∀ (fn : Fn) (first cap : Array Value) (w : World), (Instr.makeFunc fn first cap).run Tryd.prog w = .ok (.func fn first cap) w := fun _ _ _ _ => rfl
  have H := Kp.mk h
  obtain ⟨lt, c0, c1, c2, c3, c4, c5, c6, c7, c8, c9, c10, c11, c12, c13, f5, f6, f7, f8, f9, f10, f11, f12, f13⟩ := h
  rw [hu] at c8
  have r1 : decide (t < 0) = false := by simp; omega
  have r2 : decide (1073741824 < t) = false := by simp; omega
  have r3 : decide (o < -1125899906842624) = false := by simp; omega
  have r4 : decide (1125899906842624 < o) = false := by simp; omega
  have r5 : decide (p < s.mn) = false := by simp; omega
  have r6 : decide (s.mx < p) = false := by simp; omega
  have e9 : wrap64 (-s.sa) = -s.sa := by unfold wrap64; omega
  have l1 : decide (t ≤ s.la) = false := by simp; omega
  have l4 : wrap64 (t - s.la) = t - s.la := by unfold wrap64; omega
  have d1 : decide (s.sa ≤ o) = false := by simpa using hd
  have d2 : decide (o ≤ -s.sa) = true := by simpa using hd2
  clear t1 t2 o1 o2 p1 p2 z1 z2 hd hd2 hl hl0
  go_enter Tryd.func19, Tryd.ntmps19
  go_wp2_with fail
  simp only [l4]
  refine (lg _ (((H.out.set12 _).set13 _).alloc _)).mono ?_
  rintro x w1 ⟨rfl, hl, ho⟩
  have HL := Kp.mk hl
  have HO : Kp (Oth b w w1) := ⟨((((Oth.refl _ _).setCell (by rfl) _).setCell (by rfl) _).alloc _).trans ho⟩
  have g := one_new ho (by simpa [World.setCell] using lt)
  simp only [World.size_setCell] at g
  obtain ⟨g0, g1, g2, g3⟩ := g
  have hb : w.heap.size ≠ b := by omega
  have hb' : b ≠ w.heap.size := by omega
  clear c0 c1 c2 c3 c4 c5 c6 c7 c8 c9 c10 c11 c12 c13 f5 f6 f7 f8 f9 f10 f11 f12 f13
  obtain ⟨lt1, c0, c1, c2, c3, c4, c5, c6, c7, c8, c9, c10, c11, c12, c13, f5, f6, f7, f8, f9, f10, f11, f12, f13⟩ := hl
  clear ho lg lt
  go_wp2_with fail
  refine bodyPost_ret (v := upv k1 v1 0) (by simp [results, Tryd.results19, go_sem, upv, act, g0, g1, hb, hb']) rfl ⟨rfl, ⟨k1, v1, ?_⟩, ?_⟩
  · exact ((((HL.out.set8 _).set9 _).set10 _).setOther hb' _).setOther hb' _
  · exact ((((HO.out.setCell (by rfl) _).setCell (by rfl) _).setCell (by rfl) _).setNew (by exact Nat.le_refl _) _).setNew (by exact Nat.le_refl _) _
set_option maxHeartbeats 2000000 in
theorem rupd_old_1_false (b : Nat) (s : LS) (k v : Int) (t o p : Int) (w : World) (h : Rp w b s k v) (t1 : 0 ≤ t) (t2 : t ≤ 1073741824) (o1 : -1125899906842624 ≤ o) (o2 : o ≤ 1125899906842624) (p1 : s.mn ≤ p) (p2 : p ≤ s.mx) (hu : s.up = true) (hl : s.la < t) (hl0 : 0 ≤ s.la) (z1 : 1 ≤ s.sa) (z2 : s.sa ≤ 1125899906842624) (hd : ¬ s.sa ≤ o) (hd2 : o ≤ -s.sa) (s1 : LS) (k1 v1 : Int) (lg : ∀ w1, Rp w1 b s 0 0 → Calls Tryd.prog 29 #[.pointer (some ⟨b, 0, none⟩), .int .i64 t, .int .i64 o, .int .i64 (t - s.la)] w1 (RPost b s1 k1 v1 (.bool false) w1)) : Calls Tryd.prog 19 #[.pointer (some ⟨b, 0, none⟩), .int .i64 t, .int .i64 o, .int .i64 p] w (RU b s1 k1 v1 0 w) := by
  have hmf : ∀ (fn : Fn) (first cap : Array Value) (w : World), (Instr.makeFunc fn first cap).run Tryd.prog w = .ok (.func fn first cap) w := fun _ _ _ _ => rfl
  have H := Kp.mk h
  obtain ⟨lt, c0, c1, c2, c3, c4, c5, c6, c7, c8, c9, c10, c11, c12, c13, f5, f6, f7, f8, f9, f10, f11, f12, f13⟩ := h
  rw [hu] at c8
  have r1 : decide (t < 0) = false := by simp; omega
  have r2 : decide (1073741824 < t) = false := by simp; omega
  have r3 : decide (o < -1125899906842624) = false := by simp; omega
  have r4 : decide (1125899906842624 < o) = false := by simp; omega
  have r5 : decide (p < s.mn) = false := by simp; omega
  have r6 : decide (s.mx < p) = false := by simp; omega
  have e9 : wrap64 (-s.sa) = -s.sa := by unfold wrap64; omega
  have l1 : decide (t ≤ s.la) = false := by simp; omega
  have l4 : wrap64 (t - s.la) = t - s.la := by unfold wrap64; omega
  have d1 : decide (s.sa ≤ o) = false := by simpa using hd
  have d2 : decide (o ≤ -s.sa) = true := by simpa using hd2
  clear t1 t2 o1 o2 p1 p2 z1 z2 hd hd2 hl hl0
  go_enter Tryd.func19, Tryd.ntmps19
  go_wp2_with fail
  simp only [l4]
  refine (lg _ (((H.out.set12 _).set13 _).alloc _)).mono ?_
  rintro x w1 ⟨rfl, hl, ho⟩
  have HL := Kp.mk hl
  have HO : Kp (Oth b w w1) := ⟨((((Oth.refl _ _).setCell (by rfl) _).setCell (by rfl) _).alloc _).trans ho⟩
  have g := one_new ho (by simpa [World.setCell] using lt)
  simp only [World.size_setCell] at g
  obtain ⟨g0, g1, g2, g3⟩ := g
  have hb : w.heap.size ≠ b := by omega
  have hb' : b ≠ w.heap.size := by omega
  clear c0 c1 c2 c3 c4 c5 c6 c7 c8 c9 c10 c11 c12 c13 f5 f6 f7 f8 f9 f10 f11 f12 f13
  obtain ⟨lt1, c0, c1, c2, c3, c4, c5, c6, c7, c8, c9, c10, c11, c12, c13, f5, f6, f7, f8, f9, f10, f11, f12, f13⟩ := hl
  clear ho lg lt
  go_wp2_with fail
  refine bodyPost_ret (v := upv k1 v1 0) (by simp [results, Tryd.results19, go_sem, upv, act, g0, g1, hb, hb']) rfl ⟨rfl, ⟨k1, v1, ?_⟩, ?_⟩
  · exact ((HL.out).setOther hb' _).setOther hb' _
  · exact ((HO.out).setNew (by exact Nat.le_refl _) _).setNew (by exact Nat.le_refl _) _
set_option maxHeartbeats 2000000 in
theorem rupd_old_2_true (b : Nat) (s : LS) (k v : Int) (t o p : Int) (w : World) (h : Rp w b s k v) (t1 : 0 ≤ t) (t2 : t ≤ 1073741824) (o1 : -1125899906842624 ≤ o) (o2 : o ≤ 1125899906842624) (p1 : s.mn ≤ p) (p2 : p ≤ s.mx) (hu : s.up = true) (hl : s.la < t) (hl0 : 0 ≤ s.la) (z1 : 1 ≤ s.sa) (z2 : s.sa ≤ 1125899906842624) (hd : ¬ s.sa ≤ o) (hd2 : ¬ o ≤ -s.sa) (s1 : LS) (k1 v1 : Int) (lg : ∀ w1, Rp w1 b s 0 0 → Calls Tryd.prog 30 #[.pointer (some ⟨b, 0, none⟩), .int .i64 o, .int .i64 (t - s.la), .int .i64 p] w1 (RPost b s1 k1 v1 (.bool true) w1)) : Calls Tryd.prog 19 #[.pointer (some ⟨b, 0, none⟩), .int .i64 t, .int .i64 o, .int .i64 p] w (RU b { s1 with la := t, po := p, up := true } k1 v1 0 w) := by
  have hmf : ∀ (fn : Fn) (first cap : Array Value) (w : World), (Instr.makeFunc fn first cap).run Tryd.prog w = .ok (.func fn first cap) w := fun _ _ _ _ => rfl
  have H := Kp.mk h
  obtain ⟨lt, c0, c1, c2, c3, c4, c5, c6, c7, c8, c9, c10, c11, c12, c13, f5, f6, f7, f8, f9, f10, f11, f12, f13⟩ := h
  rw [hu] at c8
  have r1 : decide (t < 0) = false := by simp; omega
  have r2 : decide (1073741824 < t) = false := by simp; omega
  have r3 : decide (o < -1125899906842624) = false := by simp; omega
  have r4 : decide (1125899906842624 < o) = false := by simp; omega
  have r5 : decide (p < s.mn) = false := by simp; omega
  have r6 : decide (s.mx < p) = false := by simp; omega
  have e9 : wrap64 (-s.sa) = -s.sa := by unfold wrap64; omega
  have l1 : decide (t ≤ s.la) = false := by simp; omega
  have l4 : wrap64 (t - s.la) = t - s.la := by unfold wrap64; omega
  have d1 : decide (s.sa ≤ o) = false := by simpa using hd
  have d2 : decide (o ≤ -s.sa) = false := by simpa using hd2
  clear t1 t2 o1 o2 p1 p2 z1 z2 hd hd2 hl hl0
  go_enter Tryd.func19, Tryd.ntmps19
  go_wp2_with fail
  simp only [l4]
  refine (lg _ (((H.out.set12 _).set13 _).alloc _)).mono ?_
  rintro x w1 ⟨rfl, hl, ho⟩
  have HL := Kp.mk hl
  have HO : Kp (Oth b w w1) := ⟨((((Oth.refl _ _).setCell (by rfl) _).setCell (by rfl) _).alloc _).trans ho⟩
  have g := one_new ho (by simpa [World.setCell] using lt)
  simp only [World.size_setCell] at g
  obtain ⟨g0, g1, g2, g3⟩ := g
  have hb : w.heap.size ≠ b := by omega
  have hb' : b ≠ w.heap.size := by omega
  clear c0 c1 c2 c3 c4 c5 c6 c7 c8 c9 c10 c11 c12 c13 f5 f6 f7 f8 f9 f10 f11 f12 f13
  obtain ⟨lt1, c0, c1, c2, c3, c4, c5, c6, c7, c8, c9, c10, c11, c12, c13, f5, f6, f7, f8, f9, f10, f11, f12, f13⟩ := hl
  clear ho lg lt
  go_wp2_with fail
  refine bodyPost_ret (v := upv k1 v1 0) (by simp [results, Tryd.results19, go_sem, upv, act, g0, g1, hb, hb']) rfl ⟨rfl, ⟨k1, v1, ?_⟩, ?_⟩
  · exact ((((HL.out.set8 _).set9 _).set10 _).setOther hb' _).setOther hb' _
  · exact ((((HO.out.setCell (by rfl) _).setCell (by rfl) _).setCell (by rfl) _).setNew (by exact Nat.le_refl _) _).setNew (by exact Nat.le_refl _) _
set_option maxHeartbeats 2000000 in
theorem rupd_old_2_false (b : Nat) (s : LS) (k v : Int) (t o p : Int) (w : World) (h : Rp w b s k v) (t1 : 0 ≤ t) (t2 : t ≤ 1073741824) (o1 : -1125899906842624 ≤ o) (o2 : o ≤ 1125899906842624) (p1 : s.mn ≤ p) (p2 : p ≤ s.mx) (hu : s.up = true) (hl : s.la < t) (hl0 : 0 ≤ s.la) (z1 : 1 ≤ s.sa) (z2 : s.sa ≤ 1125899906842624) (hd : ¬ s.sa ≤ o) (hd2 : ¬ o ≤ -s.sa) (s1 : LS) (k1 v1 : Int) (lg : ∀ w1, Rp w1 b s 0 0 → Calls Tryd.prog 30 #[.pointer (some ⟨b, 0, none⟩), .int .i64 o, .int .i64 (t - s.la), .int .i64 p] w1 (RPost b s1 k1 v1 (.bool false) w1)) : Calls Tryd.prog 19 #[.pointer (some ⟨b, 0, none⟩), .int .i64 t, .int .i64 o, .int .i64 p] w (RU b s1 k1 v1 0 w) := by
  have hmf : ∀ (fn : Fn) (first cap : Array Value) (w : World), (Instr.makeFunc fn first cap).run Tryd.prog w = .ok (.func fn first cap) w := fun _ _ _ _ => rfl
  have H := Kp.mk h
  obtain ⟨lt, c0, c1, c2, c3, c4, c5, c6, c7, c8, c9, c10, c11, c12, c13, f5, f6, f7, f8, f9, f10, f11, f12, f13⟩ := h
  rw [hu] at c8
  have r1 : decide (t < 0) = false := by simp; omega
  have r2 : decide (1073741824 < t) = false := by simp; omega
  have r3 : decide (o < -1125899906842624) = false := by simp; omega
  have r4 : decide (1125899906842624 < o) = false := by simp; omega
  have r5 : decide (p < s.mn) = false := by simp; omega
  have r6 : decide (s.mx < p) = false := by simp; omega
  have e9 : wrap64 (-s.sa) = -s.sa := by unfold wrap64; omega
  have l1 : decide (t ≤ s.la) = false := by simp; omega
  have l4 : wrap64 (t - s.la) = t - s.la := by unfold wrap64; omega
  have d1 : decide (s.sa ≤ o) = false := by simpa using hd
  have d2 : decide (o ≤ -s.sa) = false := by simpa using hd2
  clear t1 t2 o1 o2 p1 p2 z1 z2 hd hd2 hl hl0
  go_enter Tryd.func19, Tryd.ntmps19
  go_wp2_with fail
  simp only [l4]
  refine (lg _ (((H.out.set12 _).set13 _).alloc _)).mono ?_
  rintro x w1 ⟨rfl, hl, ho⟩
  have HL := Kp.mk hl
  have HO : Kp (Oth b w w1) := ⟨((((Oth.refl _ _).setCell (by rfl) _).setCell (by rfl) _).alloc _).trans ho⟩
  have g := one_new ho (by simpa [World.setCell] using lt)
  simp only [World.size_setCell] at g
  obtain ⟨g0, g1, g2, g3⟩ := g
  have hb : w.heap.size ≠ b := by omega
  have hb' : b ≠ w.heap.size := by omega
  clear c0 c1 c2 c3 c4 c5 c6 c7 c8 c9 c10 c11 c12 c13 f5 f6 f7 f8 f9 f10 f11 f12 f13
  obtain ⟨lt1, c0, c1, c2, c3, c4, c5, c6, c7, c8, c9, c10, c11, c12, c13, f5, f6, f7, f8, f9, f10, f11, f12, f13⟩ := hl
  clear ho lg lt
  go_wp2_with fail
  refine bodyPost_ret (v := upv k1 v1 0) (by simp [results, Tryd.results19, go_sem, upv, act, g0, g1, hb, hb']) rfl ⟨rfl, ⟨k1, v1, ?_⟩, ?_⟩
  · exact ((HL.out).setOther hb' _).setOther hb' _
  · exact ((HO.out).setNew (by exact Nat.le_refl _) _).setNew (by exact Nat.le_refl _) _
theorem rupd_any (b : Nat) (s : LS) (k v : Int) (t o p : Int) (w : World) (h : Rp w b s k v) (ok : s.Ok) : Calls Tryd.prog 19 #[.pointer (some ⟨b, 0, none⟩), .int .i64 t, .int .i64 o, .int .i64 p] w (RU b (updF s t o p).1 (updF s t o p).2.1.1 (updF s t o p).2.1.2 (updF s t o p).2.2 w) := by
  have ok' := ok
  obtain ⟨mn1, mnx, mx2, sa1, sa2, so1, so2, li1, li2, st1, st2, fr1, fr2, ph1, ph2, la1, la2, po1, po2, sp1, sp2, new⟩ := ok
  by_cases hr : t < 0 ∨ 1073741824 < t ∨ o < -1125899906842624 ∨ 1125899906842624 < o ∨ p < s.mn ∨ s.mx < p
  · have hb : ((inB t 0 1073741824 && inB o (-1125899906842624) 1125899906842624) && inB p s.mn s.mx) = false := by
      rw [Bool.eq_false_iff]
      simp only [ne_eq, Bool.and_eq_true, inB_iff]
      omega
    rw [show updF s t o p = (s, (0, 0), 3) by unfold updF; rw [if_pos hb]]
    exact rupd_range b s k v t o p w h hr
  · have hb : ¬ ((inB t 0 1073741824 && inB o (-1125899906842624) 1125899906842624) && inB p s.mn s.mx) = false := by
      rw [Bool.not_eq_false]
      simp only [Bool.and_eq_true, inB_iff]
      omega
    have t1 : 0 ≤ t := by omega
    have t2 : t ≤ 1073741824 := by omega
    have o1 : -1125899906842624 ≤ o := by omega
    have o2 : o ≤ 1125899906842624 := by omega
    have p1 : s.mn ≤ p := by omega
    have p2 : p ≤ s.mx := by omega
    clear hr
    rcases Bool.eq_false_or_eq_true s.up with hu | hu
    · by_cases hl : t ≤ s.la
      · rw [show updF s t o p = (s, (0, 0), 12) by unfold updF; rw [if_neg hb, if_pos ⟨hu, hl⟩]]
        exact rupd_order b s k v t o p w h t1 t2 o1 o2 p1 p2 hu hl
      · have hl' : s.la < t := by omega
        have hum : (if s.up = true then t - s.la else 0) = t - s.la := if_pos hu
        obtain ⟨sl, kl, vl, rl, lg, hL⟩ := rlarge_any b s t o (t - s.la) ok' (by intro e; omega) (by omega) t2 o1 o2
        obtain ⟨ss, ks, vs, rs, sg, hS⟩ := rsmall_any b s o (t - s.la) p ok' (by intro e; omega) (by omega) (by omega) (by omega) o1 o2
        unfold updF
        rw [if_neg hb, if_neg (by omega), hum]
        by_cases hz : s.sa ≤ max o (-o)
        · rcases hL with ⟨rfl, h1, h2, rfl, rfl, rfl⟩ | ⟨rfl, h1, rfl, rfl, rfl⟩
          · rw [if_pos ⟨h1, h2⟩]
            by_cases hd : sl.sa ≤ o
            · exact rupd_old_0_false b _ k v t o p w h t1 t2 o1 o2 p1 p2 hu hl' la1 sa1 sa2 hd _ _ _ lg
            · exact rupd_old_1_false b _ k v t o p w h t1 t2 o1 o2 p1 p2 hu hl' la1 sa1 sa2 hd (by omega) _ _ _ lg
          · rw [if_neg h1, if_pos hz]
            by_cases hd : s.sa ≤ o
            · exact rupd_old_0_true b _ k v t o p w h t1 t2 o1 o2 p1 p2 hu hl' la1 sa1 sa2 hd _ _ _ lg
            · exact rupd_old_1_true b _ k v t o p w h t1 t2 o1 o2 p1 p2 hu hl' la1 sa1 sa2 hd (by omega) _ _ _ lg
        · rcases hS with ⟨rfl, h1, h2, rfl, rfl, rfl⟩ | ⟨rfl, h1, rfl, rfl, rfl⟩
          · rw [if_pos ⟨h1, h2⟩]
            exact rupd_old_2_false b _ k v t o p w h t1 t2 o1 o2 p1 p2 hu hl' la1 sa1 sa2 (by omega) (by omega) _ _ _ sg
          · rw [if_neg h1, if_neg hz]
            exact rupd_old_2_true b _ k v t o p w h t1 t2 o1 o2 p1 p2 hu hl' la1 sa1 sa2 (by omega) (by omega) _ _ _ sg
    · have hum : (if s.up = true then t - s.la else 0) = 0 := if_neg (by simp [hu])
      have hn := (new hu).1
      have hn2 := (new hu).2
      obtain ⟨sl, kl, vl, rl, lg, hL⟩ := rlarge_any b s t o 0 ok' (by intro e; omega) (by omega) t2 o1 o2
      obtain ⟨ss, ks, vs, rs, sg, hS⟩ := rsmall_any b s o 0 p ok' (by intro e; omega) (by omega) (by omega) (by omega) o1 o2
      unfold updF
      rw [if_neg hb, if_neg (by simp [hu]), hum, if_neg (by omega)]
      by_cases hz : s.sa ≤ max o (-o)
      · rcases hL with ⟨rfl, h1, h2, rfl, rfl, rfl⟩ | ⟨rfl, h1, rfl, rfl, rfl⟩
        · exact absurd h1 (by omega)
        · rw [if_pos hz]
          by_cases hd : s.sa ≤ o
          · exact rupd_new_0_true b _ k v t o p w h t1 t2 o1 o2 p1 p2 hu sa1 sa2 hd _ _ _ lg
          · exact rupd_new_1_true b _ k v t o p w h t1 t2 o1 o2 p1 p2 hu sa1 sa2 hd (by omega) _ _ _ lg
      · rcases hS with ⟨rfl, h1, h2, rfl, rfl, rfl⟩ | ⟨rfl, h1, rfl, rfl, rfl⟩
        · exact absurd h1 (by omega)
        · rw [if_neg hz]
          exact rupd_new_2_true b _ k v t o p w h t1 t2 o1 o2 p1 p2 hu sa1 sa2 (by omega) (by omega) _ _ _ sg
end Go.Proofs.YtbfobodaeimklaaDoor
