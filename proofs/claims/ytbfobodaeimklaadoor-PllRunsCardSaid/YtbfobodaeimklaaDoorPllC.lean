/-
  The contracts of package pll's New, large and small.
-/
import Derived.Test.YtbfobodaeimklaaDoorPllB
set_option linter.unusedSimpArgs false
set_option linter.unusedVariables false
namespace Go.Proofs.YtbfobodaeimklaaDoor
open Go.RowKit
def LS.new (mn mx sa so li : Int) : LS := ⟨mn, mx, sa, so, li, 0, 0, 0, 0, mn, false, 0⟩
def NewPost (s : LS) (w : World) (x : Ending) (w' : World) : Prop := ∃ b, x = .returned (.pointer (some ⟨b, 0, none⟩)) ∧ w.heap.size ≤ b ∧ Lp w' b s ∧ Below w.heap.size w w'
theorem new_bad (mn mx sa so li : Int) (h : chkF mn mx sa so li ≠ 0) (w : World) : Calls Tryd.prog 12 #[.agg #[.int .i64 mn, .int .i64 mx, .int .i64 sa, .int .i64 so, .int .i64 li]] w (QPost (.pointer none) w) := by
  have ck := fun w => check_any mn mx sa so li w
  generalize chkF mn mx sa so li = e at *
  have t1 : (e != 0) = true := by simpa using h
  clear h
  go_enter Tryd.func12, Tryd.ntmps12
  go_wp2_with fail
  refine (ck _).mono ?_
  rintro x w1 ⟨rfl, hb⟩
  go_wp2
  refine bodyPost_ret (v := .pointer none) (by simp [results, Tryd.results12, go_sem]) rfl ⟨rfl, ?_⟩
  exact Below.then ((Below.refl _ _).alloc (Nat.le_refl _) _) (by simp) hb
theorem new_good (mn mx sa so li : Int) (h : chkF mn mx sa so li = 0) (w : World) : Calls Tryd.prog 12 #[.agg #[.int .i64 mn, .int .i64 mx, .int .i64 sa, .int .i64 so, .int .i64 li]] w (NewPost (LS.new mn mx sa so li) w) := by
  have ck := fun w => check_any mn mx sa so li w
  rw [h] at ck
  clear h
  go_enter Tryd.func12, Tryd.ntmps12
  go_wp2_with fail
  refine (ck _).mono ?_
  rintro x w1 ⟨rfl, hb⟩
  have HB := Kp.mk hb
  have r0 := hb.cell (p := ⟨w.heap.size, 0, none⟩) (by simp)
  have r1 := hb.cell (p := ⟨w.heap.size, 1, none⟩) (by simp)
  have r2 := hb.cell (p := ⟨w.heap.size, 2, none⟩) (by simp)
  have r3 := hb.cell (p := ⟨w.heap.size, 3, none⟩) (by simp)
  have r4 := hb.cell (p := ⟨w.heap.size, 4, none⟩) (by simp)
  rw [World.cell?_alloc_at _ _ _ _ rfl] at r0 r1 r2 r3 r4
  simp at r0 r1 r2 r3 r4
  clear hb
  go_wp2
  exact bodyPost_ret (v := .pointer (some ⟨w1.heap.size, 0, none⟩)) (by simp [results, Tryd.results12, go_sem]) rfl ⟨_, rfl, Nat.le_trans (by simp) HB.out.size, lp_alloc w1 (LS.new mn mx sa so li) _, (Below.then ((Below.refl _ _).alloc (Nat.le_refl _) _) (by simp) HB.out).alloc (Nat.le_trans (by simp) HB.out.size) _⟩
/-- An action as a value. -/
def act (k v : Int) : Value := .agg #[.int .i64 k, .int .i64 v]
set_option maxHeartbeats 1000000 in
theorem large_unset (b : Nat) (s : LS) (t o mu : Int) (w : World) (h : Lp w b s) (hs : s.st = 0) : Calls Tryd.prog 27 #[.pointer (some ⟨b, 0, none⟩), .int .i64 t, .int .i64 o, .int .i64 mu] w (LPost b { s with st := 1, ph := 0 } (act 2 o) w) := by
  have H := Kp.mk h
  obtain ⟨lt, c0, c1, c2, c3, c4, c5, c6, c7, c8, c9, c10, c11, f5, f6, f7, f8, f9, f10, f11⟩ := h
  rw [hs] at c5
  go_enter Tryd.func27, Tryd.ntmps27
  go_wp2
  refine bodyPost_ret (v := act 2 o) (by simp [results, Tryd.results27, go_sem, act]) rfl ⟨rfl, ?_, ?_⟩
  · exact ((H.out.set5 _).set7 _).alloc _
  · exact (((Oth.refl _ _).setCell (by rfl) _).setCell (by rfl) _).alloc _
set_option maxHeartbeats 1000000 in
theorem large_sync (b : Nat) (s : LS) (t o mu : Int) (w : World) (h : Lp w b s) (hs : s.st = 3) (hso : 1 ≤ s.so) : Calls Tryd.prog 27 #[.pointer (some ⟨b, 0, none⟩), .int .i64 t, .int .i64 o, .int .i64 mu] w (LPost b { s with st := 2, sp := t } (act 0 0) w) := by
  have H := Kp.mk h
  obtain ⟨lt, c0, c1, c2, c3, c4, c5, c6, c7, c8, c9, c10, c11, f5, f6, f7, f8, f9, f10, f11⟩ := h
  rw [hs] at c5
  have e1 : wrap64 (t - t) = 0 := by unfold wrap64; omega
  have t1 : decide (0 < s.so) = true := by simp; omega
  go_enter Tryd.func27, Tryd.ntmps27
  go_wp2
  go_quiet (fail)
  rename_i nq
  go_wp2
  refine bodyPost_ret (v := act 0 0) (by simp [results, Tryd.results27, go_sem, act]) rfl ⟨rfl, ?_, ?_⟩
  · exact (((((H.out.set5 _).set11 _).alloc _).drewN nq).setOther (by show b ≠ w.heap.size; omega) _).setOther (by show b ≠ w.heap.size; omega) _
  · exact ((((((Oth.refl _ _).setCell (by rfl) _).setCell (by rfl) _).alloc _).drewN nq).setNew (by exact Nat.le_refl _) _).setNew (by exact Nat.le_refl _) _
set_option maxHeartbeats 1000000 in
theorem large_spike (b : Nat) (s : LS) (t o mu : Int) (w : World) (h : Lp w b s) (hs : s.st = 2) (ht : 0 ≤ t - s.sp) (ht2 : t - s.sp < s.so) (hso : s.so ≤ 100000) : Calls Tryd.prog 27 #[.pointer (some ⟨b, 0, none⟩), .int .i64 t, .int .i64 o, .int .i64 mu] w (LPost b s (act 0 0) w) := by
  have H := Kp.mk h
  obtain ⟨lt, c0, c1, c2, c3, c4, c5, c6, c7, c8, c9, c10, c11, f5, f6, f7, f8, f9, f10, f11⟩ := h
  rw [hs] at c5
  have e1 : wrap64 (t - s.sp) = t - s.sp := by unfold wrap64; omega
  have t1 : decide (t - s.sp < s.so) = true := by simp; omega
  go_enter Tryd.func27, Tryd.ntmps27
  go_wp2
  go_quiet (fail)
  rename_i nq
  go_wp2
  refine bodyPost_ret (v := act 0 0) (by simp [results, Tryd.results27, go_sem, act]) rfl ⟨rfl, ?_, ?_⟩
  · exact (((H.out.alloc _).drewN nq).setOther (by show b ≠ w.heap.size; omega) _).setOther (by show b ≠ w.heap.size; omega) _
  · exact ((((Oth.refl _ _).alloc _).drewN nq).setNew (by exact Nat.le_refl _) _).setNew (by exact Nat.le_refl _) _
set_option maxHeartbeats 1000000 in
theorem large_due (b : Nat) (s : LS) (t o mu : Int) (w : World) (h : Lp w b s) (hs : s.st = 2) (ht : s.so ≤ t - s.sp) (ht2 : t - s.sp ≤ 4503599627370496) (hso : 1 ≤ s.so) : Calls Tryd.prog 27 #[.pointer (some ⟨b, 0, none⟩), .int .i64 t, .int .i64 o, .int .i64 mu] w (LPost b { s with st := 3, ph := 0 } (act 2 o) w) := by
  have H := Kp.mk h
  obtain ⟨lt, c0, c1, c2, c3, c4, c5, c6, c7, c8, c9, c10, c11, f5, f6, f7, f8, f9, f10, f11⟩ := h
  rw [hs] at c5
  have e1 : wrap64 (t - s.sp) = t - s.sp := by unfold wrap64; omega
  have t1 : decide (t - s.sp < s.so) = false := by simp; omega
  go_enter Tryd.func27, Tryd.ntmps27
  go_wp2
  go_quiet (fail)
  rename_i nq
  go_wp2
  refine bodyPost_ret (v := act 2 o) (by simp [results, Tryd.results27, go_sem, act]) rfl ⟨rfl, ?_, ?_⟩
  · exact (((((H.out.alloc _).drewN nq).set5 _).set7 _).setOther (by show b ≠ w.heap.size; omega) _).setOther (by show b ≠ w.heap.size; omega) _
  · exact ((((((Oth.refl _ _).alloc _).drewN nq).setCell (by rfl) _).setCell (by rfl) _).setNew (by exact Nat.le_refl _) _).setNew (by exact Nat.le_refl _) _
set_option maxHeartbeats 1000000 in
theorem large_freq (b : Nat) (s : LS) (t o mu : Int) (w : World) (h : Lp w b s) (hs : s.st = 1) (hm : 1 ≤ mu) (ho : -1125899906842624 ≤ o) (ho2 : o ≤ 1125899906842624) (q1 : 1 ≤ s.li) (q2 : s.li ≤ 500000) (q3 : -s.li ≤ s.fr) (q4 : s.fr ≤ s.li) : Calls Tryd.prog 27 #[.pointer (some ⟨b, 0, none⟩), .int .i64 t, .int .i64 o, .int .i64 mu] w (LPost b { s with st := 3, ph := 0, fr := clampF (s.fr + o / mu) (-s.li) s.li } (act 2 o) w) := by
  have H := Kp.mk h
  obtain ⟨lt, c0, c1, c2, c3, c4, c5, c6, c7, c8, c9, c10, c11, f5, f6, f7, f8, f9, f10, f11⟩ := h
  rw [hs] at c5
  have hb := tdiv_abs (show 0 < mu by omega) ho ho2
  have fl := fun w => fl_any o mu (by omega) (by omega) (by omega) w
  have ad := fun (w1 : World) (h1 : Lp w1 b s) => add_any b s (o / mu) w1 h1 (by omega) (by omega) q1 q2
  clear hm ho ho2 q1 q2 q3 q4 hb
  go_enter Tryd.func27, Tryd.ntmps27
  go_wp2_with (go_at_call 32; refine (fl _).mono ?_; rintro e w' ⟨rfl, rfl⟩)
  clear c0 c1 c2 c3 c4 c5 c6 c7 c8 c9 c10 c11 f5 f6 f7 f8 f9 f10 f11
  refine (ad _ (H.out.alloc _)).mono ?_
  rintro x w1 ⟨rfl, hl, ho⟩
  have HL := Kp.mk hl
  have HO : Kp (Oth b w w1) := ⟨((Oth.refl _ _).alloc _).trans ho⟩
  have hne : w.heap.size ≠ b := by omega
  have hne' : b ≠ w.heap.size := by omega
  have g0 := ho.cell (p := ⟨w.heap.size, 0, none⟩) (by simp) hne
  have g1 := ho.cell (p := ⟨w.heap.size, 1, none⟩) (by simp) hne
  have g2 := ho.frozen (p := ⟨w.heap.size, 0, none⟩) (by simp) hne
  have g3 := ho.frozen (p := ⟨w.heap.size, 1, none⟩) (by simp) hne
  rw [World.cell?_alloc_at _ _ _ _ rfl] at g0 g1
  rw [World.frozen?_alloc_at _ _ _ _ rfl] at g2 g3
  simp at g0 g1
  obtain ⟨lt1, c0, c1, c2, c3, c4, c5, c6, c7, c8, c9, c10, c11, f5, f6, f7, f8, f9, f10, f11⟩ := hl
  clear ho ad fl lt
  go_wp2
  refine bodyPost_ret (v := act 2 o) (by simp [results, Tryd.results27, go_sem, act, g0, g1, hne, hne']) rfl ⟨rfl, ?_, ?_⟩
  · exact (((HL.out.set5 _).set7 _).setOther hne' _).setOther hne' _
  · exact (((HO.out.setCell (by rfl) _).setCell (by rfl) _).setNew (by exact Nat.le_refl _) _).setNew (by exact Nat.le_refl _) _
end Go.Proofs.YtbfobodaeimklaaDoor
