/-
  The contracts of package pll's Check, New, Tick and add.
-/
import Derived.Test.YtbfobodaeimklaaDoorPllA
import Derived.BigRegion
import Derived.RegionTactic
import Derived.ChangeAlike
set_option linter.unusedSimpArgs false
set_option linter.unusedVariables false
namespace Go.Proofs.YtbfobodaeimklaaDoor
open Go.RowKit
theorem pow_rows {p : Int} (p1 : 3 ≤ p) (p2 : p ≤ 17) : 8 ≤ (2 : Int) ^ p.toNat ∧ (2 : Int) ^ p.toNat ≤ 131072 := by
  obtain ⟨k, hk⟩ : ∃ k, p.toNat = k := ⟨_, rfl⟩
  rw [hk]
  have h1 : 3 ≤ k := by omega
  have h2 : k ≤ 17 := by omega
  clear hk p1 p2
  rcases (show k = 3 ∨ k = 4 ∨ k = 5 ∨ k = 6 ∨ k = 7 ∨ k = 8 ∨ k = 9 ∨ k = 10 ∨ k = 11 ∨ k = 12 ∨ k = 13 ∨ k = 14 ∨ k = 15 ∨ k = 16 ∨ k = 17 by omega) with h | h | h | h | h | h | h | h | h | h | h | h | h | h | h <;> subst h <;> decide
theorem tdiv_bound {n D m : Int} (h1 : -m ≤ n) (h2 : n ≤ m) (hD : 0 < D) : -m ≤ n.tdiv D ∧ n.tdiv D ≤ m := by
  have := tdiv_abs hD h1 h2
  by_cases h : 0 ≤ n ∨ D ∣ n
  · rw [tdiv_same h]; exact this
  · rw [tdiv_up hD h]
    have h3 : n / D < 0 := Int.ediv_neg_of_neg_of_pos (by omega) hD
    omega
set_option maxHeartbeats 1000000 in
theorem tick_any (b : Nat) (s : LS) (w : World) (h : Lp w b s) (p1 : 3 ≤ s.po) (p2 : s.po ≤ 17) (q1 : -1125899906842624 ≤ s.ph) (q2 : s.ph ≤ 1125899906842624) : Calls Tryd.prog 16 #[.pointer (some ⟨b, 0, none⟩)] w (LPost b { s with ph := s.ph - s.ph.tdiv (16 * 2 ^ s.po.toNat) } (.int .i64 (s.ph.tdiv (16 * 2 ^ s.po.toNat))) w) := by
  have H := Kp.mk h
  obtain ⟨lt, c0, c1, c2, c3, c4, c5, c6, c7, c8, c9, c10, c11, f5, f6, f7, f8, f9, f10, f11⟩ := h
  have hp := pow_rows p1 p2
  obtain ⟨D, hD⟩ : ∃ D, 16 * (2 : Int) ^ s.po.toNat = D := ⟨_, rfl⟩
  have hD1 : 0 < D := by omega
  have eD : IntKind.i64.wrap D = D := by rw [IntKind.wrap_i64]; omega
  have tb := tdiv_bound q1 q2 hD1
  rw [hD]
  have e3 : wrap64 (s.ph - s.ph.tdiv D) = s.ph - s.ph.tdiv D := by unfold wrap64; omega
  clear hp
  go_enter Tryd.func16, Tryd.ntmps16
  go_wp2
  go_quiet (fail)
  rename_i nq
  go_wp2
  go_ret
  exact ⟨rfl, (H.out.drewN nq).set7 _, ((Oth.refl _ _).drewN nq).setCell (by rfl) _⟩
theorem add_any (b : Nat) (s : LS) (d : Int) (w : World) (h : Lp w b s) (p1 : -4503599627370496 ≤ s.fr + d) (p2 : s.fr + d ≤ 4503599627370496) (q1 : 1 ≤ s.li) (q2 : s.li ≤ 500000) : Calls Tryd.prog 31 #[.pointer (some ⟨b, 0, none⟩), .int .i64 d] w (LPost b { s with fr := clampF (s.fr + d) (-s.li) s.li } (.tuple #[]) w) := by
  have H := Kp.mk h
  obtain ⟨lt, c0, c1, c2, c3, c4, c5, c6, c7, c8, c9, c10, c11, f5, f6, f7, f8, f9, f10, f11⟩ := h
  have cl := fun w => clamp_any (s.fr + d) (-s.li) s.li w
  have e1 : wrap64 (s.fr + d) = s.fr + d := by unfold wrap64; omega
  have e2 : wrap64 (-s.li) = -s.li := by unfold wrap64; omega
  go_enter Tryd.func31, Tryd.ntmps31
  go_wp2
  refine wp_region_quiet_tail 19 (by kernel_rfl) (by kernel_rfl) ?_
  simp only [List.take_succ_cons, List.take_zero, List.drop_succ_cons, List.drop_zero]
  repeat (go_big_quiet_step ((go_at_call 38; exact qs (cl _))))
  refine wpQuiet_nil ?_
  intro w5 hw'
  obtain ⟨nq, hw''⟩ := hw'
  subst hw''
  go_wp2
  refine bodyPost_end (results_none rfl _ _ _) rfl ⟨rfl, ?_, ?_⟩
  · exact (H.out.drewN nq).set6 _
  · exact ((Oth.refl _ _).drewN nq).setCell (by rfl) _
/-- The error of a configuration. -/
def chkF (mn mx sa so li : Int) : Int := if (((inB mn 3 17 && inB mx 3 17) && inB sa 1 1125899906842624) && inB so 1 100000) && inB li 1 500000 then (if mx < mn then 12 else 0) else 3
set_option maxHeartbeats 1000000 in
theorem check_any (mn mx sa so li : Int) (w : World) : Calls Tryd.prog 10 #[.agg #[.int .i64 mn, .int .i64 mx, .int .i64 sa, .int .i64 so, .int .i64 li]] w (QPost (.int .i64 (chkF mn mx sa so li)) w) := by
  obtain ⟨r, hr⟩ : ∃ r, chkF mn mx sa so li = r := ⟨_, rfl⟩
  rw [hr]
  have HR := Kp.mk hr
  clear hr
  have i1 := fun w => in_any mn 3 17 w
  have i2 := fun w => in_any mx 3 17 w
  have i3 := fun w => in_any sa 1 1125899906842624 w
  have i4 := fun w => in_any so 1 100000 w
  have i5 := fun w => in_any li 1 500000 w
  go_enter Tryd.func10, Tryd.ntmps10
  go_wp2_with (go_at_call 26; first | (with_reducible refine (i1 _).mono ?_; rintro e w' ⟨rfl, rfl⟩) | (with_reducible refine (i2 _).mono ?_; rintro e w' ⟨rfl, rfl⟩) | (with_reducible refine (i3 _).mono ?_; rintro e w' ⟨rfl, rfl⟩) | (with_reducible refine (i4 _).mono ?_; rintro e w' ⟨rfl, rfl⟩) | (with_reducible refine (i5 _).mono ?_; rintro e w' ⟨rfl, rfl⟩))
  all_goals
    have e := HR.out
    go_ret
    refine ⟨?_, (Below.refl _ _).alloc (Nat.le_refl _) _⟩
    rw [← e]
    clear e HR i1 i2 i3 i4 i5
    unfold chkF
    first
    | (rw [if_neg (by intro hh; simp_all; done)]; rfl)
    | (rw [if_pos (by simp_all; done), if_pos (by omega)]; rfl)
    | (rw [if_pos (by simp_all; done), if_neg (by omega)]; rfl)
    | (exfalso; simp_all; done)
end Go.Proofs.YtbfobodaeimklaaDoor
