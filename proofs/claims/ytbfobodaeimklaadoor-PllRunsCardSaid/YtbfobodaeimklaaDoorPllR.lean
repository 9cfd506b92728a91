/-
  The reference's Check of layer 13, and the walk of PllChecks.
-/
import Derived.Test.YtbfobodaeimklaaDoorPllH
import Derived.Deep.RegionHeld3
set_option linter.unusedSimpArgs false
set_option linter.unusedVariables false
namespace Go.Proofs.YtbfobodaeimklaaDoor
open Go.RowKit
theorem box5 {w w1 : World} {mn mx sa so li : Int} {t : TypeId} (hb1 : Below (w.alloc (.cells #[.int .i64 mn, .int .i64 mx, .int .i64 sa, .int .i64 so, .int .i64 li] t)).heap.size (w.alloc (.cells #[.int .i64 mn, .int .i64 mx, .int .i64 sa, .int .i64 so, .int .i64 li] t)) w1) :
    w1.cell? ⟨w.heap.size, 0, none⟩ = some (.int .i64 mn) ∧ w1.cell? ⟨w.heap.size, 1, none⟩ = some (.int .i64 mx) ∧ w1.cell? ⟨w.heap.size, 2, none⟩ = some (.int .i64 sa) ∧ w1.cell? ⟨w.heap.size, 3, none⟩ = some (.int .i64 so) ∧ w1.cell? ⟨w.heap.size, 4, none⟩ = some (.int .i64 li) := by
  have hs : (w.alloc (.cells #[.int .i64 mn, .int .i64 mx, .int .i64 sa, .int .i64 so, .int .i64 li] t)).heap.size = w.heap.size + 1 := World.size_alloc _ _
  refine ⟨?_, ?_, ?_, ?_, ?_⟩ <;> (refine (hb1.cell (by rw [hs]; exact Nat.lt_succ_self _)).trans ?_; rw [World.cell?_alloc_at _ _ _ _ rfl]; rfl)
theorem chk_cases (mn mx sa so li : Int) : ((3 ≤ mn ∧ mn ≤ 17 ∧ 3 ≤ mx ∧ mx ≤ 17 ∧ 1 ≤ sa ∧ sa ≤ 1125899906842624 ∧ 1 ≤ so ∧ so ≤ 100000 ∧ 1 ≤ li ∧ li ≤ 500000) ∧ mx < mn ∧ chkF mn mx sa so li = 12) ∨
    ((3 ≤ mn ∧ mn ≤ 17 ∧ 3 ≤ mx ∧ mx ≤ 17 ∧ 1 ≤ sa ∧ sa ≤ 1125899906842624 ∧ 1 ≤ so ∧ so ≤ 100000 ∧ 1 ≤ li ∧ li ≤ 500000) ∧ mn ≤ mx ∧ chkF mn mx sa so li = 0) ∨
    ((mn < 3 ∨ 17 < mn ∨ mx < 3 ∨ 17 < mx ∨ sa < 1 ∨ 1125899906842624 < sa ∨ so < 1 ∨ 100000 < so ∨ li < 1 ∨ 500000 < li) ∧ chkF mn mx sa so li = 3) := by
  unfold chkF
  split
  · rename_i h
    simp only [Bool.and_eq_true, inB_iff] at h
    split
    · left; exact ⟨by omega, by omega, rfl⟩
    · right; left; exact ⟨by omega, by omega, rfl⟩
  · rename_i h
    simp only [Bool.and_eq_true, inB_iff] at h
    right; right; exact ⟨by omega, rfl⟩
set_option maxHeartbeats 2000000 in
theorem rcheck_any (mn mx sa so li : Int) (w : World) : Calls Tryd.prog 11 #[.agg #[.int .i64 mn, .int .i64 mx, .int .i64 sa, .int .i64 so, .int .i64 li]] w (QPost (.int .i64 (chkF mn mx sa so li)) w) := by
  rcases chk_cases mn mx sa so li with ⟨h1, h2, h3⟩ | ⟨h1, h2, h3⟩ | ⟨h1, h3⟩
  all_goals
    rw [h3]
    have H1 := Kp.mk h1
    clear h1 h3
    go_enter Tryd.func11, Tryd.ntmps11
    go_wp2_with fail
    all_goals
      have h1 := H1.out
      first
        | (exfalso; omega)
        | (refine bodyPost_ret (v := .int .i64 12) (by simp [results, Tryd.results11, go_sem]; done) rfl ⟨rfl, (Below.refl _ _).alloc (Nat.le_refl _) _⟩)
        | (refine bodyPost_ret (v := .int .i64 0) (by simp [results, Tryd.results11, go_sem]; done) rfl ⟨rfl, (Below.refl _ _).alloc (Nat.le_refl _) _⟩)
        | (refine bodyPost_ret (v := .int .i64 3) (by simp [results, Tryd.results11, go_sem]; done) rfl ⟨rfl, (Below.refl _ _).alloc (Nat.le_refl _) _⟩)
set_option maxHeartbeats 4000000 in
theorem checks_any (mn mx sa so li : Int) (w : World) (hc : ConfAt w) : Calls Tryd.prog 3 #[.agg #[.int .i64 mn, .int .i64 mx, .int .i64 sa, .int .i64 so, .int .i64 li]] w fun x w' => x = .returned (.bool true) ∧ Below w.heap.size w w' := by
  have hpos := hc.pos
  have HC := Kp.mk hc
  have ck := fun w => check_any mn mx sa so li w
  have rk := fun w => rcheck_any mn mx sa so li w
  clear hc
  by_cases hok : chkF mn mx sa so li = 0
  · have p1 := fun w => new_good mn mx sa so li hok w
    rw [hok] at ck rk
    go_enter Tryd.func3, Tryd.ntmps3
    go_wp2_with fail
    have HX : Below w.heap.size w (w.alloc (.cells #[.int .i64 mn, .int .i64 mx, .int .i64 sa, .int .i64 so, .int .i64 li] 23)) := (Below.refl _ _).alloc (Nat.le_refl _) _
    refine (ck _).mono ?_
    rintro e w1 ⟨rfl, hb1⟩
    obtain ⟨c0, c1, c2, c3, c4⟩ := box5 hb1
    have hs1 : w.heap.size < w1.heap.size := by have := hb1.size; simp at this; omega
    have HB1 := Kp.mk (Below.then HX HX.size hb1)
    clear HX hb1
    go_wp2_with fail
    refine (rk _).mono ?_
    rintro e w2 ⟨rfl, hb2⟩
    have d0 := (hb2.cell (p := ⟨w.heap.size, 0, none⟩) hs1).trans c0
    have d1 := (hb2.cell (p := ⟨w.heap.size, 1, none⟩) hs1).trans c1
    have d2 := (hb2.cell (p := ⟨w.heap.size, 2, none⟩) hs1).trans c2
    have d3 := (hb2.cell (p := ⟨w.heap.size, 3, none⟩) hs1).trans c3
    have d4 := (hb2.cell (p := ⟨w.heap.size, 4, none⟩) hs1).trans c4
    have HB2 := Kp.mk (Below.then HB1.out HB1.out.size hb2)
    clear hb2 c0 c1 c2 c3 c4
    go_wp2_with fail
    refine (p1 _).mono ?_
    rintro e w3 ⟨b, rfl, hb, hl, hb3⟩
    have HB3 := Kp.mk (Below.then HB2.out HB2.out.size hb3)
    clear hb hl hb3
    clear d0 d1 d2 d3 d4 ck rk p1
    go_wp2_with fail
    refine (awake_any _ (HC.out.below HB3.out hpos)).mono ?_
    rintro e wE ⟨rfl, hb⟩
    have HE2 := Kp.mk (Below.then HB3.out HB3.out.size hb)
    clear hb
    go_wp2_with fail
    go_ret
    exact ⟨by simp, HE2.out⟩
  · have p1 := fun w => new_bad mn mx sa so li hok w
    generalize chkF mn mx sa so li = E at *
    have t1 : (E == 0) = false := by simpa using hok
    go_enter Tryd.func3, Tryd.ntmps3
    go_wp2_with fail
    have HX : Below w.heap.size w (w.alloc (.cells #[.int .i64 mn, .int .i64 mx, .int .i64 sa, .int .i64 so, .int .i64 li] 23)) := (Below.refl _ _).alloc (Nat.le_refl _) _
    refine (ck _).mono ?_
    rintro e w1 ⟨rfl, hb1⟩
    obtain ⟨c0, c1, c2, c3, c4⟩ := box5 hb1
    have hs1 : w.heap.size < w1.heap.size := by have := hb1.size; simp at this; omega
    have HB1 := Kp.mk (Below.then HX HX.size hb1)
    clear HX hb1
    go_wp2_with fail
    refine (rk _).mono ?_
    rintro e w2 ⟨rfl, hb2⟩
    have d0 := (hb2.cell (p := ⟨w.heap.size, 0, none⟩) hs1).trans c0
    have d1 := (hb2.cell (p := ⟨w.heap.size, 1, none⟩) hs1).trans c1
    have d2 := (hb2.cell (p := ⟨w.heap.size, 2, none⟩) hs1).trans c2
    have d3 := (hb2.cell (p := ⟨w.heap.size, 3, none⟩) hs1).trans c3
    have d4 := (hb2.cell (p := ⟨w.heap.size, 4, none⟩) hs1).trans c4
    have HB2 := Kp.mk (Below.then HB1.out HB1.out.size hb2)
    clear hb2 c0 c1 c2 c3 c4
    go_wp2_with fail
    refine (p1 _).mono ?_
    rintro e w3 ⟨rfl, hb3⟩
    have HB3 := Kp.mk (Below.then HB2.out HB2.out.size hb3)
    clear hb3
    clear d0 d1 d2 d3 d4 ck rk p1
    go_wp2_with fail
    refine (awake_any _ (HC.out.below HB3.out hpos)).mono ?_
    rintro e wE ⟨rfl, hb⟩
    have HE2 := Kp.mk (Below.then HB3.out HB3.out.size hb)
    clear hb
    go_wp2_with fail
    go_ret
    exact ⟨by simp, HE2.out⟩
theorem checks_walk (mn mx sa so li : Int) (w : World) (_ : I64 mn) (_ : I64 mx) (_ : I64 sa) (_ : I64 so) (_ : I64 li) (hc : ConfAt w) : Calls Tryd.prog 3 #[.agg #[.int .i64 mn, .int .i64 mx, .int .i64 sa, .int .i64 so, .int .i64 li]] w fun x w' => x = .returned (.bool true) ∧ Below w.heap.size w w' := checks_any mn mx sa so li w hc
end Go.Proofs.YtbfobodaeimklaaDoor
