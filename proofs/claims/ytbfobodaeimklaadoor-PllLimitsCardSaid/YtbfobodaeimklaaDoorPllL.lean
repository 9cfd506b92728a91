/-
  The walk of PllLimits: whatever the configuration and the updates, it returns true, and what was there is as it was.
-/
import Derived.Test.YtbfobodaeimklaaDoorPllH
import Derived.Deep.RegionHeld3
import Derived.Deep.LoopGhost
set_option linter.unusedSimpArgs false
set_option linter.unusedVariables false
namespace Go.Proofs.YtbfobodaeimklaaDoor
open Go.RowKit
theorem box5 {w w1 : World} {mn mx sa so li : Int} {t : TypeId} (hb1 : Below (w.alloc (.cells #[.int .i64 mn, .int .i64 mx, .int .i64 sa, .int .i64 so, .int .i64 li] t)).heap.size (w.alloc (.cells #[.int .i64 mn, .int .i64 mx, .int .i64 sa, .int .i64 so, .int .i64 li] t)) w1) :
    w1.cell? ⟨w.heap.size, 0, none⟩ = some (.int .i64 mn) ∧ w1.cell? ⟨w.heap.size, 1, none⟩ = some (.int .i64 mx) ∧ w1.cell? ⟨w.heap.size, 2, none⟩ = some (.int .i64 sa) ∧ w1.cell? ⟨w.heap.size, 3, none⟩ = some (.int .i64 so) ∧ w1.cell? ⟨w.heap.size, 4, none⟩ = some (.int .i64 li) := by
  have hs : (w.alloc (.cells #[.int .i64 mn, .int .i64 mx, .int .i64 sa, .int .i64 so, .int .i64 li] t)).heap.size = w.heap.size + 1 := World.size_alloc _ _
  refine ⟨?_, ?_, ?_, ?_, ?_⟩ <;> (refine (hb1.cell (by rw [hs]; exact Nat.lt_succ_self _)).trans ?_; rw [World.cell?_alloc_at _ _ _ _ rfl]; rfl)
theorem upd_conf (s : LS) (t o p : Int) (ok : s.Ok) : (updF s t o p).1.sa = s.sa ∧ (updF s t o p).1.so = s.so ∧ (updF s t o p).1.li = s.li := by
  have h := upd_is s t o p ok
  generalize updF s t o p = r at *
  cases h <;> exact ⟨rfl, rfl, rfl⟩
theorem upd_lim (s : LS) (t o p : Int) (ok : s.Ok) : ((updF s t o p).2.2 ≠ 0 ∧ (updF s t o p).2.1.1 = 0 ∧ (updF s t o p).2.1.2 = 0) ∨ ((updF s t o p).2.2 = 0 ∧ (updF s t o p).2.1.1 = 0 ∧ (updF s t o p).2.1.2 = 0) ∨
    ((updF s t o p).2.2 = 0 ∧ (updF s t o p).2.1.1 = 1 ∧ max o (-o) < s.sa ∧ (updF s t o p).2.1.2 = (updF s t o p).1.fr ∧ (updF s t o p).1.ph = o) ∨
    ((updF s t o p).2.2 = 0 ∧ (updF s t o p).2.1.1 = 2 ∧ s.sa ≤ max o (-o) ∧ (updF s t o p).2.1.2 = o ∧ (updF s t o p).1.ph = 0) := by
  have h := upd_is s t o p ok
  generalize updF s t o p = r at *
  cases h with
  | err e he => exact .inl ⟨by rcases he with h | ⟨h, _⟩ <;> simp [h], rfl, rfl⟩
  | skip | l3 | l2 => exact .inr (.inl ⟨rfl, rfl, rfl⟩)
  | l0 h | l1 _ h | due h => exact .inr (.inr (.inr ⟨rfl, rfl, h, rfl, rfl⟩))
  | s0 h | s1 _ h | s3 _ h => exact .inr (.inr (.inl ⟨rfl, rfl, h, rfl, rfl⟩))
set_option maxRecDepth 4000 in
set_option maxHeartbeats 8000000 in
theorem limits_any (mn mx sa so li : Int) (a : Option Addr) (len cap : Nat) (T A O P : Nat → Int) (w : World) (hS : StepRow w a len T A O P) (hc : ConfAt w) : Calls Tryd.prog 5 #[.agg #[.int .i64 mn, .int .i64 mx, .int .i64 sa, .int .i64 so, .int .i64 li], .slice a len cap] w fun x w' => x = .returned (.bool true) ∧ Below w.heap.size w w' := by
  by_cases hok : chkF mn mx sa so li = 0
  · have p1 := fun w => new_good mn mx sa so li hok w
    have HC := Kp.mk hc
    have HS := Kp.mk hS
    clear hc hS
    go_enter Tryd.func5, Tryd.ntmps5
    go_wp2_with fail
    refine (p1 _).mono ?_
    rintro e w1 ⟨b, rfl, hb, hl, hb1⟩
    have hE := Env.start hb1 hb hl
    clear hb hb1 p1
    by_cases h60 : len ≤ 60
    · have t0 : decide ((len : Int) ≤ 60) = true := by simp; omega
      have fw := few_any a len cap w1
      rw [t0] at fw
      have HE := Kp.mk hE
      have HL := Kp.mk hl
      obtain ⟨_, _, _, c0, c1, c2, c3, c4⟩ := hE
      go_wp2_with fail
      refine fw.mono ?_
      rintro e w' ⟨rfl, rfl⟩
      clear fw
      go_wp2_with fail
      clear c0 c1 c2 c3 c4 hl
      go_loopw [6] (fun i wr => ∃ (k : Nat) (s : LS), k ≤ len ∧ i = .int .i64 k ∧ s.Ok ∧ Lp wr b s ∧ Env w wr b mn mx sa so li ∧ s.sa = sa ∧ s.li = li) (fun i _ => len - (intOf i).toNat)
      case atStart => exact ⟨0, _, Nat.zero_le _, rfl, new_ok hok, HL.out, HE.out, rfl, rfl⟩
      case round =>
        obtain ⟨k, s, hk, rfl, ok, hl, hE, hsa, hli⟩ := hrel
        have HEr := Kp.mk hE
        clear hE
        by_cases hlt : k < len
        · have t1 : decide ((k : Int) < (len : Int)) = true := by simp; omega
          have kz : (0 : Int) ≤ (k : Int) := by omega
          have kl : (k : Int) < (len : Int) := by omega
          obtain ⟨rb, off, rfl, hrb, l0, l1, l2, l3⟩ := HS.out.at HEr.out.below hlt
          have hne : rb ≠ b := by have := HEr.out.hb; omega
          have hrw : rb < wr.heap.size := Nat.lt_of_lt_of_le hrb HEr.out.below.size
          have hp := fun W hW => upd_any b s (A k) (O k) (P k) W hW ok
          have hU := upd_lim s (A k) (O k) (P k) ok
          have hcf := upd_conf s (A k) (O k) (P k) ok
          have ok2 := upd_ok s (A k) (O k) (P k) ok
          rw [hsa] at hU hcf
          rw [hli] at hcf
          generalize updF s (A k) (O k) (P k) = r at *
          obtain ⟨s2, ⟨K, V⟩, E⟩ := r
          unfold upv act at hp
          simp only at hp hU ok2 hcf
          generalize A k = A at *
          generalize O k = O at *
          generalize P k = Q at *
          go_wp2_with fail
          go_region_held3 (fun w' => rb < w'.heap.size ∧ w'.cell? ⟨rb, off + k * 4 + 1, none⟩ = some (.int .i64 A) ∧ w'.cell? ⟨rb, off + k * 4 + 2, none⟩ = some (.int .i64 O) ∧ w'.cell? ⟨rb, off + k * 4 + 3, none⟩ = some (.int .i64 Q)) (first | exact RowS.oth (by assumption) ho4 hne | exact RowS.alloc _ (by assumption) | exact RowS.again _ _ (Nat.lt_of_lt_of_le hrw ho4.size) (by assumption) | exact RowS.oth (k := wr.heap.size) (by assumption) (((Oth.refl _ _).setCell (by rfl) _).setCell (by rfl) _) (by omega) | go_keep)
            (first
              | (go_at_call 18; refine (hp _ (hl.drew.alloc _)).mono ?_; rintro e w4 ⟨rfl, hl4, ho4⟩; have g0 : w4.cell? ⟨wr.heap.size, 0, none⟩ = _ := (one_new (W := wr.drew) ho4 hl.lt).1; have g1 : w4.cell? ⟨wr.heap.size, 1, none⟩ = _ := (one_new (W := wr.drew) ho4 hl.lt).2.1; have g2 : w4.frozen? ⟨wr.heap.size, 0, none⟩ = false := (one_new (W := wr.drew) ho4 hl.lt).2.2.1; have g3 : w4.frozen? ⟨wr.heap.size, 1, none⟩ = false := (one_new (W := wr.drew) ho4 hl.lt).2.2.2)
              | (go_at_call 18; refine (hp _ hl.drew).mono ?_; rintro e w4 ⟨rfl, hl4, ho4⟩))
          · obtain ⟨wX, hXd⟩ : ∃ W, W = w4.alloc (.cells #[.int .i64 K, .int .i64 V] 38) := ⟨_, rfl⟩
            have x1 : Lp wX b s2 := by rw [hXd]; exact hl4.alloc _
            have x2 : Oth b wr wX := by rw [hXd]; exact (((Oth.refl _ _).drew).trans ho4).alloc _
            have x3 : wX.cell? ⟨w4.heap.size, 0, none⟩ = some (.int .i64 K) := by rw [hXd, World.cell?_alloc_at _ _ _ _ rfl]; rfl
            have x4 : wX.cell? ⟨w4.heap.size, 1, none⟩ = some (.int .i64 V) := by rw [hXd, World.cell?_alloc_at _ _ _ _ rfl]; rfl
            rw [← hXd]
            have hm : b < w4.heap.size := hl4.lt
            clear hXd ho4
            generalize w4.heap.size = m at *
            have hEX := HEr.out.oth x2
            have HX := Kp.mk (And.intro x1 (And.intro hEX (And.intro ok2 hcf)))
            have c2 := hEX.c2
            have c4 := hEX.c4
            have cO := (x2.cell (p := ⟨rb, off + k * 4 + 2, none⟩) hrw hne).trans l2
            have hrX := Nat.lt_of_lt_of_le hrw x2.size
            have fq := freq_any b s2 wX x1
            have pv := phase_any b s2 wX x1
            have q1 := ok2.fr1
            have q2 := ok2.fr2
            have q3 := ok2.ph1
            have q4 := ok2.ph2
            have q5 := ok2.li2
            have q6 := ok2.sa2
            have q7 := ok2.li1
            have q8 := ok2.sa1
            rw [hcf.2.2] at q1 q2 q5 q7
            rw [hcf.1] at q3 q4 q6 q8
            have e1 : wrap64 (-li) = -li := by unfold wrap64; omega
            have e2 : wrap64 (-sa) = -sa := by unfold wrap64; omega
            have f1 : decide (s2.fr < -li) = false := by simp; omega
            have f2 : decide (li < s2.fr) = false := by simp; omega
            have f3 : decide (s2.ph ≤ -sa) = false := by simp; omega
            have f4 : decide (sa ≤ s2.ph) = false := by simp; omega
            clear l0 l1 l2 l3 hl hp hl4 x2 x1 ok2 hEX q1 q2 q3 q4 q5 q7 hcf
            generalize s2.fr = F at *
            generalize s2.ph = G at *
            rcases hU with ⟨u1, u2, u3⟩ | ⟨u1, u2, u3⟩ | ⟨u1, u2, u3, u4, u5⟩ | ⟨u1, u2, u3, u4, u5⟩
            · as_aux_lemma =>
                subst u2 u3
                have g1 : (E != 0) = true := by simpa using u1
                go_wp2_with (first | (go_at_call 22; refine fq.mono ?_; rintro e w' ⟨rfl, rfl⟩) | (go_at_call 24; refine pv.mono ?_; rintro e w' ⟨rfl, rfl⟩) | fail)
                go_roundw
                case rel => exact ⟨k + 1, s2, by omega, by go_num, HX.out.2.2.1, HX.out.1, HX.out.2.1, HX.out.2.2.2.1, HX.out.2.2.2.2.2⟩
                case measure => simp [intOf]; omega
            · subst u1 u2 u3
              rcases (show sa ≤ O ∨ (¬ sa ≤ O ∧ O ≤ -sa) ∨ (¬ sa ≤ O ∧ ¬ O ≤ -sa) by omega) with hd | hd | hd
              · as_aux_lemma =>
                  have d1 : decide (sa ≤ O) = true := by simpa using hd
                  go_wp2_with (first | (go_at_call 22; refine fq.mono ?_; rintro e w' ⟨rfl, rfl⟩) | (go_at_call 24; refine pv.mono ?_; rintro e w' ⟨rfl, rfl⟩) | fail)
                  go_quiet (fail)
                  have HX := Kp.mk (And.intro (HX.out.1.drewN nq) (And.intro (HX.out.2.1.oth ((Oth.refl _ _).drewN nq)) HX.out.2.2))
                  have x3 : (wX.drewN nq).cell? ⟨m, 0, none⟩ = _ := x3
                  have x4 : (wX.drewN nq).cell? ⟨m, 1, none⟩ = _ := x4
                  have cO : (wX.drewN nq).cell? ⟨rb, off + k * 4 + 2, none⟩ = _ := cO
                  have hrX : rb < (wX.drewN nq).heap.size := hrX
                  clear c2 c4
                  generalize wX.drewN nq = wY at *
                  go_wp2_with fail
                  go_roundw
                  case rel => exact ⟨k + 1, s2, by omega, by go_num, HX.out.2.2.1, HX.out.1, HX.out.2.1, HX.out.2.2.2.1, HX.out.2.2.2.2.2⟩
                  case measure => simp [intOf]; omega
              · as_aux_lemma =>
                  have d1 : decide (sa ≤ O) = false := by simpa using hd.1
                  have d2 : decide (O ≤ -sa) = true := by simpa using hd.2
                  go_wp2_with (first | (go_at_call 22; refine fq.mono ?_; rintro e w' ⟨rfl, rfl⟩) | (go_at_call 24; refine pv.mono ?_; rintro e w' ⟨rfl, rfl⟩) | fail)
                  go_quiet (fail)
                  have HX := Kp.mk (And.intro (HX.out.1.drewN nq) (And.intro (HX.out.2.1.oth ((Oth.refl _ _).drewN nq)) HX.out.2.2))
                  have x3 : (wX.drewN nq).cell? ⟨m, 0, none⟩ = _ := x3
                  have x4 : (wX.drewN nq).cell? ⟨m, 1, none⟩ = _ := x4
                  have cO : (wX.drewN nq).cell? ⟨rb, off + k * 4 + 2, none⟩ = _ := cO
                  have hrX : rb < (wX.drewN nq).heap.size := hrX
                  clear c2 c4
                  generalize wX.drewN nq = wY at *
                  go_wp2_with fail
                  go_roundw
                  case rel => exact ⟨k + 1, s2, by omega, by go_num, HX.out.2.2.1, HX.out.1, HX.out.2.1, HX.out.2.2.2.1, HX.out.2.2.2.2.2⟩
                  case measure => simp [intOf]; omega
              · as_aux_lemma =>
                  have d1 : decide (sa ≤ O) = false := by simpa using hd.1
                  have d2 : decide (O ≤ -sa) = false := by simpa using hd.2
                  go_wp2_with (first | (go_at_call 22; refine fq.mono ?_; rintro e w' ⟨rfl, rfl⟩) | (go_at_call 24; refine pv.mono ?_; rintro e w' ⟨rfl, rfl⟩) | fail)
                  go_quiet (fail)
                  have HX := Kp.mk (And.intro (HX.out.1.drewN nq) (And.intro (HX.out.2.1.oth ((Oth.refl _ _).drewN nq)) HX.out.2.2))
                  have x3 : (wX.drewN nq).cell? ⟨m, 0, none⟩ = _ := x3
                  have x4 : (wX.drewN nq).cell? ⟨m, 1, none⟩ = _ := x4
                  have cO : (wX.drewN nq).cell? ⟨rb, off + k * 4 + 2, none⟩ = _ := cO
                  have hrX : rb < (wX.drewN nq).heap.size := hrX
                  clear c2 c4
                  generalize wX.drewN nq = wY at *
                  go_wp2_with fail
                  go_roundw
                  case rel => exact ⟨k + 1, s2, by omega, by go_num, HX.out.2.2.1, HX.out.1, HX.out.2.1, HX.out.2.2.2.1, HX.out.2.2.2.2.2⟩
                  case measure => simp [intOf]; omega
            · as_aux_lemma =>
                subst u1 u2 u4 u5
                have d1 : decide (sa ≤ G) = false := by simp; omega
                have d2 : decide (G ≤ -sa) = false := by simp; omega
                go_wp2_with (first | (go_at_call 22; refine fq.mono ?_; rintro e w' ⟨rfl, rfl⟩) | (go_at_call 24; refine pv.mono ?_; rintro e w' ⟨rfl, rfl⟩) | fail)
                go_quiet (fail)
                have HX := Kp.mk (And.intro (HX.out.1.drewN nq) (And.intro (HX.out.2.1.oth ((Oth.refl _ _).drewN nq)) HX.out.2.2))
                have x3 : (wX.drewN nq).cell? ⟨m, 0, none⟩ = _ := x3
                have x4 : (wX.drewN nq).cell? ⟨m, 1, none⟩ = _ := x4
                have cO : (wX.drewN nq).cell? ⟨rb, off + k * 4 + 2, none⟩ = _ := cO
                have hrX : rb < (wX.drewN nq).heap.size := hrX
                clear c2 c4
                generalize wX.drewN nq = wY at *
                go_wp2_with fail
                go_roundw
                case rel => exact ⟨k + 1, s2, by omega, by go_num, HX.out.2.2.1, HX.out.1, HX.out.2.1, HX.out.2.2.2.1, HX.out.2.2.2.2.2⟩
                case measure => simp [intOf]; omega
            · subst u1 u2 u4 u5
              rcases (show sa ≤ V ∨ (¬ sa ≤ V ∧ V ≤ -sa) by omega) with hd | hd
              · as_aux_lemma =>
                  have d1 : decide (sa ≤ V) = true := by simpa using hd
                  go_wp2_with (first | (go_at_call 22; refine fq.mono ?_; rintro e w' ⟨rfl, rfl⟩) | (go_at_call 24; refine pv.mono ?_; rintro e w' ⟨rfl, rfl⟩) | fail)
                  go_quiet (fail)
                  have HX := Kp.mk (And.intro (HX.out.1.drewN nq) (And.intro (HX.out.2.1.oth ((Oth.refl _ _).drewN nq)) HX.out.2.2))
                  have x3 : (wX.drewN nq).cell? ⟨m, 0, none⟩ = _ := x3
                  have x4 : (wX.drewN nq).cell? ⟨m, 1, none⟩ = _ := x4
                  have cO : (wX.drewN nq).cell? ⟨rb, off + k * 4 + 2, none⟩ = _ := cO
                  have hrX : rb < (wX.drewN nq).heap.size := hrX
                  clear c2 c4
                  generalize wX.drewN nq = wY at *
                  go_wp2_with fail
                  go_quiet (fail)
                  have HX := Kp.mk (And.intro (HX.out.1.drewN nq) (And.intro (HX.out.2.1.oth ((Oth.refl _ _).drewN nq)) HX.out.2.2))
                  generalize wY.drewN nq = wZ at *
                  go_wp2_with fail
                  go_roundw
                  case rel => exact ⟨k + 1, s2, by omega, by go_num, HX.out.2.2.1, HX.out.1, HX.out.2.1, HX.out.2.2.2.1, HX.out.2.2.2.2.2⟩
                  case measure => simp [intOf]; omega
              · as_aux_lemma =>
                  have d1 : decide (sa ≤ V) = false := by simpa using hd.1
                  have d2 : decide (V ≤ -sa) = true := by simpa using hd.2
                  go_wp2_with (first | (go_at_call 22; refine fq.mono ?_; rintro e w' ⟨rfl, rfl⟩) | (go_at_call 24; refine pv.mono ?_; rintro e w' ⟨rfl, rfl⟩) | fail)
                  go_quiet (fail)
                  have HX := Kp.mk (And.intro (HX.out.1.drewN nq) (And.intro (HX.out.2.1.oth ((Oth.refl _ _).drewN nq)) HX.out.2.2))
                  have x3 : (wX.drewN nq).cell? ⟨m, 0, none⟩ = _ := x3
                  have x4 : (wX.drewN nq).cell? ⟨m, 1, none⟩ = _ := x4
                  have cO : (wX.drewN nq).cell? ⟨rb, off + k * 4 + 2, none⟩ = _ := cO
                  have hrX : rb < (wX.drewN nq).heap.size := hrX
                  clear c2 c4
                  generalize wX.drewN nq = wY at *
                  go_wp2_with fail
                  go_quiet (fail)
                  have HX := Kp.mk (And.intro (HX.out.1.drewN nq) (And.intro (HX.out.2.1.oth ((Oth.refl _ _).drewN nq)) HX.out.2.2))
                  generalize wY.drewN nq = wZ at *
                  go_wp2_with fail
                  go_roundw
                  case rel => exact ⟨k + 1, s2, by omega, by go_num, HX.out.2.2.1, HX.out.1, HX.out.2.1, HX.out.2.2.2.1, HX.out.2.2.2.2.2⟩
                  case measure => simp [intOf]; omega
          · obtain ⟨wX, hXd⟩ : ∃ W, W = (w4.setCell ⟨wr.heap.size, 0, none⟩ (.int .i64 K)).setCell ⟨wr.heap.size, 1, none⟩ (.int .i64 V) := ⟨_, rfl⟩
            have hm : b < wr.heap.size := hl.lt
            have hbm : b ≠ wr.heap.size := by omega
            have x1 : Lp wX b s2 := by rw [hXd]; exact (hl4.setOther hbm _).setOther hbm _
            have x2 : Oth b wr wX := by rw [hXd]; exact (((((Oth.refl _ _).drew).alloc _).trans ho4).setNew (by exact Nat.le_refl _) _).setNew (by exact Nat.le_refl _) _
            have x3 : wX.cell? ⟨wr.heap.size, 0, none⟩ = some (.int .i64 K) := by rw [hXd]; simp [go_sem, g0, g1]
            have x4 : wX.cell? ⟨wr.heap.size, 1, none⟩ = some (.int .i64 V) := by rw [hXd]; simp [go_sem, g0, g1]
            rw [← hXd]
            clear hXd ho4 g0 g1 g2 g3 hbm
            generalize wr.heap.size = m at x3 x4 hm ⊢
            have hEX := HEr.out.oth x2
            have HX := Kp.mk (And.intro x1 (And.intro hEX (And.intro ok2 hcf)))
            have c2 := hEX.c2
            have c4 := hEX.c4
            have cO := (x2.cell (p := ⟨rb, off + k * 4 + 2, none⟩) hrw hne).trans l2
            have hrX := Nat.lt_of_lt_of_le hrw x2.size
            have fq := freq_any b s2 wX x1
            have pv := phase_any b s2 wX x1
            have q1 := ok2.fr1
            have q2 := ok2.fr2
            have q3 := ok2.ph1
            have q4 := ok2.ph2
            have q5 := ok2.li2
            have q6 := ok2.sa2
            have q7 := ok2.li1
            have q8 := ok2.sa1
            rw [hcf.2.2] at q1 q2 q5 q7
            rw [hcf.1] at q3 q4 q6 q8
            have e1 : wrap64 (-li) = -li := by unfold wrap64; omega
            have e2 : wrap64 (-sa) = -sa := by unfold wrap64; omega
            have f1 : decide (s2.fr < -li) = false := by simp; omega
            have f2 : decide (li < s2.fr) = false := by simp; omega
            have f3 : decide (s2.ph ≤ -sa) = false := by simp; omega
            have f4 : decide (sa ≤ s2.ph) = false := by simp; omega
            clear l0 l1 l2 l3 hl hp hl4 x2 x1 ok2 hEX q1 q2 q3 q4 q5 q7 hcf
            generalize s2.fr = F at *
            generalize s2.ph = G at *
            rcases hU with ⟨u1, u2, u3⟩ | ⟨u1, u2, u3⟩ | ⟨u1, u2, u3, u4, u5⟩ | ⟨u1, u2, u3, u4, u5⟩
            · as_aux_lemma =>
                subst u2 u3
                have g1 : (E != 0) = true := by simpa using u1
                go_wp2_with (first | (go_at_call 22; refine fq.mono ?_; rintro e w' ⟨rfl, rfl⟩) | (go_at_call 24; refine pv.mono ?_; rintro e w' ⟨rfl, rfl⟩) | fail)
                go_roundw
                case rel => exact ⟨k + 1, s2, by omega, by go_num, HX.out.2.2.1, HX.out.1, HX.out.2.1, HX.out.2.2.2.1, HX.out.2.2.2.2.2⟩
                case measure => simp [intOf]; omega
            · subst u1 u2 u3
              rcases (show sa ≤ O ∨ (¬ sa ≤ O ∧ O ≤ -sa) ∨ (¬ sa ≤ O ∧ ¬ O ≤ -sa) by omega) with hd | hd | hd
              · as_aux_lemma =>
                  have d1 : decide (sa ≤ O) = true := by simpa using hd
                  go_wp2_with (first | (go_at_call 22; refine fq.mono ?_; rintro e w' ⟨rfl, rfl⟩) | (go_at_call 24; refine pv.mono ?_; rintro e w' ⟨rfl, rfl⟩) | fail)
                  go_quiet (fail)
                  have HX := Kp.mk (And.intro (HX.out.1.drewN nq) (And.intro (HX.out.2.1.oth ((Oth.refl _ _).drewN nq)) HX.out.2.2))
                  have x3 : (wX.drewN nq).cell? ⟨m, 0, none⟩ = _ := x3
                  have x4 : (wX.drewN nq).cell? ⟨m, 1, none⟩ = _ := x4
                  have cO : (wX.drewN nq).cell? ⟨rb, off + k * 4 + 2, none⟩ = _ := cO
                  have hrX : rb < (wX.drewN nq).heap.size := hrX
                  clear c2 c4
                  generalize wX.drewN nq = wY at *
                  go_wp2_with fail
                  go_roundw
                  case rel => exact ⟨k + 1, s2, by omega, by go_num, HX.out.2.2.1, HX.out.1, HX.out.2.1, HX.out.2.2.2.1, HX.out.2.2.2.2.2⟩
                  case measure => simp [intOf]; omega
              · as_aux_lemma =>
                  have d1 : decide (sa ≤ O) = false := by simpa using hd.1
                  have d2 : decide (O ≤ -sa) = true := by simpa using hd.2
                  go_wp2_with (first | (go_at_call 22; refine fq.mono ?_; rintro e w' ⟨rfl, rfl⟩) | (go_at_call 24; refine pv.mono ?_; rintro e w' ⟨rfl, rfl⟩) | fail)
                  go_quiet (fail)
                  have HX := Kp.mk (And.intro (HX.out.1.drewN nq) (And.intro (HX.out.2.1.oth ((Oth.refl _ _).drewN nq)) HX.out.2.2))
                  have x3 : (wX.drewN nq).cell? ⟨m, 0, none⟩ = _ := x3
                  have x4 : (wX.drewN nq).cell? ⟨m, 1, none⟩ = _ := x4
                  have cO : (wX.drewN nq).cell? ⟨rb, off + k * 4 + 2, none⟩ = _ := cO
                  have hrX : rb < (wX.drewN nq).heap.size := hrX
                  clear c2 c4
                  generalize wX.drewN nq = wY at *
                  go_wp2_with fail
                  go_roundw
                  case rel => exact ⟨k + 1, s2, by omega, by go_num, HX.out.2.2.1, HX.out.1, HX.out.2.1, HX.out.2.2.2.1, HX.out.2.2.2.2.2⟩
                  case measure => simp [intOf]; omega
              · as_aux_lemma =>
                  have d1 : decide (sa ≤ O) = false := by simpa using hd.1
                  have d2 : decide (O ≤ -sa) = false := by simpa using hd.2
                  go_wp2_with (first | (go_at_call 22; refine fq.mono ?_; rintro e w' ⟨rfl, rfl⟩) | (go_at_call 24; refine pv.mono ?_; rintro e w' ⟨rfl, rfl⟩) | fail)
                  go_quiet (fail)
                  have HX := Kp.mk (And.intro (HX.out.1.drewN nq) (And.intro (HX.out.2.1.oth ((Oth.refl _ _).drewN nq)) HX.out.2.2))
                  have x3 : (wX.drewN nq).cell? ⟨m, 0, none⟩ = _ := x3
                  have x4 : (wX.drewN nq).cell? ⟨m, 1, none⟩ = _ := x4
                  have cO : (wX.drewN nq).cell? ⟨rb, off + k * 4 + 2, none⟩ = _ := cO
                  have hrX : rb < (wX.drewN nq).heap.size := hrX
                  clear c2 c4
                  generalize wX.drewN nq = wY at *
                  go_wp2_with fail
                  go_roundw
                  case rel => exact ⟨k + 1, s2, by omega, by go_num, HX.out.2.2.1, HX.out.1, HX.out.2.1, HX.out.2.2.2.1, HX.out.2.2.2.2.2⟩
                  case measure => simp [intOf]; omega
            · as_aux_lemma =>
                subst u1 u2 u4 u5
                have d1 : decide (sa ≤ G) = false := by simp; omega
                have d2 : decide (G ≤ -sa) = false := by simp; omega
                go_wp2_with (first | (go_at_call 22; refine fq.mono ?_; rintro e w' ⟨rfl, rfl⟩) | (go_at_call 24; refine pv.mono ?_; rintro e w' ⟨rfl, rfl⟩) | fail)
                go_quiet (fail)
                have HX := Kp.mk (And.intro (HX.out.1.drewN nq) (And.intro (HX.out.2.1.oth ((Oth.refl _ _).drewN nq)) HX.out.2.2))
                have x3 : (wX.drewN nq).cell? ⟨m, 0, none⟩ = _ := x3
                have x4 : (wX.drewN nq).cell? ⟨m, 1, none⟩ = _ := x4
                have cO : (wX.drewN nq).cell? ⟨rb, off + k * 4 + 2, none⟩ = _ := cO
                have hrX : rb < (wX.drewN nq).heap.size := hrX
                clear c2 c4
                generalize wX.drewN nq = wY at *
                go_wp2_with fail
                go_roundw
                case rel => exact ⟨k + 1, s2, by omega, by go_num, HX.out.2.2.1, HX.out.1, HX.out.2.1, HX.out.2.2.2.1, HX.out.2.2.2.2.2⟩
                case measure => simp [intOf]; omega
            · subst u1 u2 u4 u5
              rcases (show sa ≤ V ∨ (¬ sa ≤ V ∧ V ≤ -sa) by omega) with hd | hd
              · as_aux_lemma =>
                  have d1 : decide (sa ≤ V) = true := by simpa using hd
                  go_wp2_with (first | (go_at_call 22; refine fq.mono ?_; rintro e w' ⟨rfl, rfl⟩) | (go_at_call 24; refine pv.mono ?_; rintro e w' ⟨rfl, rfl⟩) | fail)
                  go_quiet (fail)
                  have HX := Kp.mk (And.intro (HX.out.1.drewN nq) (And.intro (HX.out.2.1.oth ((Oth.refl _ _).drewN nq)) HX.out.2.2))
                  have x3 : (wX.drewN nq).cell? ⟨m, 0, none⟩ = _ := x3
                  have x4 : (wX.drewN nq).cell? ⟨m, 1, none⟩ = _ := x4
                  have cO : (wX.drewN nq).cell? ⟨rb, off + k * 4 + 2, none⟩ = _ := cO
                  have hrX : rb < (wX.drewN nq).heap.size := hrX
                  clear c2 c4
                  generalize wX.drewN nq = wY at *
                  go_wp2_with fail
                  go_quiet (fail)
                  have HX := Kp.mk (And.intro (HX.out.1.drewN nq) (And.intro (HX.out.2.1.oth ((Oth.refl _ _).drewN nq)) HX.out.2.2))
                  generalize wY.drewN nq = wZ at *
                  go_wp2_with fail
                  go_roundw
                  case rel => exact ⟨k + 1, s2, by omega, by go_num, HX.out.2.2.1, HX.out.1, HX.out.2.1, HX.out.2.2.2.1, HX.out.2.2.2.2.2⟩
                  case measure => simp [intOf]; omega
              · as_aux_lemma =>
                  have d1 : decide (sa ≤ V) = false := by simpa using hd.1
                  have d2 : decide (V ≤ -sa) = true := by simpa using hd.2
                  go_wp2_with (first | (go_at_call 22; refine fq.mono ?_; rintro e w' ⟨rfl, rfl⟩) | (go_at_call 24; refine pv.mono ?_; rintro e w' ⟨rfl, rfl⟩) | fail)
                  go_quiet (fail)
                  have HX := Kp.mk (And.intro (HX.out.1.drewN nq) (And.intro (HX.out.2.1.oth ((Oth.refl _ _).drewN nq)) HX.out.2.2))
                  have x3 : (wX.drewN nq).cell? ⟨m, 0, none⟩ = _ := x3
                  have x4 : (wX.drewN nq).cell? ⟨m, 1, none⟩ = _ := x4
                  have cO : (wX.drewN nq).cell? ⟨rb, off + k * 4 + 2, none⟩ = _ := cO
                  have hrX : rb < (wX.drewN nq).heap.size := hrX
                  clear c2 c4
                  generalize wX.drewN nq = wY at *
                  go_wp2_with fail
                  go_quiet (fail)
                  have HX := Kp.mk (And.intro (HX.out.1.drewN nq) (And.intro (HX.out.2.1.oth ((Oth.refl _ _).drewN nq)) HX.out.2.2))
                  generalize wY.drewN nq = wZ at *
                  go_wp2_with fail
                  go_roundw
                  case rel => exact ⟨k + 1, s2, by omega, by go_num, HX.out.2.2.1, HX.out.1, HX.out.2.1, HX.out.2.2.2.1, HX.out.2.2.2.2.2⟩
                  case measure => simp [intOf]; omega
        · clear hl
          obtain rfl : k = len := by omega
          go_wp2_with fail
          refine (awake_any _ (HC.out.below HEr.out.below HC.out.pos)).mono ?_
          rintro e wE ⟨rfl, hb⟩
          have HE2 := Kp.mk (Below.then HEr.out.below HEr.out.below.size hb)
          clear hb
          go_wp2_with fail
          go_ret
          exact ⟨by simp, HE2.out⟩
    · have t0 : decide ((len : Int) ≤ 60) = false := by simp; omega
      have fw := few_any a len cap w1
      rw [t0] at fw
      have HE := Kp.mk hE
      obtain ⟨_, _, _, c0, c1, c2, c3, c4⟩ := hE
      clear hl
      go_wp2_with fail
      refine fw.mono ?_
      rintro e w' ⟨rfl, rfl⟩
      clear fw
      have ck := check_any mn mx sa so li w1
      rw [hok] at ck
      go_wp2_with fail
      refine ck.mono ?_
      rintro e w2 ⟨rfl, hb⟩
      have HE := Kp.mk (Below.then HE.out.below HE.out.below.size hb)
      clear hb ck c0 c1 c2 c3 c4
      go_wp2_with fail
      refine (awake_any _ (HC.out.below HE.out HC.out.pos)).mono ?_
      rintro e wE ⟨rfl, hb⟩
      have HE2 := Kp.mk (Below.then HE.out HE.out.size hb)
      clear hb
      go_wp2_with fail
      go_ret
      exact ⟨by simp, HE2.out⟩
  · have p1 := fun w => new_bad mn mx sa so li hok w
    have HC := Kp.mk hc
    clear hc hS
    go_enter Tryd.func5, Tryd.ntmps5
    go_wp2_with fail
    refine (p1 _).mono ?_
    rintro e w1 ⟨rfl, hb1⟩
    have HE := Kp.mk (below_box hb1)
    obtain ⟨c0, c1, c2, c3, c4⟩ := box5 hb1
    have ck := check_any mn mx sa so li w1
    generalize chkF mn mx sa so li = E at *
    have t1 : (E == 0) = false := by simpa using hok
    clear hb1 p1 hok
    go_wp2_with fail
    refine ck.mono ?_
    rintro e w2 ⟨rfl, hb⟩
    have HE := Kp.mk (Below.then HE.out HE.out.size hb)
    clear hb ck c0 c1 c2 c3 c4
    go_wp2_with fail
    refine (awake_any _ (HC.out.below HE.out HC.out.pos)).mono ?_
    rintro e wE ⟨rfl, hb⟩
    have HE2 := Kp.mk (Below.then HE.out HE.out.size hb)
    clear hb
    go_wp2_with fail
    go_ret
    exact ⟨by simp, HE2.out⟩
theorem limits_walk (mn mx sa so li : Int) (a : Option Addr) (len cap : Nat) (T A O P : Nat → Int) (w : World) (_ : I64 mn) (_ : I64 mx) (_ : I64 sa) (_ : I64 so) (_ : I64 li) (hS : StepRow w a len T A O P) (hc : ConfAt w) : Calls Tryd.prog 5 #[.agg #[.int .i64 mn, .int .i64 mx, .int .i64 sa, .int .i64 so, .int .i64 li], .slice a len cap] w fun x w' => x = .returned (.bool true) ∧ Below w.heap.size w w' := limits_any mn mx sa so li a len cap T A O P w hS hc
end Go.Proofs.YtbfobodaeimklaaDoor
