/-
  The walk of PllRuns: whatever the configuration, the updates and the ticks, the loop and the reference agree: it returns true, and what was there is as it was.
-/
import Derived.Test.YtbfobodaeimklaaDoorPllY
import Derived.Deep.RegionHeld3
import Derived.Deep.LoopGhost
set_option linter.unusedSimpArgs false
set_option linter.unusedVariables false
namespace Go.Proofs.YtbfobodaeimklaaDoor
open Go.RowKit
theorem keep5 {n : Nat} {W W' : World} {mn mx sa so li : Value} (h : n < W.heap.size ∧ W.cell? ⟨n, 0, none⟩ = some mn ∧ W.cell? ⟨n, 1, none⟩ = some mx ∧ W.cell? ⟨n, 2, none⟩ = some sa ∧ W.cell? ⟨n, 3, none⟩ = some so ∧ W.cell? ⟨n, 4, none⟩ = some li) (hB : Below W.heap.size W W') :
    n < W'.heap.size ∧ W'.cell? ⟨n, 0, none⟩ = some mn ∧ W'.cell? ⟨n, 1, none⟩ = some mx ∧ W'.cell? ⟨n, 2, none⟩ = some sa ∧ W'.cell? ⟨n, 3, none⟩ = some so ∧ W'.cell? ⟨n, 4, none⟩ = some li := by
  obtain ⟨h0, h1, h2, h3, h4, h5⟩ := h
  exact ⟨Nat.lt_of_lt_of_le h0 hB.size, (hB.cell h0).trans h1, (hB.cell h0).trans h2, (hB.cell h0).trans h3, (hB.cell h0).trans h4, (hB.cell h0).trans h5⟩
set_option maxRecDepth 4000 in
set_option maxHeartbeats 16000000 in
theorem runs_any (mn mx sa so li : Int) (a : Option Addr) (len cap : Nat) (T A O P : Nat → Int) (w : World) (hS : StepRow w a len T A O P) (hc : ConfAt w) : Calls Tryd.prog 4 #[.agg #[.int .i64 mn, .int .i64 mx, .int .i64 sa, .int .i64 so, .int .i64 li], .slice a len cap] w fun x w' => x = .returned (.bool true) ∧ Below w.heap.size w w' := by
  by_cases hok : chkF mn mx sa so li = 0
  · have p1 := fun w => new_good mn mx sa so li hok w
    have p2 := fun w => rnew_good mn mx sa so li hok w
    have HC := Kp.mk hc
    have HS := Kp.mk hS
    clear hc hS
    go_enter Tryd.func4, Tryd.ntmps4
    go_wp2_with fail
    have HX : Below w.heap.size w (w.alloc (.cells #[.int .i64 mn, .int .i64 mx, .int .i64 sa, .int .i64 so, .int .i64 li] 23)).drew := ((Below.refl _ _).alloc (Nat.le_refl _) _).drew
    go_region_held3 (fun w' => w.heap.size < w'.heap.size ∧ w'.cell? ⟨w.heap.size, 0, none⟩ = some (.int .i64 mn) ∧ w'.cell? ⟨w.heap.size, 1, none⟩ = some (.int .i64 mx) ∧ w'.cell? ⟨w.heap.size, 2, none⟩ = some (.int .i64 sa) ∧ w'.cell? ⟨w.heap.size, 3, none⟩ = some (.int .i64 so) ∧ w'.cell? ⟨w.heap.size, 4, none⟩ = some (.int .i64 li)) (first | exact keep5 (by assumption) hb1 | exact keep5 (by assumption) hb2 | go_keep)
      (first | (go_at_call 12; refine (p1 _).mono ?_; rintro e w1 ⟨b, rfl, hb, hl, hb1⟩) | (go_at_call 14; refine (p2 _).mono ?_; rintro e w2 ⟨c, rfl, hc, hr, hb2⟩))
    have hs0 : w.heap.size < w1.heap.size := by have := hb1.size; have : (w.alloc (.cells #[.int .i64 mn, .int .i64 mx, .int .i64 sa, .int .i64 so, .int .i64 li] 23)).heap.size = w.heap.size + 1 := World.size_alloc _ _; simp at *; omega
    have hbw : w.heap.size ≤ b := by simp at hb; omega
    have hbc : b < c := by have := hl.lt; omega
    have hl2 := hl.below hb2 hl.lt
    have HB2 := Kp.mk (Below.then (Below.then HX HX.size hb1) (Below.then HX HX.size hb1).size hb2)
    have hcw : w.heap.size ≤ c := by omega
    clear HX hb
    have HL := Kp.mk hl2
    have HR := Kp.mk hr
    clear hl hl2 hr hb1 hb2 hc p1 p2
    by_cases h60 : len ≤ 60
    · have t0 : decide ((len : Int) ≤ 60) = true := by simp; omega
      have fw := few_any a len cap w2
      rw [t0] at fw
      go_wp2_with fail
      refine fw.mono ?_
      rintro e w' ⟨rfl, rfl⟩
      clear fw
      go_wp2_with fail
      go_loopw [7] (fun i wr => ∃ (k : Nat) (s : LS) (u v : Int), k ≤ len ∧ i = .int .i64 k ∧ s.Ok ∧ Lp wr b s ∧ Rp wr c s u v ∧ Below w.heap.size w wr) (fun i _ => len - (intOf i).toNat)
      case atStart => exact ⟨0, _, 0, 0, Nat.zero_le _, rfl, new_ok hok, HL.out, HR.out, HB2.out⟩
      case round =>
        obtain ⟨k, s, u, v, hk, rfl, ok, hl, hr, hB⟩ := hrel
        have HB := Kp.mk hB
        clear hB
        by_cases hlt : k < len
        · have t1 : decide ((k : Int) < (len : Int)) = true := by simp; omega
          have kz : (0 : Int) ≤ (k : Int) := by omega
          have kl : (k : Int) < (len : Int) := by omega
          obtain ⟨rb, off, rfl, hrb, ⟨L0, _⟩, ⟨L1, _⟩, ⟨L2, _⟩, L3, _⟩ := HS.out.2 k hlt
          generalize T k = N at *
          generalize A k = A at *
          generalize O k = O at *
          generalize P k = Q at *
          have HW := Kp.mk (And.intro L0 (And.intro L1 (And.intro L2 L3)))
          have HI := Kp.mk (And.intro ok (And.intro hl hr))
          clear L0 L1 L2 L3 hl hr ok
          go_wp2_with fail
          go_loopw [8] (fun j wr => ∃ (q : Nat) (s : LS) (u v : Int), q ≤ 40 ∧ j = .int .i64 q ∧ s.Ok ∧ Lp wr b s ∧ Rp wr c s u v ∧ Below w.heap.size w wr) (fun j _ => 40 - (intOf j).toNat)
          case atStart => exact ⟨0, s, u, v, by omega, rfl, HI.out.1, HI.out.2.1, HI.out.2.2, HB.out⟩
          case round =>
            obtain ⟨q, s, u, v, hq, rfl, ok, hl, hr, hB⟩ := hrel
            have HBt := Kp.mk hB
            clear hB
            have l0 := (HBt.out.cell hrb).trans HW.out.1
            by_cases hlt2 : (q : Int) < N
            · have t2 : decide ((q : Int) < N) = true := by simpa using hlt2
              by_cases hlt3 : q < 40
              · have t3 : decide ((q : Int) < 40) = true := by simp; omega
                have b1 : -1125899906842624 ≤ s.ph := by have := ok.ph1; have := ok.sa2; omega
                have b2 : s.ph ≤ 1125899906842624 := by have := ok.ph2; have := ok.sa2; omega
                have tv : Calls Tryd.prog 16 #[.pointer (some ⟨b, 0, none⟩)] wr (LPost b (tickF s) (.int .i64 (tickV s)) wr) := tick_any b s wr hl (Int.le_trans ok.mn1 ok.po1) (Int.le_trans ok.po2 ok.mx2) b1 b2
                have rv := fun W (hW : Rp W c s u v) => rtick_any c s u v W hW (Int.le_trans ok.mn1 ok.po1) (Int.le_trans ok.po2 ok.mx2) b1 b2
                have okt := tick_ok ok
                clear b1 b2
                generalize tickF s = s2 at *
                generalize tickV s = tvv at *
                go_wp2_with fail
                refine tv.mono ?_
                rintro e w3 ⟨rfl, hl3, ho3⟩
                have hr3 := ho3.rp hr (by omega)
                have HB3 := HBt.out.trans (ho3.below hbw HBt.out.size)
                have rv3 := rv w3 hr3
                clear hr3 rv tv hl hr ho3
                go_wp2_with fail
                refine rv3.mono ?_
                rintro e w4 ⟨rfl, hr4, ho4⟩
                have hl4 := ho4.lp hl3 (by omega)
                have HX := Kp.mk (And.intro hl4 (And.intro hr4 (HB3.trans (ho4.below hcw HB3.size))))
                clear rv3 hl3 hr4 hl4 ho4 HB3
                go_wp2_with fail
                go_roundw
                case rel => exact ⟨q + 1, s2, u, v, by omega, by go_num, okt, HX.out.1, HX.out.2.1, HX.out.2.2⟩
                case measure => simp [intOf]; omega
              · have t3 : decide ((q : Int) < 40) = false := by simp; omega
                have l1 := (HBt.out.cell hrb).trans HW.out.2.1
                have l2 := (HBt.out.cell hrb).trans HW.out.2.2.1
                have l3 := (HBt.out.cell hrb).trans HW.out.2.2.2
                have hneb : rb ≠ b := by omega
                have hnec : rb ≠ c := by omega
                have hrwwr := Nat.lt_of_lt_of_le hrb HBt.out.size
                have hp := fun W hW => upd_any b s A O Q W hW ok
                have hp2 := fun W hW => rupd_any c s u v A O Q W hW ok
                have ok2 := upd_ok s A O Q ok
                generalize updF s A O Q = r at *
                obtain ⟨s2, ⟨K, V⟩, E⟩ := r
                unfold upv act at hp
                unfold RU upv act at hp2
                simp only at hp hp2 ok2
                go_wp2_with fail
                go_region_held3 (fun w' => rb < w'.heap.size ∧ w'.cell? ⟨rb, off + k * 4 + 1, none⟩ = some (.int .i64 A) ∧ w'.cell? ⟨rb, off + k * 4 + 2, none⟩ = some (.int .i64 O) ∧ w'.cell? ⟨rb, off + k * 4 + 3, none⟩ = some (.int .i64 Q)) (first | exact RowS.oth (by assumption) ho4 hneb | exact RowS.alloc _ (by assumption) | exact RowS.again _ _ (Nat.lt_of_lt_of_le hrwwr ho4.size) (by assumption) | exact RowS.oth (k := wr.heap.size) (by assumption) (((Oth.refl _ _).setCell (by rfl) _).setCell (by rfl) _) (by omega) | go_keep)
                  (first
                    | (go_at_call 18; refine (hp _ (hl.drew.alloc _)).mono ?_; rintro e w4 ⟨rfl, hl4, ho4⟩; have g0 : w4.cell? ⟨wr.heap.size, 0, none⟩ = _ := (one_new (W := wr.drew) ho4 hl.lt).1; have g1 : w4.cell? ⟨wr.heap.size, 1, none⟩ = _ := (one_new (W := wr.drew) ho4 hl.lt).2.1; have g2 : w4.frozen? ⟨wr.heap.size, 0, none⟩ = false := (one_new (W := wr.drew) ho4 hl.lt).2.2.1; have g3 : w4.frozen? ⟨wr.heap.size, 1, none⟩ = false := (one_new (W := wr.drew) ho4 hl.lt).2.2.2)
                    | (go_at_call 18; refine (hp _ hl.drew).mono ?_; rintro e w4 ⟨rfl, hl4, ho4⟩))
                · obtain ⟨wX, hXd⟩ : ∃ W, W = w4.alloc (.cells #[.int .i64 K, .int .i64 V] 38) := ⟨_, rfl⟩
                  have wX1 : Lp wX b s2 := by rw [hXd]; exact hl4.alloc _
                  have wX2 : Oth b wr wX := by rw [hXd]; exact (((Oth.refl _ _).drew).trans ho4).alloc _
                  have wX3 : wX.cell? ⟨w4.heap.size, 0, none⟩ = some (.int .i64 K) := by rw [hXd, World.cell?_alloc_at _ _ _ _ rfl]; rfl
                  have wX4 : wX.cell? ⟨w4.heap.size, 1, none⟩ = some (.int .i64 V) := by rw [hXd, World.cell?_alloc_at _ _ _ _ rfl]; rfl
                  rw [← hXd]
                  have hs4 : wr.heap.size ≤ w4.heap.size := ho4.size
                  obtain ⟨m, hmd⟩ : ∃ m, m = w4.heap.size := ⟨_, rfl⟩
                  rw [← hmd] at wX3 wX4 ⊢
                  have hm : wr.heap.size ≤ m := by omega
                  clear hXd ho4 hmd hs4 hl4
                  have HBX : Below w.heap.size w wX := HBt.out.trans (wX2.below hbw HBt.out.size)
                  have hrX := wX2.rp hr (by omega)
                  have y1 := (HBX.cell hrb).trans HW.out.2.1
                  have y2 := (HBX.cell hrb).trans HW.out.2.2.1
                  have y3 := (HBX.cell hrb).trans HW.out.2.2.2
                  have hrwwX := Nat.lt_of_lt_of_le hrb HBX.size
                  clear HBX
                  go_wp2_with fail
                  go_region_held3 (fun w' => rb < w'.heap.size ∧ w'.cell? ⟨rb, off + k * 4 + 1, none⟩ = some (.int .i64 A) ∧ w'.cell? ⟨rb, off + k * 4 + 2, none⟩ = some (.int .i64 O) ∧ w'.cell? ⟨rb, off + k * 4 + 3, none⟩ = some (.int .i64 Q)) (first | exact RowS.oth (by assumption) ho4 hnec | exact RowS.alloc _ (by assumption) | exact RowS.again _ _ (Nat.lt_of_lt_of_le hrwwX ho4.size) (by assumption) | exact RowS.oth (k := wX.heap.size) (by assumption) (((Oth.refl _ _).setCell (by rfl) _).setCell (by rfl) _) (by omega) | go_keep)
                    (first
                      | (go_at_call 19; refine (hp2 _ (hrX.drew.alloc _)).mono ?_; rintro e w4 ⟨rfl, ⟨k4, v4, hl4⟩, ho4⟩; have g0 : w4.cell? ⟨wX.heap.size, 0, none⟩ = _ := (one_new (W := wX.drew) ho4 hrX.lt).1; have g1 : w4.cell? ⟨wX.heap.size, 1, none⟩ = _ := (one_new (W := wX.drew) ho4 hrX.lt).2.1; have g2 : w4.frozen? ⟨wX.heap.size, 0, none⟩ = false := (one_new (W := wX.drew) ho4 hrX.lt).2.2.1; have g3 : w4.frozen? ⟨wX.heap.size, 1, none⟩ = false := (one_new (W := wX.drew) ho4 hrX.lt).2.2.2)
                      | (go_at_call 19; refine (hp2 _ hrX.drew).mono ?_; rintro e w4 ⟨rfl, ⟨k4, v4, hl4⟩, ho4⟩))
                  · obtain ⟨wY, hXd⟩ : ∃ W, W = w4.alloc (.cells #[.int .i64 K, .int .i64 V] 38) := ⟨_, rfl⟩
                    have wY1 : ∃ k4 v4, Rp wY c s2 k4 v4 := by rw [hXd]; exact ⟨k4, v4, hl4.alloc _⟩
                    have wY2 : Oth c wX wY := by rw [hXd]; exact (((Oth.refl _ _).drew).trans ho4).alloc _
                    have wY3 : wY.cell? ⟨w4.heap.size, 0, none⟩ = some (.int .i64 K) := by rw [hXd, World.cell?_alloc_at _ _ _ _ rfl]; rfl
                    have wY4 : wY.cell? ⟨w4.heap.size, 1, none⟩ = some (.int .i64 V) := by rw [hXd, World.cell?_alloc_at _ _ _ _ rfl]; rfl
                    rw [← hXd]
                    have hs4 : wX.heap.size ≤ w4.heap.size := ho4.size
                    obtain ⟨m2, hmd⟩ : ∃ m, m = w4.heap.size := ⟨_, rfl⟩
                    rw [← hmd] at wY3 wY4 ⊢
                    have hm2 : wX.heap.size ≤ m2 := by omega
                    clear hXd ho4 hmd hs4 hl4
                    have HBY := Kp.mk ((HBt.out.trans (wX2.below hbw HBt.out.size)).trans (wY2.below hcw (Nat.le_trans HBt.out.size wX2.size)))
                    have hY1 := wY2.lp wX1 (by omega)
                    obtain ⟨k4, v4, hR4⟩ := wY1
                    have hmX := World.block_lt_of_cell? wX _ wX3
                    have hmX : m < wX.heap.size := hmX
                    have wX3 := (wY2.cell (p := ⟨m, 0, none⟩) hmX (by show m ≠ c; have := hr.lt; omega)).trans wX3
                    have wX4 := (wY2.cell (p := ⟨m, 1, none⟩) hmX (by show m ≠ c; have := hr.lt; omega)).trans wX4
                    have q1 := state_any b s2 wY hY1
                    have q2 := rlstate_any c s2 k4 v4 wY hR4
                    have q3 := freq_any b s2 wY hY1
                    have q4 := rlfreq_any c s2 k4 v4 wY hR4
                    have q5 := phase_any b s2 wY hY1
                    have q6 := rlphase_any c s2 k4 v4 wY hR4
                    have HY := Kp.mk (And.intro hY1 hR4)
                    clear hp hp2 hl hr wX1 wX2 wY2 hY1 hR4 l1 l2 l3 y1 y2 y3 hm hm2
                    generalize s2.st = z1 at *
                    generalize s2.fr = z2 at *
                    generalize s2.ph = z3 at *
                    as_aux_lemma =>
                      go_wp2_with (first | (go_at_call 20; refine q1.mono ?_; rintro e w' ⟨rfl, rfl⟩) | (go_at_call 21; refine q2.mono ?_; rintro e w' ⟨rfl, rfl⟩) | (go_at_call 22; refine q3.mono ?_; rintro e w' ⟨rfl, rfl⟩) | (go_at_call 23; refine q4.mono ?_; rintro e w' ⟨rfl, rfl⟩) | (go_at_call 24; refine q5.mono ?_; rintro e w' ⟨rfl, rfl⟩) | (go_at_call 25; refine q6.mono ?_; rintro e w' ⟨rfl, rfl⟩) | fail)
                      go_roundw
                      case rel => exact ⟨k + 1, s2, k4, v4, by omega, by go_num, ok2, HY.out.1, HY.out.2, HBY.out⟩
                      case measure => simp [intOf]; omega
                  · obtain ⟨wY, hXd⟩ : ∃ W, W = (w4.setCell ⟨wX.heap.size, 0, none⟩ (.int .i64 K)).setCell ⟨wX.heap.size, 1, none⟩ (.int .i64 V) := ⟨_, rfl⟩
                    have hbm : c ≠ wX.heap.size := by have := hrX.lt; omega
                    have wY1 : ∃ k4 v4, Rp wY c s2 k4 v4 := by rw [hXd]; exact ⟨k4, v4, (hl4.setOther hbm _).setOther hbm _⟩
                    have wY2 : Oth c wX wY := by rw [hXd]; exact (((((Oth.refl _ _).drew).alloc _).trans ho4).setNew (by exact Nat.le_refl _) _).setNew (by exact Nat.le_refl _) _
                    have wY3 : wY.cell? ⟨wX.heap.size, 0, none⟩ = some (.int .i64 K) := by rw [hXd]; simp [go_sem, g0, g1]
                    have wY4 : wY.cell? ⟨wX.heap.size, 1, none⟩ = some (.int .i64 V) := by rw [hXd]; simp [go_sem, g0, g1]
                    rw [← hXd]
                    obtain ⟨m2, hmd⟩ : ∃ m, m = wX.heap.size := ⟨_, rfl⟩
                    rw [← hmd] at wY3 wY4 ⊢
                    have hm2 : wX.heap.size ≤ m2 := by omega
                    clear hXd ho4 g0 g1 g2 g3 hbm hmd hl4
                    have HBY := Kp.mk ((HBt.out.trans (wX2.below hbw HBt.out.size)).trans (wY2.below hcw (Nat.le_trans HBt.out.size wX2.size)))
                    have hY1 := wY2.lp wX1 (by omega)
                    obtain ⟨k4, v4, hR4⟩ := wY1
                    have hmX := World.block_lt_of_cell? wX _ wX3
                    have hmX : m < wX.heap.size := hmX
                    have wX3 := (wY2.cell (p := ⟨m, 0, none⟩) hmX (by show m ≠ c; have := hr.lt; omega)).trans wX3
                    have wX4 := (wY2.cell (p := ⟨m, 1, none⟩) hmX (by show m ≠ c; have := hr.lt; omega)).trans wX4
                    have q1 := state_any b s2 wY hY1
                    have q2 := rlstate_any c s2 k4 v4 wY hR4
                    have q3 := freq_any b s2 wY hY1
                    have q4 := rlfreq_any c s2 k4 v4 wY hR4
                    have q5 := phase_any b s2 wY hY1
                    have q6 := rlphase_any c s2 k4 v4 wY hR4
                    have HY := Kp.mk (And.intro hY1 hR4)
                    clear hp hp2 hl hr wX1 wX2 wY2 hY1 hR4 l1 l2 l3 y1 y2 y3 hm hm2
                    generalize s2.st = z1 at *
                    generalize s2.fr = z2 at *
                    generalize s2.ph = z3 at *
                    as_aux_lemma =>
                      go_wp2_with (first | (go_at_call 20; refine q1.mono ?_; rintro e w' ⟨rfl, rfl⟩) | (go_at_call 21; refine q2.mono ?_; rintro e w' ⟨rfl, rfl⟩) | (go_at_call 22; refine q3.mono ?_; rintro e w' ⟨rfl, rfl⟩) | (go_at_call 23; refine q4.mono ?_; rintro e w' ⟨rfl, rfl⟩) | (go_at_call 24; refine q5.mono ?_; rintro e w' ⟨rfl, rfl⟩) | (go_at_call 25; refine q6.mono ?_; rintro e w' ⟨rfl, rfl⟩) | fail)
                      go_roundw
                      case rel => exact ⟨k + 1, s2, k4, v4, by omega, by go_num, ok2, HY.out.1, HY.out.2, HBY.out⟩
                      case measure => simp [intOf]; omega
                · obtain ⟨wX, hXd⟩ : ∃ W, W = (w4.setCell ⟨wr.heap.size, 0, none⟩ (.int .i64 K)).setCell ⟨wr.heap.size, 1, none⟩ (.int .i64 V) := ⟨_, rfl⟩
                  have hbm : b ≠ wr.heap.size := by have := hl.lt; omega
                  have wX1 : Lp wX b s2 := by rw [hXd]; exact (hl4.setOther hbm _).setOther hbm _
                  have wX2 : Oth b wr wX := by rw [hXd]; exact (((((Oth.refl _ _).drew).alloc _).trans ho4).setNew (by exact Nat.le_refl _) _).setNew (by exact Nat.le_refl _) _
                  have wX3 : wX.cell? ⟨wr.heap.size, 0, none⟩ = some (.int .i64 K) := by rw [hXd]; simp [go_sem, g0, g1]
                  have wX4 : wX.cell? ⟨wr.heap.size, 1, none⟩ = some (.int .i64 V) := by rw [hXd]; simp [go_sem, g0, g1]
                  rw [← hXd]
                  obtain ⟨m, hmd⟩ : ∃ m, m = wr.heap.size := ⟨_, rfl⟩
                  rw [← hmd] at wX3 wX4 ⊢
                  have hm : wr.heap.size ≤ m := by omega
                  clear hXd ho4 g0 g1 g2 g3 hbm hmd hl4
                  have HBX : Below w.heap.size w wX := HBt.out.trans (wX2.below hbw HBt.out.size)
                  have hrX := wX2.rp hr (by omega)
                  have y1 := (HBX.cell hrb).trans HW.out.2.1
                  have y2 := (HBX.cell hrb).trans HW.out.2.2.1
                  have y3 := (HBX.cell hrb).trans HW.out.2.2.2
                  have hrwwX := Nat.lt_of_lt_of_le hrb HBX.size
                  clear HBX
                  go_wp2_with fail
                  go_region_held3 (fun w' => rb < w'.heap.size ∧ w'.cell? ⟨rb, off + k * 4 + 1, none⟩ = some (.int .i64 A) ∧ w'.cell? ⟨rb, off + k * 4 + 2, none⟩ = some (.int .i64 O) ∧ w'.cell? ⟨rb, off + k * 4 + 3, none⟩ = some (.int .i64 Q)) (first | exact RowS.oth (by assumption) ho4 hnec | exact RowS.alloc _ (by assumption) | exact RowS.again _ _ (Nat.lt_of_lt_of_le hrwwX ho4.size) (by assumption) | exact RowS.oth (k := wX.heap.size) (by assumption) (((Oth.refl _ _).setCell (by rfl) _).setCell (by rfl) _) (by omega) | go_keep)
                    (first
                      | (go_at_call 19; refine (hp2 _ (hrX.drew.alloc _)).mono ?_; rintro e w4 ⟨rfl, ⟨k4, v4, hl4⟩, ho4⟩; have g0 : w4.cell? ⟨wX.heap.size, 0, none⟩ = _ := (one_new (W := wX.drew) ho4 hrX.lt).1; have g1 : w4.cell? ⟨wX.heap.size, 1, none⟩ = _ := (one_new (W := wX.drew) ho4 hrX.lt).2.1; have g2 : w4.frozen? ⟨wX.heap.size, 0, none⟩ = false := (one_new (W := wX.drew) ho4 hrX.lt).2.2.1; have g3 : w4.frozen? ⟨wX.heap.size, 1, none⟩ = false := (one_new (W := wX.drew) ho4 hrX.lt).2.2.2)
                      | (go_at_call 19; refine (hp2 _ hrX.drew).mono ?_; rintro e w4 ⟨rfl, ⟨k4, v4, hl4⟩, ho4⟩))
                  · obtain ⟨wY, hXd⟩ : ∃ W, W = w4.alloc (.cells #[.int .i64 K, .int .i64 V] 38) := ⟨_, rfl⟩
                    have wY1 : ∃ k4 v4, Rp wY c s2 k4 v4 := by rw [hXd]; exact ⟨k4, v4, hl4.alloc _⟩
                    have wY2 : Oth c wX wY := by rw [hXd]; exact (((Oth.refl _ _).drew).trans ho4).alloc _
                    have wY3 : wY.cell? ⟨w4.heap.size, 0, none⟩ = some (.int .i64 K) := by rw [hXd, World.cell?_alloc_at _ _ _ _ rfl]; rfl
                    have wY4 : wY.cell? ⟨w4.heap.size, 1, none⟩ = some (.int .i64 V) := by rw [hXd, World.cell?_alloc_at _ _ _ _ rfl]; rfl
                    rw [← hXd]
                    have hs4 : wX.heap.size ≤ w4.heap.size := ho4.size
                    obtain ⟨m2, hmd⟩ : ∃ m, m = w4.heap.size := ⟨_, rfl⟩
                    rw [← hmd] at wY3 wY4 ⊢
                    have hm2 : wX.heap.size ≤ m2 := by omega
                    clear hXd ho4 hmd hs4 hl4
                    have HBY := Kp.mk ((HBt.out.trans (wX2.below hbw HBt.out.size)).trans (wY2.below hcw (Nat.le_trans HBt.out.size wX2.size)))
                    have hY1 := wY2.lp wX1 (by omega)
                    obtain ⟨k4, v4, hR4⟩ := wY1
                    have hmX := World.block_lt_of_cell? wX _ wX3
                    have hmX : m < wX.heap.size := hmX
                    have wX3 := (wY2.cell (p := ⟨m, 0, none⟩) hmX (by show m ≠ c; have := hr.lt; omega)).trans wX3
                    have wX4 := (wY2.cell (p := ⟨m, 1, none⟩) hmX (by show m ≠ c; have := hr.lt; omega)).trans wX4
                    have q1 := state_any b s2 wY hY1
                    have q2 := rlstate_any c s2 k4 v4 wY hR4
                    have q3 := freq_any b s2 wY hY1
                    have q4 := rlfreq_any c s2 k4 v4 wY hR4
                    have q5 := phase_any b s2 wY hY1
                    have q6 := rlphase_any c s2 k4 v4 wY hR4
                    have HY := Kp.mk (And.intro hY1 hR4)
                    clear hp hp2 hl hr wX1 wX2 wY2 hY1 hR4 l1 l2 l3 y1 y2 y3 hm hm2
                    generalize s2.st = z1 at *
                    generalize s2.fr = z2 at *
                    generalize s2.ph = z3 at *
                    as_aux_lemma =>
                      go_wp2_with (first | (go_at_call 20; refine q1.mono ?_; rintro e w' ⟨rfl, rfl⟩) | (go_at_call 21; refine q2.mono ?_; rintro e w' ⟨rfl, rfl⟩) | (go_at_call 22; refine q3.mono ?_; rintro e w' ⟨rfl, rfl⟩) | (go_at_call 23; refine q4.mono ?_; rintro e w' ⟨rfl, rfl⟩) | (go_at_call 24; refine q5.mono ?_; rintro e w' ⟨rfl, rfl⟩) | (go_at_call 25; refine q6.mono ?_; rintro e w' ⟨rfl, rfl⟩) | fail)
                      go_roundw
                      case rel => exact ⟨k + 1, s2, k4, v4, by omega, by go_num, ok2, HY.out.1, HY.out.2, HBY.out⟩
                      case measure => simp [intOf]; omega
                  · obtain ⟨wY, hXd⟩ : ∃ W, W = (w4.setCell ⟨wX.heap.size, 0, none⟩ (.int .i64 K)).setCell ⟨wX.heap.size, 1, none⟩ (.int .i64 V) := ⟨_, rfl⟩
                    have hbm : c ≠ wX.heap.size := by have := hrX.lt; omega
                    have wY1 : ∃ k4 v4, Rp wY c s2 k4 v4 := by rw [hXd]; exact ⟨k4, v4, (hl4.setOther hbm _).setOther hbm _⟩
                    have wY2 : Oth c wX wY := by rw [hXd]; exact (((((Oth.refl _ _).drew).alloc _).trans ho4).setNew (by exact Nat.le_refl _) _).setNew (by exact Nat.le_refl _) _
                    have wY3 : wY.cell? ⟨wX.heap.size, 0, none⟩ = some (.int .i64 K) := by rw [hXd]; simp [go_sem, g0, g1]
                    have wY4 : wY.cell? ⟨wX.heap.size, 1, none⟩ = some (.int .i64 V) := by rw [hXd]; simp [go_sem, g0, g1]
                    rw [← hXd]
                    obtain ⟨m2, hmd⟩ : ∃ m, m = wX.heap.size := ⟨_, rfl⟩
                    rw [← hmd] at wY3 wY4 ⊢
                    have hm2 : wX.heap.size ≤ m2 := by omega
                    clear hXd ho4 g0 g1 g2 g3 hbm hmd hl4
                    have HBY := Kp.mk ((HBt.out.trans (wX2.below hbw HBt.out.size)).trans (wY2.below hcw (Nat.le_trans HBt.out.size wX2.size)))
                    have hY1 := wY2.lp wX1 (by omega)
                    obtain ⟨k4, v4, hR4⟩ := wY1
                    have hmX := World.block_lt_of_cell? wX _ wX3
                    have hmX : m < wX.heap.size := hmX
                    have wX3 := (wY2.cell (p := ⟨m, 0, none⟩) hmX (by show m ≠ c; have := hr.lt; omega)).trans wX3
                    have wX4 := (wY2.cell (p := ⟨m, 1, none⟩) hmX (by show m ≠ c; have := hr.lt; omega)).trans wX4
                    have q1 := state_any b s2 wY hY1
                    have q2 := rlstate_any c s2 k4 v4 wY hR4
                    have q3 := freq_any b s2 wY hY1
                    have q4 := rlfreq_any c s2 k4 v4 wY hR4
                    have q5 := phase_any b s2 wY hY1
                    have q6 := rlphase_any c s2 k4 v4 wY hR4
                    have HY := Kp.mk (And.intro hY1 hR4)
                    clear hp hp2 hl hr wX1 wX2 wY2 hY1 hR4 l1 l2 l3 y1 y2 y3 hm hm2
                    generalize s2.st = z1 at *
                    generalize s2.fr = z2 at *
                    generalize s2.ph = z3 at *
                    as_aux_lemma =>
                      go_wp2_with (first | (go_at_call 20; refine q1.mono ?_; rintro e w' ⟨rfl, rfl⟩) | (go_at_call 21; refine q2.mono ?_; rintro e w' ⟨rfl, rfl⟩) | (go_at_call 22; refine q3.mono ?_; rintro e w' ⟨rfl, rfl⟩) | (go_at_call 23; refine q4.mono ?_; rintro e w' ⟨rfl, rfl⟩) | (go_at_call 24; refine q5.mono ?_; rintro e w' ⟨rfl, rfl⟩) | (go_at_call 25; refine q6.mono ?_; rintro e w' ⟨rfl, rfl⟩) | fail)
                      go_roundw
                      case rel => exact ⟨k + 1, s2, k4, v4, by omega, by go_num, ok2, HY.out.1, HY.out.2, HBY.out⟩
                      case measure => simp [intOf]; omega
            · have t2 : decide ((q : Int) < N) = false := by simpa using hlt2
              have l1 := (HBt.out.cell hrb).trans HW.out.2.1
              have l2 := (HBt.out.cell hrb).trans HW.out.2.2.1
              have l3 := (HBt.out.cell hrb).trans HW.out.2.2.2
              have hneb : rb ≠ b := by omega
              have hnec : rb ≠ c := by omega
              have hrwwr := Nat.lt_of_lt_of_le hrb HBt.out.size
              have hp := fun W hW => upd_any b s A O Q W hW ok
              have hp2 := fun W hW => rupd_any c s u v A O Q W hW ok
              have ok2 := upd_ok s A O Q ok
              generalize updF s A O Q = r at *
              obtain ⟨s2, ⟨K, V⟩, E⟩ := r
              unfold upv act at hp
              unfold RU upv act at hp2
              simp only at hp hp2 ok2
              go_wp2_with fail
              go_region_held3 (fun w' => rb < w'.heap.size ∧ w'.cell? ⟨rb, off + k * 4 + 1, none⟩ = some (.int .i64 A) ∧ w'.cell? ⟨rb, off + k * 4 + 2, none⟩ = some (.int .i64 O) ∧ w'.cell? ⟨rb, off + k * 4 + 3, none⟩ = some (.int .i64 Q)) (first | exact RowS.oth (by assumption) ho4 hneb | exact RowS.alloc _ (by assumption) | exact RowS.again _ _ (Nat.lt_of_lt_of_le hrwwr ho4.size) (by assumption) | exact RowS.oth (k := wr.heap.size) (by assumption) (((Oth.refl _ _).setCell (by rfl) _).setCell (by rfl) _) (by omega) | go_keep)
                (first
                  | (go_at_call 18; refine (hp _ (hl.drew.alloc _)).mono ?_; rintro e w4 ⟨rfl, hl4, ho4⟩; have g0 : w4.cell? ⟨wr.heap.size, 0, none⟩ = _ := (one_new (W := wr.drew) ho4 hl.lt).1; have g1 : w4.cell? ⟨wr.heap.size, 1, none⟩ = _ := (one_new (W := wr.drew) ho4 hl.lt).2.1; have g2 : w4.frozen? ⟨wr.heap.size, 0, none⟩ = false := (one_new (W := wr.drew) ho4 hl.lt).2.2.1; have g3 : w4.frozen? ⟨wr.heap.size, 1, none⟩ = false := (one_new (W := wr.drew) ho4 hl.lt).2.2.2)
                  | (go_at_call 18; refine (hp _ hl.drew).mono ?_; rintro e w4 ⟨rfl, hl4, ho4⟩))
              · obtain ⟨wX, hXd⟩ : ∃ W, W = w4.alloc (.cells #[.int .i64 K, .int .i64 V] 38) := ⟨_, rfl⟩
                have wX1 : Lp wX b s2 := by rw [hXd]; exact hl4.alloc _
                have wX2 : Oth b wr wX := by rw [hXd]; exact (((Oth.refl _ _).drew).trans ho4).alloc _
                have wX3 : wX.cell? ⟨w4.heap.size, 0, none⟩ = some (.int .i64 K) := by rw [hXd, World.cell?_alloc_at _ _ _ _ rfl]; rfl
                have wX4 : wX.cell? ⟨w4.heap.size, 1, none⟩ = some (.int .i64 V) := by rw [hXd, World.cell?_alloc_at _ _ _ _ rfl]; rfl
                rw [← hXd]
                have hs4 : wr.heap.size ≤ w4.heap.size := ho4.size
                obtain ⟨m, hmd⟩ : ∃ m, m = w4.heap.size := ⟨_, rfl⟩
                rw [← hmd] at wX3 wX4 ⊢
                have hm : wr.heap.size ≤ m := by omega
                clear hXd ho4 hmd hs4 hl4
                have HBX : Below w.heap.size w wX := HBt.out.trans (wX2.below hbw HBt.out.size)
                have hrX := wX2.rp hr (by omega)
                have y1 := (HBX.cell hrb).trans HW.out.2.1
                have y2 := (HBX.cell hrb).trans HW.out.2.2.1
                have y3 := (HBX.cell hrb).trans HW.out.2.2.2
                have hrwwX := Nat.lt_of_lt_of_le hrb HBX.size
                clear HBX
                go_wp2_with fail
                go_region_held3 (fun w' => rb < w'.heap.size ∧ w'.cell? ⟨rb, off + k * 4 + 1, none⟩ = some (.int .i64 A) ∧ w'.cell? ⟨rb, off + k * 4 + 2, none⟩ = some (.int .i64 O) ∧ w'.cell? ⟨rb, off + k * 4 + 3, none⟩ = some (.int .i64 Q)) (first | exact RowS.oth (by assumption) ho4 hnec | exact RowS.alloc _ (by assumption) | exact RowS.again _ _ (Nat.lt_of_lt_of_le hrwwX ho4.size) (by assumption) | exact RowS.oth (k := wX.heap.size) (by assumption) (((Oth.refl _ _).setCell (by rfl) _).setCell (by rfl) _) (by omega) | go_keep)
                  (first
                    | (go_at_call 19; refine (hp2 _ (hrX.drew.alloc _)).mono ?_; rintro e w4 ⟨rfl, ⟨k4, v4, hl4⟩, ho4⟩; have g0 : w4.cell? ⟨wX.heap.size, 0, none⟩ = _ := (one_new (W := wX.drew) ho4 hrX.lt).1; have g1 : w4.cell? ⟨wX.heap.size, 1, none⟩ = _ := (one_new (W := wX.drew) ho4 hrX.lt).2.1; have g2 : w4.frozen? ⟨wX.heap.size, 0, none⟩ = false := (one_new (W := wX.drew) ho4 hrX.lt).2.2.1; have g3 : w4.frozen? ⟨wX.heap.size, 1, none⟩ = false := (one_new (W := wX.drew) ho4 hrX.lt).2.2.2)
                    | (go_at_call 19; refine (hp2 _ hrX.drew).mono ?_; rintro e w4 ⟨rfl, ⟨k4, v4, hl4⟩, ho4⟩))
                · obtain ⟨wY, hXd⟩ : ∃ W, W = w4.alloc (.cells #[.int .i64 K, .int .i64 V] 38) := ⟨_, rfl⟩
                  have wY1 : ∃ k4 v4, Rp wY c s2 k4 v4 := by rw [hXd]; exact ⟨k4, v4, hl4.alloc _⟩
                  have wY2 : Oth c wX wY := by rw [hXd]; exact (((Oth.refl _ _).drew).trans ho4).alloc _
                  have wY3 : wY.cell? ⟨w4.heap.size, 0, none⟩ = some (.int .i64 K) := by rw [hXd, World.cell?_alloc_at _ _ _ _ rfl]; rfl
                  have wY4 : wY.cell? ⟨w4.heap.size, 1, none⟩ = some (.int .i64 V) := by rw [hXd, World.cell?_alloc_at _ _ _ _ rfl]; rfl
                  rw [← hXd]
                  have hs4 : wX.heap.size ≤ w4.heap.size := ho4.size
                  obtain ⟨m2, hmd⟩ : ∃ m, m = w4.heap.size := ⟨_, rfl⟩
                  rw [← hmd] at wY3 wY4 ⊢
                  have hm2 : wX.heap.size ≤ m2 := by omega
                  clear hXd ho4 hmd hs4 hl4
                  have HBY := Kp.mk ((HBt.out.trans (wX2.below hbw HBt.out.size)).trans (wY2.below hcw (Nat.le_trans HBt.out.size wX2.size)))
                  have hY1 := wY2.lp wX1 (by omega)
                  obtain ⟨k4, v4, hR4⟩ := wY1
                  have hmX := World.block_lt_of_cell? wX _ wX3
                  have hmX : m < wX.heap.size := hmX
                  have wX3 := (wY2.cell (p := ⟨m, 0, none⟩) hmX (by show m ≠ c; have := hr.lt; omega)).trans wX3
                  have wX4 := (wY2.cell (p := ⟨m, 1, none⟩) hmX (by show m ≠ c; have := hr.lt; omega)).trans wX4
                  have q1 := state_any b s2 wY hY1
                  have q2 := rlstate_any c s2 k4 v4 wY hR4
                  have q3 := freq_any b s2 wY hY1
                  have q4 := rlfreq_any c s2 k4 v4 wY hR4
                  have q5 := phase_any b s2 wY hY1
                  have q6 := rlphase_any c s2 k4 v4 wY hR4
                  have HY := Kp.mk (And.intro hY1 hR4)
                  clear hp hp2 hl hr wX1 wX2 wY2 hY1 hR4 l1 l2 l3 y1 y2 y3 hm hm2
                  generalize s2.st = z1 at *
                  generalize s2.fr = z2 at *
                  generalize s2.ph = z3 at *
                  as_aux_lemma =>
                    go_wp2_with (first | (go_at_call 20; refine q1.mono ?_; rintro e w' ⟨rfl, rfl⟩) | (go_at_call 21; refine q2.mono ?_; rintro e w' ⟨rfl, rfl⟩) | (go_at_call 22; refine q3.mono ?_; rintro e w' ⟨rfl, rfl⟩) | (go_at_call 23; refine q4.mono ?_; rintro e w' ⟨rfl, rfl⟩) | (go_at_call 24; refine q5.mono ?_; rintro e w' ⟨rfl, rfl⟩) | (go_at_call 25; refine q6.mono ?_; rintro e w' ⟨rfl, rfl⟩) | fail)
                    go_roundw
                    case rel => exact ⟨k + 1, s2, k4, v4, by omega, by go_num, ok2, HY.out.1, HY.out.2, HBY.out⟩
                    case measure => simp [intOf]; omega
                · obtain ⟨wY, hXd⟩ : ∃ W, W = (w4.setCell ⟨wX.heap.size, 0, none⟩ (.int .i64 K)).setCell ⟨wX.heap.size, 1, none⟩ (.int .i64 V) := ⟨_, rfl⟩
                  have hbm : c ≠ wX.heap.size := by have := hrX.lt; omega
                  have wY1 : ∃ k4 v4, Rp wY c s2 k4 v4 := by rw [hXd]; exact ⟨k4, v4, (hl4.setOther hbm _).setOther hbm _⟩
                  have wY2 : Oth c wX wY := by rw [hXd]; exact (((((Oth.refl _ _).drew).alloc _).trans ho4).setNew (by exact Nat.le_refl _) _).setNew (by exact Nat.le_refl _) _
                  have wY3 : wY.cell? ⟨wX.heap.size, 0, none⟩ = some (.int .i64 K) := by rw [hXd]; simp [go_sem, g0, g1]
                  have wY4 : wY.cell? ⟨wX.heap.size, 1, none⟩ = some (.int .i64 V) := by rw [hXd]; simp [go_sem, g0, g1]
                  rw [← hXd]
                  obtain ⟨m2, hmd⟩ : ∃ m, m = wX.heap.size := ⟨_, rfl⟩
                  rw [← hmd] at wY3 wY4 ⊢
                  have hm2 : wX.heap.size ≤ m2 := by omega
                  clear hXd ho4 g0 g1 g2 g3 hbm hmd hl4
                  have HBY := Kp.mk ((HBt.out.trans (wX2.below hbw HBt.out.size)).trans (wY2.below hcw (Nat.le_trans HBt.out.size wX2.size)))
                  have hY1 := wY2.lp wX1 (by omega)
                  obtain ⟨k4, v4, hR4⟩ := wY1
                  have hmX := World.block_lt_of_cell? wX _ wX3
                  have hmX : m < wX.heap.size := hmX
                  have wX3 := (wY2.cell (p := ⟨m, 0, none⟩) hmX (by show m ≠ c; have := hr.lt; omega)).trans wX3
                  have wX4 := (wY2.cell (p := ⟨m, 1, none⟩) hmX (by show m ≠ c; have := hr.lt; omega)).trans wX4
                  have q1 := state_any b s2 wY hY1
                  have q2 := rlstate_any c s2 k4 v4 wY hR4
                  have q3 := freq_any b s2 wY hY1
                  have q4 := rlfreq_any c s2 k4 v4 wY hR4
                  have q5 := phase_any b s2 wY hY1
                  have q6 := rlphase_any c s2 k4 v4 wY hR4
                  have HY := Kp.mk (And.intro hY1 hR4)
                  clear hp hp2 hl hr wX1 wX2 wY2 hY1 hR4 l1 l2 l3 y1 y2 y3 hm hm2
                  generalize s2.st = z1 at *
                  generalize s2.fr = z2 at *
                  generalize s2.ph = z3 at *
                  as_aux_lemma =>
                    go_wp2_with (first | (go_at_call 20; refine q1.mono ?_; rintro e w' ⟨rfl, rfl⟩) | (go_at_call 21; refine q2.mono ?_; rintro e w' ⟨rfl, rfl⟩) | (go_at_call 22; refine q3.mono ?_; rintro e w' ⟨rfl, rfl⟩) | (go_at_call 23; refine q4.mono ?_; rintro e w' ⟨rfl, rfl⟩) | (go_at_call 24; refine q5.mono ?_; rintro e w' ⟨rfl, rfl⟩) | (go_at_call 25; refine q6.mono ?_; rintro e w' ⟨rfl, rfl⟩) | fail)
                    go_roundw
                    case rel => exact ⟨k + 1, s2, k4, v4, by omega, by go_num, ok2, HY.out.1, HY.out.2, HBY.out⟩
                    case measure => simp [intOf]; omega
              · obtain ⟨wX, hXd⟩ : ∃ W, W = (w4.setCell ⟨wr.heap.size, 0, none⟩ (.int .i64 K)).setCell ⟨wr.heap.size, 1, none⟩ (.int .i64 V) := ⟨_, rfl⟩
                have hbm : b ≠ wr.heap.size := by have := hl.lt; omega
                have wX1 : Lp wX b s2 := by rw [hXd]; exact (hl4.setOther hbm _).setOther hbm _
                have wX2 : Oth b wr wX := by rw [hXd]; exact (((((Oth.refl _ _).drew).alloc _).trans ho4).setNew (by exact Nat.le_refl _) _).setNew (by exact Nat.le_refl _) _
                have wX3 : wX.cell? ⟨wr.heap.size, 0, none⟩ = some (.int .i64 K) := by rw [hXd]; simp [go_sem, g0, g1]
                have wX4 : wX.cell? ⟨wr.heap.size, 1, none⟩ = some (.int .i64 V) := by rw [hXd]; simp [go_sem, g0, g1]
                rw [← hXd]
                obtain ⟨m, hmd⟩ : ∃ m, m = wr.heap.size := ⟨_, rfl⟩
                rw [← hmd] at wX3 wX4 ⊢
                have hm : wr.heap.size ≤ m := by omega
                clear hXd ho4 g0 g1 g2 g3 hbm hmd hl4
                have HBX : Below w.heap.size w wX := HBt.out.trans (wX2.below hbw HBt.out.size)
                have hrX := wX2.rp hr (by omega)
                have y1 := (HBX.cell hrb).trans HW.out.2.1
                have y2 := (HBX.cell hrb).trans HW.out.2.2.1
                have y3 := (HBX.cell hrb).trans HW.out.2.2.2
                have hrwwX := Nat.lt_of_lt_of_le hrb HBX.size
                clear HBX
                go_wp2_with fail
                go_region_held3 (fun w' => rb < w'.heap.size ∧ w'.cell? ⟨rb, off + k * 4 + 1, none⟩ = some (.int .i64 A) ∧ w'.cell? ⟨rb, off + k * 4 + 2, none⟩ = some (.int .i64 O) ∧ w'.cell? ⟨rb, off + k * 4 + 3, none⟩ = some (.int .i64 Q)) (first | exact RowS.oth (by assumption) ho4 hnec | exact RowS.alloc _ (by assumption) | exact RowS.again _ _ (Nat.lt_of_lt_of_le hrwwX ho4.size) (by assumption) | exact RowS.oth (k := wX.heap.size) (by assumption) (((Oth.refl _ _).setCell (by rfl) _).setCell (by rfl) _) (by omega) | go_keep)
                  (first
                    | (go_at_call 19; refine (hp2 _ (hrX.drew.alloc _)).mono ?_; rintro e w4 ⟨rfl, ⟨k4, v4, hl4⟩, ho4⟩; have g0 : w4.cell? ⟨wX.heap.size, 0, none⟩ = _ := (one_new (W := wX.drew) ho4 hrX.lt).1; have g1 : w4.cell? ⟨wX.heap.size, 1, none⟩ = _ := (one_new (W := wX.drew) ho4 hrX.lt).2.1; have g2 : w4.frozen? ⟨wX.heap.size, 0, none⟩ = false := (one_new (W := wX.drew) ho4 hrX.lt).2.2.1; have g3 : w4.frozen? ⟨wX.heap.size, 1, none⟩ = false := (one_new (W := wX.drew) ho4 hrX.lt).2.2.2)
                    | (go_at_call 19; refine (hp2 _ hrX.drew).mono ?_; rintro e w4 ⟨rfl, ⟨k4, v4, hl4⟩, ho4⟩))
                · obtain ⟨wY, hXd⟩ : ∃ W, W = w4.alloc (.cells #[.int .i64 K, .int .i64 V] 38) := ⟨_, rfl⟩
                  have wY1 : ∃ k4 v4, Rp wY c s2 k4 v4 := by rw [hXd]; exact ⟨k4, v4, hl4.alloc _⟩
                  have wY2 : Oth c wX wY := by rw [hXd]; exact (((Oth.refl _ _).drew).trans ho4).alloc _
                  have wY3 : wY.cell? ⟨w4.heap.size, 0, none⟩ = some (.int .i64 K) := by rw [hXd, World.cell?_alloc_at _ _ _ _ rfl]; rfl
                  have wY4 : wY.cell? ⟨w4.heap.size, 1, none⟩ = some (.int .i64 V) := by rw [hXd, World.cell?_alloc_at _ _ _ _ rfl]; rfl
                  rw [← hXd]
                  have hs4 : wX.heap.size ≤ w4.heap.size := ho4.size
                  obtain ⟨m2, hmd⟩ : ∃ m, m = w4.heap.size := ⟨_, rfl⟩
                  rw [← hmd] at wY3 wY4 ⊢
                  have hm2 : wX.heap.size ≤ m2 := by omega
                  clear hXd ho4 hmd hs4 hl4
                  have HBY := Kp.mk ((HBt.out.trans (wX2.below hbw HBt.out.size)).trans (wY2.below hcw (Nat.le_trans HBt.out.size wX2.size)))
                  have hY1 := wY2.lp wX1 (by omega)
                  obtain ⟨k4, v4, hR4⟩ := wY1
                  have hmX := World.block_lt_of_cell? wX _ wX3
                  have hmX : m < wX.heap.size := hmX
                  have wX3 := (wY2.cell (p := ⟨m, 0, none⟩) hmX (by show m ≠ c; have := hr.lt; omega)).trans wX3
                  have wX4 := (wY2.cell (p := ⟨m, 1, none⟩) hmX (by show m ≠ c; have := hr.lt; omega)).trans wX4
                  have q1 := state_any b s2 wY hY1
                  have q2 := rlstate_any c s2 k4 v4 wY hR4
                  have q3 := freq_any b s2 wY hY1
                  have q4 := rlfreq_any c s2 k4 v4 wY hR4
                  have q5 := phase_any b s2 wY hY1
                  have q6 := rlphase_any c s2 k4 v4 wY hR4
                  have HY := Kp.mk (And.intro hY1 hR4)
                  clear hp hp2 hl hr wX1 wX2 wY2 hY1 hR4 l1 l2 l3 y1 y2 y3 hm hm2
                  generalize s2.st = z1 at *
                  generalize s2.fr = z2 at *
                  generalize s2.ph = z3 at *
                  as_aux_lemma =>
                    go_wp2_with (first | (go_at_call 20; refine q1.mono ?_; rintro e w' ⟨rfl, rfl⟩) | (go_at_call 21; refine q2.mono ?_; rintro e w' ⟨rfl, rfl⟩) | (go_at_call 22; refine q3.mono ?_; rintro e w' ⟨rfl, rfl⟩) | (go_at_call 23; refine q4.mono ?_; rintro e w' ⟨rfl, rfl⟩) | (go_at_call 24; refine q5.mono ?_; rintro e w' ⟨rfl, rfl⟩) | (go_at_call 25; refine q6.mono ?_; rintro e w' ⟨rfl, rfl⟩) | fail)
                    go_roundw
                    case rel => exact ⟨k + 1, s2, k4, v4, by omega, by go_num, ok2, HY.out.1, HY.out.2, HBY.out⟩
                    case measure => simp [intOf]; omega
                · obtain ⟨wY, hXd⟩ : ∃ W, W = (w4.setCell ⟨wX.heap.size, 0, none⟩ (.int .i64 K)).setCell ⟨wX.heap.size, 1, none⟩ (.int .i64 V) := ⟨_, rfl⟩
                  have hbm : c ≠ wX.heap.size := by have := hrX.lt; omega
                  have wY1 : ∃ k4 v4, Rp wY c s2 k4 v4 := by rw [hXd]; exact ⟨k4, v4, (hl4.setOther hbm _).setOther hbm _⟩
                  have wY2 : Oth c wX wY := by rw [hXd]; exact (((((Oth.refl _ _).drew).alloc _).trans ho4).setNew (by exact Nat.le_refl _) _).setNew (by exact Nat.le_refl _) _
                  have wY3 : wY.cell? ⟨wX.heap.size, 0, none⟩ = some (.int .i64 K) := by rw [hXd]; simp [go_sem, g0, g1]
                  have wY4 : wY.cell? ⟨wX.heap.size, 1, none⟩ = some (.int .i64 V) := by rw [hXd]; simp [go_sem, g0, g1]
                  rw [← hXd]
                  obtain ⟨m2, hmd⟩ : ∃ m, m = wX.heap.size := ⟨_, rfl⟩
                  rw [← hmd] at wY3 wY4 ⊢
                  have hm2 : wX.heap.size ≤ m2 := by omega
                  clear hXd ho4 g0 g1 g2 g3 hbm hmd hl4
                  have HBY := Kp.mk ((HBt.out.trans (wX2.below hbw HBt.out.size)).trans (wY2.below hcw (Nat.le_trans HBt.out.size wX2.size)))
                  have hY1 := wY2.lp wX1 (by omega)
                  obtain ⟨k4, v4, hR4⟩ := wY1
                  have hmX := World.block_lt_of_cell? wX _ wX3
                  have hmX : m < wX.heap.size := hmX
                  have wX3 := (wY2.cell (p := ⟨m, 0, none⟩) hmX (by show m ≠ c; have := hr.lt; omega)).trans wX3
                  have wX4 := (wY2.cell (p := ⟨m, 1, none⟩) hmX (by show m ≠ c; have := hr.lt; omega)).trans wX4
                  have q1 := state_any b s2 wY hY1
                  have q2 := rlstate_any c s2 k4 v4 wY hR4
                  have q3 := freq_any b s2 wY hY1
                  have q4 := rlfreq_any c s2 k4 v4 wY hR4
                  have q5 := phase_any b s2 wY hY1
                  have q6 := rlphase_any c s2 k4 v4 wY hR4
                  have HY := Kp.mk (And.intro hY1 hR4)
                  clear hp hp2 hl hr wX1 wX2 wY2 hY1 hR4 l1 l2 l3 y1 y2 y3 hm hm2
                  generalize s2.st = z1 at *
                  generalize s2.fr = z2 at *
                  generalize s2.ph = z3 at *
                  as_aux_lemma =>
                    go_wp2_with (first | (go_at_call 20; refine q1.mono ?_; rintro e w' ⟨rfl, rfl⟩) | (go_at_call 21; refine q2.mono ?_; rintro e w' ⟨rfl, rfl⟩) | (go_at_call 22; refine q3.mono ?_; rintro e w' ⟨rfl, rfl⟩) | (go_at_call 23; refine q4.mono ?_; rintro e w' ⟨rfl, rfl⟩) | (go_at_call 24; refine q5.mono ?_; rintro e w' ⟨rfl, rfl⟩) | (go_at_call 25; refine q6.mono ?_; rintro e w' ⟨rfl, rfl⟩) | fail)
                    go_roundw
                    case rel => exact ⟨k + 1, s2, k4, v4, by omega, by go_num, ok2, HY.out.1, HY.out.2, HBY.out⟩
                    case measure => simp [intOf]; omega
        · clear hl hr
          obtain rfl : k = len := by omega
          go_wp2_with fail
          refine (awake_any _ (HC.out.below HB.out HC.out.pos)).mono ?_
          rintro e wE ⟨rfl, hb⟩
          have HE2 := Kp.mk (Below.then HB.out HB.out.size hb)
          clear hb
          go_wp2_with fail
          go_ret
          exact ⟨by simp, HE2.out⟩
    · have t0 : decide ((len : Int) ≤ 60) = false := by simp; omega
      have fw := few_any a len cap w2
      rw [t0] at fw
      go_wp2_with fail
      refine fw.mono ?_
      rintro e w' ⟨rfl, rfl⟩
      clear fw
      go_wp2_with fail
      refine (awake_any _ (HC.out.below HB2.out HC.out.pos)).mono ?_
      rintro e wE ⟨rfl, hb⟩
      have HE2 := Kp.mk (Below.then HB2.out HB2.out.size hb)
      clear hb
      go_wp2_with fail
      go_ret
      exact ⟨by simp, HE2.out⟩
  · have p1 := fun w => new_bad mn mx sa so li hok w
    have p2 := fun w => rnew_bad mn mx sa so li hok w
    have HC := Kp.mk hc
    clear hc hS
    go_enter Tryd.func4, Tryd.ntmps4
    go_wp2_with fail
    have HX : Below w.heap.size w (w.alloc (.cells #[.int .i64 mn, .int .i64 mx, .int .i64 sa, .int .i64 so, .int .i64 li] 23)).drew := ((Below.refl _ _).alloc (Nat.le_refl _) _).drew
    go_region_held3 (fun w' => w.heap.size < w'.heap.size ∧ w'.cell? ⟨w.heap.size, 0, none⟩ = some (.int .i64 mn) ∧ w'.cell? ⟨w.heap.size, 1, none⟩ = some (.int .i64 mx) ∧ w'.cell? ⟨w.heap.size, 2, none⟩ = some (.int .i64 sa) ∧ w'.cell? ⟨w.heap.size, 3, none⟩ = some (.int .i64 so) ∧ w'.cell? ⟨w.heap.size, 4, none⟩ = some (.int .i64 li)) (first | exact keep5 (by assumption) hb1 | exact keep5 (by assumption) hb2 | go_keep)
      (first | (go_at_call 12; refine (p1 _).mono ?_; rintro e w1 ⟨rfl, hb1⟩) | (go_at_call 14; refine (p2 _).mono ?_; rintro e w2 ⟨rfl, hb2⟩))
    have HB2 := Kp.mk (Below.then (Below.then HX HX.size hb1) (Below.then HX HX.size hb1).size hb2)
    clear HX hb1 hb2 p1 p2
    go_wp2_with fail
    refine (awake_any _ (HC.out.below HB2.out HC.out.pos)).mono ?_
    rintro e wE ⟨rfl, hb⟩
    have HE2 := Kp.mk (Below.then HB2.out HB2.out.size hb)
    clear hb
    go_wp2_with fail
    go_ret
    exact ⟨by simp, HE2.out⟩
theorem runs_walk (mn mx sa so li : Int) (a : Option Addr) (len cap : Nat) (T A O P : Nat → Int) (w : World) (_ : I64 mn) (_ : I64 mx) (_ : I64 sa) (_ : I64 so) (_ : I64 li) (hS : StepRow w a len T A O P) (hc : ConfAt w) : Calls Tryd.prog 4 #[.agg #[.int .i64 mn, .int .i64 mx, .int .i64 sa, .int .i64 so, .int .i64 li], .slice a len cap] w fun x w' => x = .returned (.bool true) ∧ Below w.heap.size w w' := runs_any mn mx sa so li a len cap T A O P w hS hc
end Go.Proofs.YtbfobodaeimklaaDoor
