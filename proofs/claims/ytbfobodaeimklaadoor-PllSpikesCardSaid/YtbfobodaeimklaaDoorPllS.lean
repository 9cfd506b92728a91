/-
  The walk of PllSpikes: whatever the configuration and the updates, it returns true, and what was there is as it was.
-/
import Derived.Test.YtbfobodaeimklaaDoorPllH
import Derived.Deep.RegionHeld3
import Derived.Deep.LoopGhost
set_option linter.unusedSimpArgs false
set_option linter.unusedVariables false
namespace Go.Proofs.YtbfobodaeimklaaDoor
open Go.RowKit
set_option maxRecDepth 4000 in
set_option maxHeartbeats 8000000 in
theorem spikes_any (mn mx sa so li : Int) (a : Option Addr) (len cap : Nat) (T A O P : Nat → Int) (w : World) (hS : StepRow w a len T A O P) (hc : ConfAt w) : Calls Tryd.prog 7 #[.agg #[.int .i64 mn, .int .i64 mx, .int .i64 sa, .int .i64 so, .int .i64 li], .slice a len cap] w fun x w' => x = .returned (.bool true) ∧ Below w.heap.size w w' := by
  by_cases hok : chkF mn mx sa so li = 0
  · have p1 := fun w => new_good mn mx sa so li hok w
    have HC := Kp.mk hc
    have HS := Kp.mk hS
    clear hc hS
    go_enter Tryd.func7, Tryd.ntmps7
    go_wp2_with fail
    refine (p1 _).mono ?_
    rintro e w1 ⟨b, rfl, hb, hl, hb1⟩
    have hE := Env.start hb1 hb hl
    clear hb hb1 p1
    by_cases h60 : len ≤ 60
    · have t0 : decide ((len : Int) ≤ 60) = true := by simp; omega
      have fw := few_any a len cap w1
      rw [t0] at fw
      have HE := Kp.mk hE
      have HL := Kp.mk hl
      obtain ⟨_, _, _, c0, c1, c2, c3, c4⟩ := hE
      go_wp2_with fail
      refine fw.mono ?_
      rintro e w' ⟨rfl, rfl⟩
      clear fw
      go_wp2_with fail
      clear c0 c1 c2 c3 c4 hl
      go_loopw [6, 7] (fun bv i wr => ∃ (k : Nat) (s : LS) (B : Int), k ≤ len ∧ i = .int .i64 k ∧ bv = .int .i64 B ∧ s.Ok ∧ Lp wr b s ∧ Env w wr b mn mx sa so li ∧ s.sa = sa ∧ s.so = so ∧ (s.st = 2 → B = s.sp) ∧ 0 ≤ B ∧ B ≤ 1073741824) (fun _ i _ => len - (intOf i).toNat)
      case atStart => exact ⟨0, _, 0, Nat.zero_le _, rfl, rfl, new_ok hok, HL.out, HE.out, rfl, rfl, by simp [LS.new], by omega, by omega⟩
      case round =>
        obtain ⟨k, s, B, hk, rfl, rfl, ok, hl, hE, hsa, hso, hB0, hB1, hB2⟩ := hrel
        have HEr := Kp.mk hE
        clear hE
        by_cases hlt : k < len
        · have t1 : decide ((k : Int) < (len : Int)) = true := by simp; omega
          have kz : (0 : Int) ≤ (k : Int) := by omega
          have kl : (k : Int) < (len : Int) := by omega
          obtain ⟨rb, off, rfl, hrb, l0, l1, l2, l3⟩ := HS.out.at HEr.out.below hlt
          have hne : rb ≠ b := by have := HEr.out.hb; omega
          have hrw : rb < wr.heap.size := Nat.lt_of_lt_of_le hrb HEr.out.below.size
          have hp := fun W hW => upd_any b s (A k) (O k) (P k) W hW ok
          have hU := upd_is s (A k) (O k) (P k) ok
          have ok2 := upd_ok s (A k) (O k) (P k) ok
          have st0 := state_any b s wr hl
          have fq0 := freq_any b s wr hl
          have pv0 := phase_any b s wr hl
          generalize updF s (A k) (O k) (P k) = r at *
          obtain ⟨s2, ⟨K, V⟩, E⟩ := r
          unfold upv act at hp
          simp only at hp hU ok2
          generalize A k = A at *
          generalize O k = O at *
          generalize P k = Q at *
          go_wp2_with fail
          refine st0.mono ?_
          rintro e w' ⟨rfl, rfl⟩
          go_wp2_with fail
          refine fq0.mono ?_
          rintro e w' ⟨rfl, rfl⟩
          go_wp2_with fail
          refine pv0.mono ?_
          rintro e w' ⟨rfl, rfl⟩
          clear st0 fq0 pv0
          go_wp2_with fail
          go_region_held3 (fun w' => rb < w'.heap.size ∧ w'.cell? ⟨rb, off + k * 4 + 1, none⟩ = some (.int .i64 A) ∧ w'.cell? ⟨rb, off + k * 4 + 2, none⟩ = some (.int .i64 O) ∧ w'.cell? ⟨rb, off + k * 4 + 3, none⟩ = some (.int .i64 Q)) (first | exact RowS.oth (by assumption) ho4 hne | exact RowS.alloc _ (by assumption) | exact RowS.again _ _ (Nat.lt_of_lt_of_le hrw ho4.size) (by assumption) | exact RowS.oth (k := wr.heap.size) (by assumption) (((Oth.refl _ _).setCell (by rfl) _).setCell (by rfl) _) (by omega) | go_keep)
            (first
              | (go_at_call 18; refine (hp _ (hl.drew.alloc _)).mono ?_; rintro e w4 ⟨rfl, hl4, ho4⟩; have g0 : w4.cell? ⟨wr.heap.size, 0, none⟩ = _ := (one_new (W := wr.drew) ho4 hl.lt).1; have g1 : w4.cell? ⟨wr.heap.size, 1, none⟩ = _ := (one_new (W := wr.drew) ho4 hl.lt).2.1; have g2 : w4.frozen? ⟨wr.heap.size, 0, none⟩ = false := (one_new (W := wr.drew) ho4 hl.lt).2.2.1; have g3 : w4.frozen? ⟨wr.heap.size, 1, none⟩ = false := (one_new (W := wr.drew) ho4 hl.lt).2.2.2)
              | (go_at_call 18; refine (hp _ hl.drew).mono ?_; rintro e w4 ⟨rfl, hl4, ho4⟩))
          · obtain ⟨wX, hXd⟩ : ∃ W, W = w4.alloc (.cells #[.int .i64 K, .int .i64 V] 38) := ⟨_, rfl⟩
            have x1 : Lp wX b s2 := by rw [hXd]; exact hl4.alloc _
            have x2 : Oth b wr wX := by rw [hXd]; exact (((Oth.refl _ _).drew).trans ho4).alloc _
            have x3 : wX.cell? ⟨w4.heap.size, 0, none⟩ = some (.int .i64 K) := by rw [hXd, World.cell?_alloc_at _ _ _ _ rfl]; rfl
            have x4 : wX.cell? ⟨w4.heap.size, 1, none⟩ = some (.int .i64 V) := by rw [hXd, World.cell?_alloc_at _ _ _ _ rfl]; rfl
            rw [← hXd]
            have hm : b < w4.heap.size := hl4.lt
            clear hXd ho4
            generalize w4.heap.size = m at *
            have hEX := HEr.out.oth x2
            have c2 := hEX.c2
            have c3 := hEX.c3
            have hA2 := ok2.la2
            have cA := (x2.cell (p := ⟨rb, off + k * 4 + 1, none⟩) hrw hne).trans l1
            have cO := (x2.cell (p := ⟨rb, off + k * 4 + 2, none⟩) hrw hne).trans l2
            have hrX := Nat.lt_of_lt_of_le hrw x2.size
            have e3 : wrap64 (-sa) = -sa := by have := ok.sa1; have := ok.sa2; unfold wrap64; omega
            clear l0 l1 l2 l3 hl hp hl4 x2
            rcases (show sa ≤ O ∨ (¬ sa ≤ O ∧ O ≤ -sa) ∨ (¬ sa ≤ O ∧ ¬ O ≤ -sa) by omega) with hd | hd | hd
            · have d1 : decide (sa ≤ O) = true := by simpa using hd
              go_wp2_with fail
              go_quiet (fail)
              rename_i nq
              have x1 := x1.drewN nq
              have hEX := hEX.oth ((Oth.refl _ _).drewN nq)
              have cA : (wX.drewN nq).cell? ⟨rb, off + k * 4 + 1, none⟩ = some (.int .i64 A) := cA
              have hrX : rb < (wX.drewN nq).heap.size := hrX
              have x3 : (wX.drewN nq).cell? ⟨m, 0, none⟩ = some (.int .i64 K) := x3
              have x4 : (wX.drewN nq).cell? ⟨m, 1, none⟩ = some (.int .i64 V) := x4
              generalize wX.drewN nq = wY at *
              have HX := Kp.mk (And.intro x1 (And.intro hEX ok2))
              have c2 := hEX.c2
              have c3 := hEX.c3
              have st := fun n => state_any b s2 (wY.drewN n) (x1.drewN n)
              have fq := fun n => freq_any b s2 (wY.drewN n) (x1.drewN n)
              have pv := fun n => phase_any b s2 (wY.drewN n) (x1.drewN n)
              clear x1 hEX ok2
              cases hU with
              | err e he =>
                as_aux_lemma =>
                have q1 : (E != 0) = true := by rcases he with h | ⟨h, _⟩ <;> rw [h] <;> decide
                go_wp2_with fail
                go_roundw
                case rel => exact ⟨k + 1, _, B, by omega, by go_num, rfl, HX.out.2.2, HX.out.1, HX.out.2.1, hsa, hso, hB0, by omega, by omega⟩
                case measure => simp [intOf]; omega
              | skip h1 h2 =>
                as_aux_lemma =>
                have q2 : (s.st != 3) = true := by simp [h1]
                have q3 : (s.st != 2) = true := by simp [h1]
                go_wp2_with fail
                go_roundw
                case rel => exact ⟨k + 1, _, B, by omega, by go_num, rfl, HX.out.2.2, HX.out.1, HX.out.2.1, hsa, hso, fun h => by simp [h1] at h, by omega, by omega⟩
                case measure => simp [intOf]; omega
              | l0 h h0 h1 =>
                as_aux_lemma =>
                have q2 : (s.st != 3) = true := by simp [h1]
                have q3 : (s.st != 2) = true := by simp [h1]
                go_wp2_with fail
                go_roundw
                case rel => exact ⟨k + 1, _, B, by omega, by go_num, rfl, HX.out.2.2, HX.out.1, HX.out.2.1, hsa, hso, fun h => by simp at h, by omega, by omega⟩
                case measure => simp [intOf]; omega
              | l1 f h h0 h1 h2 =>
                as_aux_lemma =>
                have q2 : (s.st != 3) = true := by simp [h1]
                have q3 : (s.st != 2) = true := by simp [h1]
                go_wp2_with fail
                go_roundw
                case rel => exact ⟨k + 1, _, B, by omega, by go_num, rfl, HX.out.2.2, HX.out.1, HX.out.2.1, hsa, hso, fun h => by simp at h, by omega, by omega⟩
                case measure => simp [intOf]; omega
              | l3 h h0 h1 =>
                as_aux_lemma =>
                simp only at st fq pv hA2
                rw [h1]

                go_wp2_with fail
                go_quiet (fail)
                have x1 := HX.out.1.drewN nq
                have hEX := HX.out.2.1.oth ((Oth.refl _ _).drewN nq)
                have hok2 := HX.out.2.2
                clear HX st fq pv cA hrX c2 c3
                have x3 : (wY.drewN nq).cell? ⟨m, 0, none⟩ = _ := x3
                have x4 : (wY.drewN nq).cell? ⟨m, 1, none⟩ = _ := x4
                generalize wY.drewN nq = wZ at *
                have HX := Kp.mk (And.intro x1 (And.intro hEX hok2))
                have st := state_any b _ wZ x1
                have fq := freq_any b _ wZ x1
                have pv := phase_any b _ wZ x1
                simp only at st fq pv
                clear x1 hEX hok2
                go_wp2_with (first | (go_at_call 20; refine st.mono ?_; rintro e w' ⟨rfl, rfl⟩) | (go_at_call 22; refine fq.mono ?_; rintro e w' ⟨rfl, rfl⟩) | (go_at_call 24; refine pv.mono ?_; rintro e w' ⟨rfl, rfl⟩) | fail)
                go_roundw
                case rel => exact ⟨k + 1, _, A, by omega, by go_num, rfl, HX.out.2.2, HX.out.1, HX.out.2.1, hsa, hso, fun _ => rfl, by omega, by omega⟩
                case measure => simp [intOf]; omega
              | l2 h h0 h1 h2 =>
                as_aux_lemma =>
                simp only at st fq pv hA2
                rw [h1]
                obtain rfl := hB0 h1
                have e4 : wrap64 (A - s.sp) = A - s.sp := by unfold wrap64; omega
                have d3 : decide (so ≤ A - s.sp) = false := by simp; omega
                go_wp2_with fail
                go_quiet (fail)
                have x1 := HX.out.1.drewN nq
                have hEX := HX.out.2.1.oth ((Oth.refl _ _).drewN nq)
                have hok2 := HX.out.2.2
                clear HX st fq pv cA hrX c2 c3
                have x3 : (wY.drewN nq).cell? ⟨m, 0, none⟩ = _ := x3
                have x4 : (wY.drewN nq).cell? ⟨m, 1, none⟩ = _ := x4
                generalize wY.drewN nq = wZ at *
                have HX := Kp.mk (And.intro x1 (And.intro hEX hok2))
                have st := state_any b _ wZ x1
                have fq := freq_any b _ wZ x1
                have pv := phase_any b _ wZ x1
                simp only at st fq pv
                rw [h1] at st
                clear x1 hEX hok2
                go_wp2_with (first | (go_at_call 20; refine st.mono ?_; rintro e w' ⟨rfl, rfl⟩) | (go_at_call 22; refine fq.mono ?_; rintro e w' ⟨rfl, rfl⟩) | (go_at_call 24; refine pv.mono ?_; rintro e w' ⟨rfl, rfl⟩) | fail)
                go_roundw
                case rel => exact ⟨k + 1, _, s.sp, by omega, by go_num, rfl, HX.out.2.2, HX.out.1, HX.out.2.1, hsa, hso, fun _ => rfl, by omega, by omega⟩
                case measure => simp [intOf]; omega
              | due h h0 h1 h2 =>
                as_aux_lemma =>
                simp only at st fq pv hA2
                rw [h1]
                obtain rfl := hB0 h1
                have e4 : wrap64 (A - s.sp) = A - s.sp := by unfold wrap64; omega
                have d3 : decide (so ≤ A - s.sp) = true := by simp; omega
                go_wp2_with fail
                go_quiet (fail)
                have x1 := HX.out.1.drewN nq
                have hEX := HX.out.2.1.oth ((Oth.refl _ _).drewN nq)
                have hok2 := HX.out.2.2
                clear HX st fq pv cA hrX c2 c3
                have x3 : (wY.drewN nq).cell? ⟨m, 0, none⟩ = _ := x3
                have x4 : (wY.drewN nq).cell? ⟨m, 1, none⟩ = _ := x4
                generalize wY.drewN nq = wZ at *
                have HX := Kp.mk (And.intro x1 (And.intro hEX hok2))
                have st := state_any b _ wZ x1
                have fq := freq_any b _ wZ x1
                have pv := phase_any b _ wZ x1
                simp only at st fq pv
                clear x1 hEX hok2
                go_wp2_with (first | (go_at_call 20; refine st.mono ?_; rintro e w' ⟨rfl, rfl⟩) | (go_at_call 22; refine fq.mono ?_; rintro e w' ⟨rfl, rfl⟩) | (go_at_call 24; refine pv.mono ?_; rintro e w' ⟨rfl, rfl⟩) | fail)
                go_roundw
                case rel => exact ⟨k + 1, _, s.sp, by omega, by go_num, rfl, HX.out.2.2, HX.out.1, HX.out.2.1, hsa, hso, fun h => by simp at h, by omega, by omega⟩
                case measure => simp [intOf]; omega
              | s0 h h0 h1 => exfalso; omega
              | s1 f h h0 h1 h2 => exfalso; omega
              | s3 f h h0 h1 => exfalso; omega
            · have d1 : decide (sa ≤ O) = false := by simpa using hd.1
              have d2 : decide (O ≤ -sa) = true := by simpa using hd.2
              go_wp2_with fail
              go_quiet (fail)
              rename_i nq
              have x1 := x1.drewN nq
              have hEX := hEX.oth ((Oth.refl _ _).drewN nq)
              have cA : (wX.drewN nq).cell? ⟨rb, off + k * 4 + 1, none⟩ = some (.int .i64 A) := cA
              have hrX : rb < (wX.drewN nq).heap.size := hrX
              have x3 : (wX.drewN nq).cell? ⟨m, 0, none⟩ = some (.int .i64 K) := x3
              have x4 : (wX.drewN nq).cell? ⟨m, 1, none⟩ = some (.int .i64 V) := x4
              generalize wX.drewN nq = wY at *
              have HX := Kp.mk (And.intro x1 (And.intro hEX ok2))
              have c2 := hEX.c2
              have c3 := hEX.c3
              have st := fun n => state_any b s2 (wY.drewN n) (x1.drewN n)
              have fq := fun n => freq_any b s2 (wY.drewN n) (x1.drewN n)
              have pv := fun n => phase_any b s2 (wY.drewN n) (x1.drewN n)
              clear x1 hEX ok2
              cases hU with
              | err e he =>
                as_aux_lemma =>
                have q1 : (E != 0) = true := by rcases he with h | ⟨h, _⟩ <;> rw [h] <;> decide
                go_wp2_with fail
                go_roundw
                case rel => exact ⟨k + 1, _, B, by omega, by go_num, rfl, HX.out.2.2, HX.out.1, HX.out.2.1, hsa, hso, hB0, by omega, by omega⟩
                case measure => simp [intOf]; omega
              | skip h1 h2 =>
                as_aux_lemma =>
                have q2 : (s.st != 3) = true := by simp [h1]
                have q3 : (s.st != 2) = true := by simp [h1]
                go_wp2_with fail
                go_roundw
                case rel => exact ⟨k + 1, _, B, by omega, by go_num, rfl, HX.out.2.2, HX.out.1, HX.out.2.1, hsa, hso, fun h => by simp [h1] at h, by omega, by omega⟩
                case measure => simp [intOf]; omega
              | l0 h h0 h1 =>
                as_aux_lemma =>
                have q2 : (s.st != 3) = true := by simp [h1]
                have q3 : (s.st != 2) = true := by simp [h1]
                go_wp2_with fail
                go_roundw
                case rel => exact ⟨k + 1, _, B, by omega, by go_num, rfl, HX.out.2.2, HX.out.1, HX.out.2.1, hsa, hso, fun h => by simp at h, by omega, by omega⟩
                case measure => simp [intOf]; omega
              | l1 f h h0 h1 h2 =>
                as_aux_lemma =>
                have q2 : (s.st != 3) = true := by simp [h1]
                have q3 : (s.st != 2) = true := by simp [h1]
                go_wp2_with fail
                go_roundw
                case rel => exact ⟨k + 1, _, B, by omega, by go_num, rfl, HX.out.2.2, HX.out.1, HX.out.2.1, hsa, hso, fun h => by simp at h, by omega, by omega⟩
                case measure => simp [intOf]; omega
              | l3 h h0 h1 =>
                as_aux_lemma =>
                simp only at st fq pv hA2
                rw [h1]

                go_wp2_with fail
                go_quiet (fail)
                have x1 := HX.out.1.drewN nq
                have hEX := HX.out.2.1.oth ((Oth.refl _ _).drewN nq)
                have hok2 := HX.out.2.2
                clear HX st fq pv cA hrX c2 c3
                have x3 : (wY.drewN nq).cell? ⟨m, 0, none⟩ = _ := x3
                have x4 : (wY.drewN nq).cell? ⟨m, 1, none⟩ = _ := x4
                generalize wY.drewN nq = wZ at *
                have HX := Kp.mk (And.intro x1 (And.intro hEX hok2))
                have st := state_any b _ wZ x1
                have fq := freq_any b _ wZ x1
                have pv := phase_any b _ wZ x1
                simp only at st fq pv
                clear x1 hEX hok2
                go_wp2_with (first | (go_at_call 20; refine st.mono ?_; rintro e w' ⟨rfl, rfl⟩) | (go_at_call 22; refine fq.mono ?_; rintro e w' ⟨rfl, rfl⟩) | (go_at_call 24; refine pv.mono ?_; rintro e w' ⟨rfl, rfl⟩) | fail)
                go_roundw
                case rel => exact ⟨k + 1, _, A, by omega, by go_num, rfl, HX.out.2.2, HX.out.1, HX.out.2.1, hsa, hso, fun _ => rfl, by omega, by omega⟩
                case measure => simp [intOf]; omega
              | l2 h h0 h1 h2 =>
                as_aux_lemma =>
                simp only at st fq pv hA2
                rw [h1]
                obtain rfl := hB0 h1
                have e4 : wrap64 (A - s.sp) = A - s.sp := by unfold wrap64; omega
                have d3 : decide (so ≤ A - s.sp) = false := by simp; omega
                go_wp2_with fail
                go_quiet (fail)
                have x1 := HX.out.1.drewN nq
                have hEX := HX.out.2.1.oth ((Oth.refl _ _).drewN nq)
                have hok2 := HX.out.2.2
                clear HX st fq pv cA hrX c2 c3
                have x3 : (wY.drewN nq).cell? ⟨m, 0, none⟩ = _ := x3
                have x4 : (wY.drewN nq).cell? ⟨m, 1, none⟩ = _ := x4
                generalize wY.drewN nq = wZ at *
                have HX := Kp.mk (And.intro x1 (And.intro hEX hok2))
                have st := state_any b _ wZ x1
                have fq := freq_any b _ wZ x1
                have pv := phase_any b _ wZ x1
                simp only at st fq pv
                rw [h1] at st
                clear x1 hEX hok2
                go_wp2_with (first | (go_at_call 20; refine st.mono ?_; rintro e w' ⟨rfl, rfl⟩) | (go_at_call 22; refine fq.mono ?_; rintro e w' ⟨rfl, rfl⟩) | (go_at_call 24; refine pv.mono ?_; rintro e w' ⟨rfl, rfl⟩) | fail)
                go_roundw
                case rel => exact ⟨k + 1, _, s.sp, by omega, by go_num, rfl, HX.out.2.2, HX.out.1, HX.out.2.1, hsa, hso, fun _ => rfl, by omega, by omega⟩
                case measure => simp [intOf]; omega
              | due h h0 h1 h2 =>
                as_aux_lemma =>
                simp only at st fq pv hA2
                rw [h1]
                obtain rfl := hB0 h1
                have e4 : wrap64 (A - s.sp) = A - s.sp := by unfold wrap64; omega
                have d3 : decide (so ≤ A - s.sp) = true := by simp; omega
                go_wp2_with fail
                go_quiet (fail)
                have x1 := HX.out.1.drewN nq
                have hEX := HX.out.2.1.oth ((Oth.refl _ _).drewN nq)
                have hok2 := HX.out.2.2
                clear HX st fq pv cA hrX c2 c3
                have x3 : (wY.drewN nq).cell? ⟨m, 0, none⟩ = _ := x3
                have x4 : (wY.drewN nq).cell? ⟨m, 1, none⟩ = _ := x4
                generalize wY.drewN nq = wZ at *
                have HX := Kp.mk (And.intro x1 (And.intro hEX hok2))
                have st := state_any b _ wZ x1
                have fq := freq_any b _ wZ x1
                have pv := phase_any b _ wZ x1
                simp only at st fq pv
                clear x1 hEX hok2
                go_wp2_with (first | (go_at_call 20; refine st.mono ?_; rintro e w' ⟨rfl, rfl⟩) | (go_at_call 22; refine fq.mono ?_; rintro e w' ⟨rfl, rfl⟩) | (go_at_call 24; refine pv.mono ?_; rintro e w' ⟨rfl, rfl⟩) | fail)
                go_roundw
                case rel => exact ⟨k + 1, _, s.sp, by omega, by go_num, rfl, HX.out.2.2, HX.out.1, HX.out.2.1, hsa, hso, fun h => by simp at h, by omega, by omega⟩
                case measure => simp [intOf]; omega
              | s0 h h0 h1 => exfalso; omega
              | s1 f h h0 h1 h2 => exfalso; omega
              | s3 f h h0 h1 => exfalso; omega
            · have d1 : decide (sa ≤ O) = false := by simpa using hd.1
              have d2 : decide (O ≤ -sa) = false := by simpa using hd.2
              go_wp2_with fail
              go_quiet (fail)
              rename_i nq
              have x1 := x1.drewN nq
              have hEX := hEX.oth ((Oth.refl _ _).drewN nq)
              have cA : (wX.drewN nq).cell? ⟨rb, off + k * 4 + 1, none⟩ = some (.int .i64 A) := cA
              have hrX : rb < (wX.drewN nq).heap.size := hrX
              have x3 : (wX.drewN nq).cell? ⟨m, 0, none⟩ = some (.int .i64 K) := x3
              have x4 : (wX.drewN nq).cell? ⟨m, 1, none⟩ = some (.int .i64 V) := x4
              generalize wX.drewN nq = wY at *
              have HX := Kp.mk (And.intro x1 (And.intro hEX ok2))
              have c2 := hEX.c2
              have c3 := hEX.c3
              have st := fun n => state_any b s2 (wY.drewN n) (x1.drewN n)
              have fq := fun n => freq_any b s2 (wY.drewN n) (x1.drewN n)
              have pv := fun n => phase_any b s2 (wY.drewN n) (x1.drewN n)
              clear x1 hEX ok2
              cases hU with
              | err e he =>
                as_aux_lemma =>
                have q1 : (E != 0) = true := by rcases he with h | ⟨h, _⟩ <;> rw [h] <;> decide
                go_wp2_with fail
                go_roundw
                case rel => exact ⟨k + 1, _, B, by omega, by go_num, rfl, HX.out.2.2, HX.out.1, HX.out.2.1, hsa, hso, hB0, by omega, by omega⟩
                case measure => simp [intOf]; omega
              | skip h1 h2 =>
                as_aux_lemma =>
                have q2 : (s.st != 3) = true := by simp [h1]
                have q3 : (s.st != 2) = true := by simp [h1]
                go_wp2_with fail
                go_roundw
                case rel => exact ⟨k + 1, _, B, by omega, by go_num, rfl, HX.out.2.2, HX.out.1, HX.out.2.1, hsa, hso, fun h => by simp [h1] at h, by omega, by omega⟩
                case measure => simp [intOf]; omega
              | l0 h h0 h1 => exfalso; omega
              | l1 f h h0 h1 h2 => exfalso; omega
              | l3 h h0 h1 => exfalso; omega
              | l2 h h0 h1 h2 => exfalso; omega
              | due h h0 h1 h2 => exfalso; omega
              | s0 h h0 h1 =>
                as_aux_lemma =>
                go_wp2_with fail
                go_roundw
                case rel => exact ⟨k + 1, _, B, by omega, by go_num, rfl, HX.out.2.2, HX.out.1, HX.out.2.1, hsa, hso, fun h => by simp at h, by omega, by omega⟩
                case measure => simp [intOf]; omega
              | s1 f h h0 h1 h2 =>
                as_aux_lemma =>
                go_wp2_with fail
                go_roundw
                case rel => exact ⟨k + 1, _, B, by omega, by go_num, rfl, HX.out.2.2, HX.out.1, HX.out.2.1, hsa, hso, fun h => by simp at h, by omega, by omega⟩
                case measure => simp [intOf]; omega
              | s3 f h h0 h1 =>
                as_aux_lemma =>
                go_wp2_with fail
                go_roundw
                case rel => exact ⟨k + 1, _, B, by omega, by go_num, rfl, HX.out.2.2, HX.out.1, HX.out.2.1, hsa, hso, fun h => by simp at h, by omega, by omega⟩
                case measure => simp [intOf]; omega
          · obtain ⟨wX, hXd⟩ : ∃ W, W = (w4.setCell ⟨wr.heap.size, 0, none⟩ (.int .i64 K)).setCell ⟨wr.heap.size, 1, none⟩ (.int .i64 V) := ⟨_, rfl⟩
            have hm : b < wr.heap.size := hl.lt
            have hbm : b ≠ wr.heap.size := by omega
            have x1 : Lp wX b s2 := by rw [hXd]; exact (hl4.setOther hbm _).setOther hbm _
            have x2 : Oth b wr wX := by rw [hXd]; exact (((((Oth.refl _ _).drew).alloc _).trans ho4).setNew (by exact Nat.le_refl _) _).setNew (by exact Nat.le_refl _) _
            have x3 : wX.cell? ⟨wr.heap.size, 0, none⟩ = some (.int .i64 K) := by rw [hXd]; simp [go_sem, g0, g1]
            have x4 : wX.cell? ⟨wr.heap.size, 1, none⟩ = some (.int .i64 V) := by rw [hXd]; simp [go_sem, g0, g1]
            rw [← hXd]
            clear hXd ho4 g0 g1 g2 g3 hbm
            generalize wr.heap.size = m at x3 x4 hm ⊢
            have hEX := HEr.out.oth x2
            have c2 := hEX.c2
            have c3 := hEX.c3
            have hA2 := ok2.la2
            have cA := (x2.cell (p := ⟨rb, off + k * 4 + 1, none⟩) hrw hne).trans l1
            have cO := (x2.cell (p := ⟨rb, off + k * 4 + 2, none⟩) hrw hne).trans l2
            have hrX := Nat.lt_of_lt_of_le hrw x2.size
            have e3 : wrap64 (-sa) = -sa := by have := ok.sa1; have := ok.sa2; unfold wrap64; omega
            clear l0 l1 l2 l3 hl hp hl4 x2
            rcases (show sa ≤ O ∨ (¬ sa ≤ O ∧ O ≤ -sa) ∨ (¬ sa ≤ O ∧ ¬ O ≤ -sa) by omega) with hd | hd | hd
            · have d1 : decide (sa ≤ O) = true := by simpa using hd
              go_wp2_with fail
              go_quiet (fail)
              rename_i nq
              have x1 := x1.drewN nq
              have hEX := hEX.oth ((Oth.refl _ _).drewN nq)
              have cA : (wX.drewN nq).cell? ⟨rb, off + k * 4 + 1, none⟩ = some (.int .i64 A) := cA
              have hrX : rb < (wX.drewN nq).heap.size := hrX
              have x3 : (wX.drewN nq).cell? ⟨m, 0, none⟩ = some (.int .i64 K) := x3
              have x4 : (wX.drewN nq).cell? ⟨m, 1, none⟩ = some (.int .i64 V) := x4
              generalize wX.drewN nq = wY at *
              have HX := Kp.mk (And.intro x1 (And.intro hEX ok2))
              have c2 := hEX.c2
              have c3 := hEX.c3
              have st := fun n => state_any b s2 (wY.drewN n) (x1.drewN n)
              have fq := fun n => freq_any b s2 (wY.drewN n) (x1.drewN n)
              have pv := fun n => phase_any b s2 (wY.drewN n) (x1.drewN n)
              clear x1 hEX ok2
              cases hU with
              | err e he =>
                as_aux_lemma =>
                have q1 : (E != 0) = true := by rcases he with h | ⟨h, _⟩ <;> rw [h] <;> decide
                go_wp2_with fail
                go_roundw
                case rel => exact ⟨k + 1, _, B, by omega, by go_num, rfl, HX.out.2.2, HX.out.1, HX.out.2.1, hsa, hso, hB0, by omega, by omega⟩
                case measure => simp [intOf]; omega
              | skip h1 h2 =>
                as_aux_lemma =>
                have q2 : (s.st != 3) = true := by simp [h1]
                have q3 : (s.st != 2) = true := by simp [h1]
                go_wp2_with fail
                go_roundw
                case rel => exact ⟨k + 1, _, B, by omega, by go_num, rfl, HX.out.2.2, HX.out.1, HX.out.2.1, hsa, hso, fun h => by simp [h1] at h, by omega, by omega⟩
                case measure => simp [intOf]; omega
              | l0 h h0 h1 =>
                as_aux_lemma =>
                have q2 : (s.st != 3) = true := by simp [h1]
                have q3 : (s.st != 2) = true := by simp [h1]
                go_wp2_with fail
                go_roundw
                case rel => exact ⟨k + 1, _, B, by omega, by go_num, rfl, HX.out.2.2, HX.out.1, HX.out.2.1, hsa, hso, fun h => by simp at h, by omega, by omega⟩
                case measure => simp [intOf]; omega
              | l1 f h h0 h1 h2 =>
                as_aux_lemma =>
                have q2 : (s.st != 3) = true := by simp [h1]
                have q3 : (s.st != 2) = true := by simp [h1]
                go_wp2_with fail
                go_roundw
                case rel => exact ⟨k + 1, _, B, by omega, by go_num, rfl, HX.out.2.2, HX.out.1, HX.out.2.1, hsa, hso, fun h => by simp at h, by omega, by omega⟩
                case measure => simp [intOf]; omega
              | l3 h h0 h1 =>
                as_aux_lemma =>
                simp only at st fq pv hA2
                rw [h1]

                go_wp2_with fail
                go_quiet (fail)
                have x1 := HX.out.1.drewN nq
                have hEX := HX.out.2.1.oth ((Oth.refl _ _).drewN nq)
                have hok2 := HX.out.2.2
                clear HX st fq pv cA hrX c2 c3
                have x3 : (wY.drewN nq).cell? ⟨m, 0, none⟩ = _ := x3
                have x4 : (wY.drewN nq).cell? ⟨m, 1, none⟩ = _ := x4
                generalize wY.drewN nq = wZ at *
                have HX := Kp.mk (And.intro x1 (And.intro hEX hok2))
                have st := state_any b _ wZ x1
                have fq := freq_any b _ wZ x1
                have pv := phase_any b _ wZ x1
                simp only at st fq pv
                clear x1 hEX hok2
                go_wp2_with (first | (go_at_call 20; refine st.mono ?_; rintro e w' ⟨rfl, rfl⟩) | (go_at_call 22; refine fq.mono ?_; rintro e w' ⟨rfl, rfl⟩) | (go_at_call 24; refine pv.mono ?_; rintro e w' ⟨rfl, rfl⟩) | fail)
                go_roundw
                case rel => exact ⟨k + 1, _, A, by omega, by go_num, rfl, HX.out.2.2, HX.out.1, HX.out.2.1, hsa, hso, fun _ => rfl, by omega, by omega⟩
                case measure => simp [intOf]; omega
              | l2 h h0 h1 h2 =>
                as_aux_lemma =>
                simp only at st fq pv hA2
                rw [h1]
                obtain rfl := hB0 h1
                have e4 : wrap64 (A - s.sp) = A - s.sp := by unfold wrap64; omega
                have d3 : decide (so ≤ A - s.sp) = false := by simp; omega
                go_wp2_with fail
                go_quiet (fail)
                have x1 := HX.out.1.drewN nq
                have hEX := HX.out.2.1.oth ((Oth.refl _ _).drewN nq)
                have hok2 := HX.out.2.2
                clear HX st fq pv cA hrX c2 c3
                have x3 : (wY.drewN nq).cell? ⟨m, 0, none⟩ = _ := x3
                have x4 : (wY.drewN nq).cell? ⟨m, 1, none⟩ = _ := x4
                generalize wY.drewN nq = wZ at *
                have HX := Kp.mk (And.intro x1 (And.intro hEX hok2))
                have st := state_any b _ wZ x1
                have fq := freq_any b _ wZ x1
                have pv := phase_any b _ wZ x1
                simp only at st fq pv
                rw [h1] at st
                clear x1 hEX hok2
                go_wp2_with (first | (go_at_call 20; refine st.mono ?_; rintro e w' ⟨rfl, rfl⟩) | (go_at_call 22; refine fq.mono ?_; rintro e w' ⟨rfl, rfl⟩) | (go_at_call 24; refine pv.mono ?_; rintro e w' ⟨rfl, rfl⟩) | fail)
                go_roundw
                case rel => exact ⟨k + 1, _, s.sp, by omega, by go_num, rfl, HX.out.2.2, HX.out.1, HX.out.2.1, hsa, hso, fun _ => rfl, by omega, by omega⟩
                case measure => simp [intOf]; omega
              | due h h0 h1 h2 =>
                as_aux_lemma =>
                simp only at st fq pv hA2
                rw [h1]
                obtain rfl := hB0 h1
                have e4 : wrap64 (A - s.sp) = A - s.sp := by unfold wrap64; omega
                have d3 : decide (so ≤ A - s.sp) = true := by simp; omega
                go_wp2_with fail
                go_quiet (fail)
                have x1 := HX.out.1.drewN nq
                have hEX := HX.out.2.1.oth ((Oth.refl _ _).drewN nq)
                have hok2 := HX.out.2.2
                clear HX st fq pv cA hrX c2 c3
                have x3 : (wY.drewN nq).cell? ⟨m, 0, none⟩ = _ := x3
                have x4 : (wY.drewN nq).cell? ⟨m, 1, none⟩ = _ := x4
                generalize wY.drewN nq = wZ at *
                have HX := Kp.mk (And.intro x1 (And.intro hEX hok2))
                have st := state_any b _ wZ x1
                have fq := freq_any b _ wZ x1
                have pv := phase_any b _ wZ x1
                simp only at st fq pv
                clear x1 hEX hok2
                go_wp2_with (first | (go_at_call 20; refine st.mono ?_; rintro e w' ⟨rfl, rfl⟩) | (go_at_call 22; refine fq.mono ?_; rintro e w' ⟨rfl, rfl⟩) | (go_at_call 24; refine pv.mono ?_; rintro e w' ⟨rfl, rfl⟩) | fail)
                go_roundw
                case rel => exact ⟨k + 1, _, s.sp, by omega, by go_num, rfl, HX.out.2.2, HX.out.1, HX.out.2.1, hsa, hso, fun h => by simp at h, by omega, by omega⟩
                case measure => simp [intOf]; omega
              | s0 h h0 h1 => exfalso; omega
              | s1 f h h0 h1 h2 => exfalso; omega
              | s3 f h h0 h1 => exfalso; omega
            · have d1 : decide (sa ≤ O) = false := by simpa using hd.1
              have d2 : decide (O ≤ -sa) = true := by simpa using hd.2
              go_wp2_with fail
              go_quiet (fail)
              rename_i nq
              have x1 := x1.drewN nq
              have hEX := hEX.oth ((Oth.refl _ _).drewN nq)
              have cA : (wX.drewN nq).cell? ⟨rb, off + k * 4 + 1, none⟩ = some (.int .i64 A) := cA
              have hrX : rb < (wX.drewN nq).heap.size := hrX
              have x3 : (wX.drewN nq).cell? ⟨m, 0, none⟩ = some (.int .i64 K) := x3
              have x4 : (wX.drewN nq).cell? ⟨m, 1, none⟩ = some (.int .i64 V) := x4
              generalize wX.drewN nq = wY at *
              have HX := Kp.mk (And.intro x1 (And.intro hEX ok2))
              have c2 := hEX.c2
              have c3 := hEX.c3
              have st := fun n => state_any b s2 (wY.drewN n) (x1.drewN n)
              have fq := fun n => freq_any b s2 (wY.drewN n) (x1.drewN n)
              have pv := fun n => phase_any b s2 (wY.drewN n) (x1.drewN n)
              clear x1 hEX ok2
              cases hU with
              | err e he =>
                as_aux_lemma =>
                have q1 : (E != 0) = true := by rcases he with h | ⟨h, _⟩ <;> rw [h] <;> decide
                go_wp2_with fail
                go_roundw
                case rel => exact ⟨k + 1, _, B, by omega, by go_num, rfl, HX.out.2.2, HX.out.1, HX.out.2.1, hsa, hso, hB0, by omega, by omega⟩
                case measure => simp [intOf]; omega
              | skip h1 h2 =>
                as_aux_lemma =>
                have q2 : (s.st != 3) = true := by simp [h1]
                have q3 : (s.st != 2) = true := by simp [h1]
                go_wp2_with fail
                go_roundw
                case rel => exact ⟨k + 1, _, B, by omega, by go_num, rfl, HX.out.2.2, HX.out.1, HX.out.2.1, hsa, hso, fun h => by simp [h1] at h, by omega, by omega⟩
                case measure => simp [intOf]; omega
              | l0 h h0 h1 =>
                as_aux_lemma =>
                have q2 : (s.st != 3) = true := by simp [h1]
                have q3 : (s.st != 2) = true := by simp [h1]
                go_wp2_with fail
                go_roundw
                case rel => exact ⟨k + 1, _, B, by omega, by go_num, rfl, HX.out.2.2, HX.out.1, HX.out.2.1, hsa, hso, fun h => by simp at h, by omega, by omega⟩
                case measure => simp [intOf]; omega
              | l1 f h h0 h1 h2 =>
                as_aux_lemma =>
                have q2 : (s.st != 3) = true := by simp [h1]
                have q3 : (s.st != 2) = true := by simp [h1]
                go_wp2_with fail
                go_roundw
                case rel => exact ⟨k + 1, _, B, by omega, by go_num, rfl, HX.out.2.2, HX.out.1, HX.out.2.1, hsa, hso, fun h => by simp at h, by omega, by omega⟩
                case measure => simp [intOf]; omega
              | l3 h h0 h1 =>
                as_aux_lemma =>
                simp only at st fq pv hA2
                rw [h1]

                go_wp2_with fail
                go_quiet (fail)
                have x1 := HX.out.1.drewN nq
                have hEX := HX.out.2.1.oth ((Oth.refl _ _).drewN nq)
                have hok2 := HX.out.2.2
                clear HX st fq pv cA hrX c2 c3
                have x3 : (wY.drewN nq).cell? ⟨m, 0, none⟩ = _ := x3
                have x4 : (wY.drewN nq).cell? ⟨m, 1, none⟩ = _ := x4
                generalize wY.drewN nq = wZ at *
                have HX := Kp.mk (And.intro x1 (And.intro hEX hok2))
                have st := state_any b _ wZ x1
                have fq := freq_any b _ wZ x1
                have pv := phase_any b _ wZ x1
                simp only at st fq pv
                clear x1 hEX hok2
                go_wp2_with (first | (go_at_call 20; refine st.mono ?_; rintro e w' ⟨rfl, rfl⟩) | (go_at_call 22; refine fq.mono ?_; rintro e w' ⟨rfl, rfl⟩) | (go_at_call 24; refine pv.mono ?_; rintro e w' ⟨rfl, rfl⟩) | fail)
                go_roundw
                case rel => exact ⟨k + 1, _, A, by omega, by go_num, rfl, HX.out.2.2, HX.out.1, HX.out.2.1, hsa, hso, fun _ => rfl, by omega, by omega⟩
                case measure => simp [intOf]; omega
              | l2 h h0 h1 h2 =>
                as_aux_lemma =>
                simp only at st fq pv hA2
                rw [h1]
                obtain rfl := hB0 h1
                have e4 : wrap64 (A - s.sp) = A - s.sp := by unfold wrap64; omega
                have d3 : decide (so ≤ A - s.sp) = false := by simp; omega
                go_wp2_with fail
                go_quiet (fail)
                have x1 := HX.out.1.drewN nq
                have hEX := HX.out.2.1.oth ((Oth.refl _ _).drewN nq)
                have hok2 := HX.out.2.2
                clear HX st fq pv cA hrX c2 c3
                have x3 : (wY.drewN nq).cell? ⟨m, 0, none⟩ = _ := x3
                have x4 : (wY.drewN nq).cell? ⟨m, 1, none⟩ = _ := x4
                generalize wY.drewN nq = wZ at *
                have HX := Kp.mk (And.intro x1 (And.intro hEX hok2))
                have st := state_any b _ wZ x1
                have fq := freq_any b _ wZ x1
                have pv := phase_any b _ wZ x1
                simp only at st fq pv
                rw [h1] at st
                clear x1 hEX hok2
                go_wp2_with (first | (go_at_call 20; refine st.mono ?_; rintro e w' ⟨rfl, rfl⟩) | (go_at_call 22; refine fq.mono ?_; rintro e w' ⟨rfl, rfl⟩) | (go_at_call 24; refine pv.mono ?_; rintro e w' ⟨rfl, rfl⟩) | fail)
                go_roundw
                case rel => exact ⟨k + 1, _, s.sp, by omega, by go_num, rfl, HX.out.2.2, HX.out.1, HX.out.2.1, hsa, hso, fun _ => rfl, by omega, by omega⟩
                case measure => simp [intOf]; omega
              | due h h0 h1 h2 =>
                as_aux_lemma =>
                simp only at st fq pv hA2
                rw [h1]
                obtain rfl := hB0 h1
                have e4 : wrap64 (A - s.sp) = A - s.sp := by unfold wrap64; omega
                have d3 : decide (so ≤ A - s.sp) = true := by simp; omega
                go_wp2_with fail
                go_quiet (fail)
                have x1 := HX.out.1.drewN nq
                have hEX := HX.out.2.1.oth ((Oth.refl _ _).drewN nq)
                have hok2 := HX.out.2.2
                clear HX st fq pv cA hrX c2 c3
                have x3 : (wY.drewN nq).cell? ⟨m, 0, none⟩ = _ := x3
                have x4 : (wY.drewN nq).cell? ⟨m, 1, none⟩ = _ := x4
                generalize wY.drewN nq = wZ at *
                have HX := Kp.mk (And.intro x1 (And.intro hEX hok2))
                have st := state_any b _ wZ x1
                have fq := freq_any b _ wZ x1
                have pv := phase_any b _ wZ x1
                simp only at st fq pv
                clear x1 hEX hok2
                go_wp2_with (first | (go_at_call 20; refine st.mono ?_; rintro e w' ⟨rfl, rfl⟩) | (go_at_call 22; refine fq.mono ?_; rintro e w' ⟨rfl, rfl⟩) | (go_at_call 24; refine pv.mono ?_; rintro e w' ⟨rfl, rfl⟩) | fail)
                go_roundw
                case rel => exact ⟨k + 1, _, s.sp, by omega, by go_num, rfl, HX.out.2.2, HX.out.1, HX.out.2.1, hsa, hso, fun h => by simp at h, by omega, by omega⟩
                case measure => simp [intOf]; omega
              | s0 h h0 h1 => exfalso; omega
              | s1 f h h0 h1 h2 => exfalso; omega
              | s3 f h h0 h1 => exfalso; omega
            · have d1 : decide (sa ≤ O) = false := by simpa using hd.1
              have d2 : decide (O ≤ -sa) = false := by simpa using hd.2
              go_wp2_with fail
              go_quiet (fail)
              rename_i nq
              have x1 := x1.drewN nq
              have hEX := hEX.oth ((Oth.refl _ _).drewN nq)
              have cA : (wX.drewN nq).cell? ⟨rb, off + k * 4 + 1, none⟩ = some (.int .i64 A) := cA
              have hrX : rb < (wX.drewN nq).heap.size := hrX
              have x3 : (wX.drewN nq).cell? ⟨m, 0, none⟩ = some (.int .i64 K) := x3
              have x4 : (wX.drewN nq).cell? ⟨m, 1, none⟩ = some (.int .i64 V) := x4
              generalize wX.drewN nq = wY at *
              have HX := Kp.mk (And.intro x1 (And.intro hEX ok2))
              have c2 := hEX.c2
              have c3 := hEX.c3
              have st := fun n => state_any b s2 (wY.drewN n) (x1.drewN n)
              have fq := fun n => freq_any b s2 (wY.drewN n) (x1.drewN n)
              have pv := fun n => phase_any b s2 (wY.drewN n) (x1.drewN n)
              clear x1 hEX ok2
              cases hU with
              | err e he =>
                as_aux_lemma =>
                have q1 : (E != 0) = true := by rcases he with h | ⟨h, _⟩ <;> rw [h] <;> decide
                go_wp2_with fail
                go_roundw
                case rel => exact ⟨k + 1, _, B, by omega, by go_num, rfl, HX.out.2.2, HX.out.1, HX.out.2.1, hsa, hso, hB0, by omega, by omega⟩
                case measure => simp [intOf]; omega
              | skip h1 h2 =>
                as_aux_lemma =>
                have q2 : (s.st != 3) = true := by simp [h1]
                have q3 : (s.st != 2) = true := by simp [h1]
                go_wp2_with fail
                go_roundw
                case rel => exact ⟨k + 1, _, B, by omega, by go_num, rfl, HX.out.2.2, HX.out.1, HX.out.2.1, hsa, hso, fun h => by simp [h1] at h, by omega, by omega⟩
                case measure => simp [intOf]; omega
              | l0 h h0 h1 => exfalso; omega
              | l1 f h h0 h1 h2 => exfalso; omega
              | l3 h h0 h1 => exfalso; omega
              | l2 h h0 h1 h2 => exfalso; omega
              | due h h0 h1 h2 => exfalso; omega
              | s0 h h0 h1 =>
                as_aux_lemma =>
                go_wp2_with fail
                go_roundw
                case rel => exact ⟨k + 1, _, B, by omega, by go_num, rfl, HX.out.2.2, HX.out.1, HX.out.2.1, hsa, hso, fun h => by simp at h, by omega, by omega⟩
                case measure => simp [intOf]; omega
              | s1 f h h0 h1 h2 =>
                as_aux_lemma =>
                go_wp2_with fail
                go_roundw
                case rel => exact ⟨k + 1, _, B, by omega, by go_num, rfl, HX.out.2.2, HX.out.1, HX.out.2.1, hsa, hso, fun h => by simp at h, by omega, by omega⟩
                case measure => simp [intOf]; omega
              | s3 f h h0 h1 =>
                as_aux_lemma =>
                go_wp2_with fail
                go_roundw
                case rel => exact ⟨k + 1, _, B, by omega, by go_num, rfl, HX.out.2.2, HX.out.1, HX.out.2.1, hsa, hso, fun h => by simp at h, by omega, by omega⟩
                case measure => simp [intOf]; omega
        · clear hl
          obtain rfl : k = len := by omega
          go_wp2_with fail
          refine (awake_any _ (HC.out.below HEr.out.below HC.out.pos)).mono ?_
          rintro e wE ⟨rfl, hb⟩
          have HE2 := Kp.mk (Below.then HEr.out.below HEr.out.below.size hb)
          clear hb
          go_wp2_with fail
          go_ret
          exact ⟨by simp, HE2.out⟩
    · have t0 : decide ((len : Int) ≤ 60) = false := by simp; omega
      have fw := few_any a len cap w1
      rw [t0] at fw
      have HE := Kp.mk hE
      clear hl hE
      go_wp2_with fail
      refine fw.mono ?_
      rintro e w' ⟨rfl, rfl⟩
      clear fw
      go_wp2_with fail
      refine (awake_any _ (HC.out.below HE.out.below HC.out.pos)).mono ?_
      rintro e wE ⟨rfl, hb⟩
      have HE2 := Kp.mk (Below.then HE.out.below HE.out.below.size hb)
      clear hb
      go_wp2_with fail
      go_ret
      exact ⟨by simp, HE2.out⟩
  · have p1 := fun w => new_bad mn mx sa so li hok w
    have HC := Kp.mk hc
    clear hc hS
    go_enter Tryd.func7, Tryd.ntmps7
    go_wp2_with fail
    refine (p1 _).mono ?_
    rintro e w1 ⟨rfl, hb1⟩
    have HE := Kp.mk (below_box hb1)
    clear hb1 p1
    go_wp2_with fail
    refine (awake_any _ (HC.out.below HE.out HC.out.pos)).mono ?_
    rintro e wE ⟨rfl, hb⟩
    have HE2 := Kp.mk (Below.then HE.out HE.out.size hb)
    clear hb
    go_wp2_with fail
    go_ret
    exact ⟨by simp, HE2.out⟩
theorem spikes_walk (mn mx sa so li : Int) (a : Option Addr) (len cap : Nat) (T A O P : Nat → Int) (w : World) (_ : I64 mn) (_ : I64 mx) (_ : I64 sa) (_ : I64 so) (_ : I64 li) (hS : StepRow w a len T A O P) (hc : ConfAt w) : Calls Tryd.prog 7 #[.agg #[.int .i64 mn, .int .i64 mx, .int .i64 sa, .int .i64 so, .int .i64 li], .slice a len cap] w fun x w' => x = .returned (.bool true) ∧ Below w.heap.size w w' := spikes_any mn mx sa so li a len cap T A O P w hS hc
end Go.Proofs.YtbfobodaeimklaaDoor
