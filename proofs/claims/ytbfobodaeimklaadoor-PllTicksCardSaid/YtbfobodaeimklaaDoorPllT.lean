/-
  The walk of PllTicks: whatever the configuration, the updates and the number of ticks, it returns true, and what was there is as it was.
-/
import Derived.Test.YtbfobodaeimklaaDoorPllH
import Derived.Deep.RegionHeld3
import Derived.Deep.LoopGhost
set_option linter.unusedSimpArgs false
set_option linter.unusedVariables false
namespace Go.Proofs.YtbfobodaeimklaaDoor
open Go.RowKit
theorem upd_poll (s : LS) (t o p : Int) (ok : s.Ok) : ((updF s t o p).2.2 == 0 && ((updF s t o p).2.1.1 != 0 || (updF s t o p).1.st != 1)) = true ∧ (updF s t o p).1.po = p ∨ ((updF s t o p).2.2 == 0 && ((updF s t o p).2.1.1 != 0 || (updF s t o p).1.st != 1)) = false ∧ (updF s t o p).1.po = s.po := by
  have h := upd_is s t o p ok
  generalize updF s t o p = r at *
  cases h with
  | err e he => right; rcases he with he | ⟨he, _⟩ <;> subst he <;> simp
  | skip h1 h2 => right; simp [h1]
  | l0 | l1 | l3 | due | s0 | s1 | s3 => left; simp
  | l2 h h0 h1 h2 => left; simp [h1]
theorem tick_law {p D : Int} (hD : 0 < D) : (0 ≤ p → 0 ≤ p.tdiv D ∧ p.tdiv D ≤ p) ∧ (p ≤ 0 → p ≤ p.tdiv D ∧ p.tdiv D ≤ 0) ∧ (p.tdiv D = 0 ↔ -D < p ∧ p < D) := by
  have key : ∀ q : Int, 0 ≤ q → (0 ≤ q.tdiv D ∧ q.tdiv D ≤ q) ∧ (q.tdiv D = 0 ↔ q < D) := by
    intro q hq
    rw [Int.tdiv_eq_ediv_of_nonneg hq]
    refine ⟨⟨Int.ediv_nonneg hq (by omega), Int.ediv_le_self _ hq⟩, ?_, ?_⟩
    · intro h
      have := Int.lt_mul_ediv_self_add (x := q) hD
      rw [h] at this
      omega
    · exact Int.ediv_eq_zero_of_lt hq
  by_cases h : 0 ≤ p
  · obtain ⟨⟨a1, a2⟩, a3⟩ := key p h
    refine ⟨fun _ => ⟨a1, a2⟩, fun h2 => ?_, ?_⟩
    · obtain rfl : p = 0 := by omega
      simp
    · rw [a3]
      constructor <;> omega
  · obtain ⟨⟨a1, a2⟩, a3⟩ := key (-p) (by omega)
    rw [Int.neg_tdiv] at a1 a2 a3
    refine ⟨fun h2 => absurd h2 h, fun _ => ⟨by omega, by omega⟩, ?_⟩
    rw [← Int.neg_eq_zero, a3]
    constructor <;> omega
set_option maxRecDepth 4000 in
set_option maxHeartbeats 8000000 in
theorem ticks_any (mn mx sa so li : Int) (a : Option Addr) (len cap : Nat) (T A O P : Nat → Int) (tk : Int) (w : World) (hS : StepRow w a len T A O P) (hc : ConfAt w) : Calls Tryd.prog 6 #[.agg #[.int .i64 mn, .int .i64 mx, .int .i64 sa, .int .i64 so, .int .i64 li], .slice a len cap, .int .i64 tk] w fun x w' => x = .returned (.bool true) ∧ Below w.heap.size w w' := by
  by_cases hok : chkF mn mx sa so li = 0
  · have p1 := fun w => new_good mn mx sa so li hok w
    have HC := Kp.mk hc
    have HS := Kp.mk hS
    clear hc hS
    go_enter Tryd.func6, Tryd.ntmps6
    go_wp2_with fail
    refine (p1 _).mono ?_
    rintro e w1 ⟨b, rfl, hb, hl, hb1⟩
    have hE := Env.start hb1 hb hl
    clear hb hb1 p1
    by_cases h60 : len ≤ 60
    · have t0 : decide ((len : Int) ≤ 60) = true := by simp; omega
      have fw := few_any a len cap w1
      rw [t0] at fw
      have HE := Kp.mk hE
      have HL := Kp.mk hl
      obtain ⟨_, _, _, c0, c1, c2, c3, c4⟩ := hE
      go_wp2_with fail
      refine fw.mono ?_
      rintro e w' ⟨rfl, rfl⟩
      clear fw
      go_wp2_with fail
      clear c0 c1 c2 c3 c4 hl
      go_loopw [8, 9] (fun pv i wr => ∃ (k : Nat) (s : LS), k ≤ len ∧ i = .int .i64 k ∧ pv = .int .i64 s.po ∧ s.Ok ∧ Lp wr b s ∧ Env w wr b mn mx sa so li) (fun _ i _ => len - (intOf i).toNat)
      case atStart => exact ⟨0, _, Nat.zero_le _, rfl, rfl, new_ok hok, HL.out, HE.out⟩
      case round =>
        obtain ⟨k, s, hk, rfl, rfl, ok, hl, hE⟩ := hrel
        have HEr := Kp.mk hE
        clear hE
        by_cases hlt : k < len
        · have t1 : decide ((k : Int) < (len : Int)) = true := by simp; omega
          have kz : (0 : Int) ≤ (k : Int) := by omega
          have kl : (k : Int) < (len : Int) := by omega
          obtain ⟨rb, off, rfl, hrb, l0, l1, l2, l3⟩ := HS.out.at HEr.out.below hlt
          have hne : rb ≠ b := by have := HEr.out.hb; omega
          have hrw : rb < wr.heap.size := Nat.lt_of_lt_of_le hrb HEr.out.below.size
          have hp := fun W hW => upd_any b s (A k) (O k) (P k) W hW ok
          have hpo := upd_poll s (A k) (O k) (P k) ok
          have ok2 := upd_ok s (A k) (O k) (P k) ok
          generalize updF s (A k) (O k) (P k) = r at *
          obtain ⟨s2, ⟨K, V⟩, E⟩ := r
          unfold upv act at hp
          simp only at hp hpo ok2
          generalize A k = A at *
          generalize O k = O at *
          generalize P k = Q at *
          go_wp2_with fail
          go_region_held3 (fun w' => rb < w'.heap.size ∧ w'.cell? ⟨rb, off + k * 4 + 1, none⟩ = some (.int .i64 A) ∧ w'.cell? ⟨rb, off + k * 4 + 2, none⟩ = some (.int .i64 O) ∧ w'.cell? ⟨rb, off + k * 4 + 3, none⟩ = some (.int .i64 Q)) (first | exact RowS.oth (by assumption) ho4 hne | exact RowS.alloc _ (by assumption) | exact RowS.again _ _ (Nat.lt_of_lt_of_le hrw ho4.size) (by assumption) | exact RowS.oth (k := wr.heap.size) (by assumption) (((Oth.refl _ _).setCell (by rfl) _).setCell (by rfl) _) (by omega) | go_keep)
            (first
              | (go_at_call 18; refine (hp _ (hl.drew.alloc _)).mono ?_; rintro e w4 ⟨rfl, hl4, ho4⟩; have g0 : w4.cell? ⟨wr.heap.size, 0, none⟩ = _ := (one_new (W := wr.drew) ho4 hl.lt).1; have g1 : w4.cell? ⟨wr.heap.size, 1, none⟩ = _ := (one_new (W := wr.drew) ho4 hl.lt).2.1; have g2 : w4.frozen? ⟨wr.heap.size, 0, none⟩ = false := (one_new (W := wr.drew) ho4 hl.lt).2.2.1; have g3 : w4.frozen? ⟨wr.heap.size, 1, none⟩ = false := (one_new (W := wr.drew) ho4 hl.lt).2.2.2)
              | (go_at_call 18; refine (hp _ hl.drew).mono ?_; rintro e w4 ⟨rfl, hl4, ho4⟩))
          · obtain ⟨wX, hXd⟩ : ∃ W, W = w4.alloc (.cells #[.int .i64 K, .int .i64 V] 38) := ⟨_, rfl⟩
            have x1 : Lp wX b s2 := by rw [hXd]; exact hl4.alloc _
            have x2 : Oth b wr wX := by rw [hXd]; exact (((Oth.refl _ _).drew).trans ho4).alloc _
            have x3 : wX.cell? ⟨w4.heap.size, 0, none⟩ = some (.int .i64 K) := by rw [hXd, World.cell?_alloc_at _ _ _ _ rfl]; rfl
            have x4 : wX.cell? ⟨w4.heap.size, 1, none⟩ = some (.int .i64 V) := by rw [hXd, World.cell?_alloc_at _ _ _ _ rfl]; rfl
            rw [← hXd]
            have hm : b < w4.heap.size := hl4.lt
            clear hXd ho4
            generalize w4.heap.size = m at *
            have HX := Kp.mk (And.intro x1 (And.intro (HEr.out.oth x2) ok2))
            have hrX := Nat.lt_of_lt_of_le hrw x2.size
            have cQ := (x2.cell (p := ⟨rb, off + k * 4 + 3, none⟩) hrw hne).trans l3
            have st := state_any b s2 wX x1
            clear l0 l1 l2 l3 hl hp hl4 x2 x1 ok2
            generalize s2.st = z at *
            rcases hpo with ⟨hb1, hb2⟩ | ⟨hb1, hb2⟩
            all_goals
              have HP := Kp.mk hb2
              clear hb2
              rcases Bool.eq_false_or_eq_true (E == 0) with q1 | q1 <;> rcases Bool.eq_false_or_eq_true (K != 0) with q2 | q2 <;> rcases Bool.eq_false_or_eq_true (z != 1) with q3 | q3 <;> simp only [q1, q2, q3] at hb1 <;> first | (exact absurd hb1 (by decide)) | skip
            all_goals
              clear hb1
              go_wp2_with (first | (go_at_call 20; refine st.mono ?_; rintro e w' ⟨rfl, rfl⟩) | fail)
              go_roundw
              case rel => exact ⟨k + 1, s2, by omega, by go_num, by rw [HP.out], HX.out.2.2, HX.out.1, HX.out.2.1⟩
              case measure => simp [intOf]; omega
          · obtain ⟨wX, hXd⟩ : ∃ W, W = (w4.setCell ⟨wr.heap.size, 0, none⟩ (.int .i64 K)).setCell ⟨wr.heap.size, 1, none⟩ (.int .i64 V) := ⟨_, rfl⟩
            have hm : b < wr.heap.size := hl.lt
            have hbm : b ≠ wr.heap.size := by omega
            have x1 : Lp wX b s2 := by rw [hXd]; exact (hl4.setOther hbm _).setOther hbm _
            have x2 : Oth b wr wX := by rw [hXd]; exact (((((Oth.refl _ _).drew).alloc _).trans ho4).setNew (by exact Nat.le_refl _) _).setNew (by exact Nat.le_refl _) _
            have x3 : wX.cell? ⟨wr.heap.size, 0, none⟩ = some (.int .i64 K) := by rw [hXd]; simp [go_sem, g0, g1]
            have x4 : wX.cell? ⟨wr.heap.size, 1, none⟩ = some (.int .i64 V) := by rw [hXd]; simp [go_sem, g0, g1]
            rw [← hXd]
            clear hXd ho4 g0 g1 g2 g3 hbm
            generalize wr.heap.size = m at x3 x4 hm ⊢
            have HX := Kp.mk (And.intro x1 (And.intro (HEr.out.oth x2) ok2))
            have hrX := Nat.lt_of_lt_of_le hrw x2.size
            have cQ := (x2.cell (p := ⟨rb, off + k * 4 + 3, none⟩) hrw hne).trans l3
            have st := state_any b s2 wX x1
            clear l0 l1 l2 l3 hl hp hl4 x2 x1 ok2
            generalize s2.st = z at *
            rcases hpo with ⟨hb1, hb2⟩ | ⟨hb1, hb2⟩
            all_goals
              have HP := Kp.mk hb2
              clear hb2
              rcases Bool.eq_false_or_eq_true (E == 0) with q1 | q1 <;> rcases Bool.eq_false_or_eq_true (K != 0) with q2 | q2 <;> rcases Bool.eq_false_or_eq_true (z != 1) with q3 | q3 <;> simp only [q1, q2, q3] at hb1 <;> first | (exact absurd hb1 (by decide)) | skip
            all_goals
              clear hb1
              go_wp2_with (first | (go_at_call 20; refine st.mono ?_; rintro e w' ⟨rfl, rfl⟩) | fail)
              go_roundw
              case rel => exact ⟨k + 1, s2, by omega, by go_num, by rw [HP.out], HX.out.2.2, HX.out.1, HX.out.2.1⟩
              case measure => simp [intOf]; omega
        · obtain rfl : k = len := by omega
          obtain ⟨y, hy⟩ : ∃ y, s.po = y := ⟨_, rfl⟩
          rw [hy]
          have HL := Kp.mk (And.intro hl (And.intro ok hy))
          have hy1 : 3 ≤ y := by rw [← hy]; exact Int.le_trans ok.mn1 ok.po1
          have hy2 : y ≤ 17 := by rw [← hy]; exact Int.le_trans ok.po2 ok.mx2
          have hpow := pow_rows hy1 hy2
          obtain ⟨D, hD⟩ : ∃ D, 16 * (2 : Int) ^ y.toNat = D := ⟨_, rfl⟩
          have hD1 : 128 ≤ D := by omega
          have hD2 : D ≤ 2097152 := by omega
          have HD := Kp.mk hD
          clear hl hlt hk ok hy
          clear hpow
          go_wp2_with fail
          go_loopw [12] (fun i wt => ∃ (k : Nat) (s : LS), k ≤ 60 ∧ i = .int .i64 k ∧ s.po = y ∧ s.Ok ∧ Lp wt b s ∧ Env w wt b mn mx sa so li) (fun i _ => 60 - (intOf i).toNat)
          case atStart => exact ⟨0, s, by omega, rfl, HL.out.2.2, HL.out.2.1, HL.out.1, HEr.out⟩
          case round =>
            obtain ⟨k, s, hk, rfl, hy, ok, hl, hE⟩ := hrel
            have HEt := Kp.mk hE
            clear hE
            by_cases hlt : (k : Int) < tk
            · have t1 : decide ((k : Int) < tk) = true := by simpa using hlt
              by_cases hlt2 : k < 60
              · have t2 : decide ((k : Int) < 60) = true := by simp; omega
                have hp1 : -1125899906842624 ≤ s.ph := by have := ok.ph1; have := ok.sa2; omega
                have hp2 : s.ph ≤ 1125899906842624 := by have := ok.ph2; have := ok.sa2; omega
                have pv := phase_any b s wr hl
                have tv : Calls Tryd.prog 16 #[.pointer (some ⟨b, 0, none⟩)] wr (LPost b (tickF s) (.int .i64 (tickV s)) wr) := tick_any b s wr hl (by omega) (by omega) (by have := ok.ph1; have := ok.sa2; omega) (by have := ok.ph2; have := ok.sa2; omega)
                have hlaw := tick_law (p := s.ph) (show 0 < D by omega)
                have hv : tickV s = s.ph.tdiv D := by unfold tickV; rw [hy, HD.out]
                rw [← hv] at hlaw
                have pv2 := fun (w2 : World) (h2 : Lp w2 b (tickF s)) => phase_any b (tickF s) w2 h2
                rw [show (tickF s).ph = s.ph - tickV s from rfl] at pv2
                have HO := Kp.mk (And.intro (tick_ok ok) (show (tickF s).po = y from hy))
                clear hv
                generalize tickF s = s2 at *
                generalize tickV s = n at *
                generalize s.ph = p at *
                obtain ⟨a1, a2, a3⟩ := hlaw
                have e1 : wrap64 (p - n) = p - n := by unfold wrap64; omega
                have eD : IntKind.i64.wrap (16 * 2 ^ y.toNat) = D := by rw [HD.out, IntKind.wrap_i64]; omega
                have e2 : wrap64 (-D) = -D := by unfold wrap64; omega
                have f5 : (n == 0) = (decide (-D < p) && decide (p < D)) := by
                  rw [Bool.eq_iff_iff]; simp; exact a3
                clear hl ok hy
                rcases (show 0 < p ∨ p = 0 ∨ p < 0 by omega) with hz | hz | hz
                · have f1 : decide (0 ≤ p) = true := by simp; omega
                  have f2 : decide (p ≤ 0) = false := by simp; omega
                  have f3 : decide (p - n < 0) = false := by simp; omega
                  have f4 : decide (p < p - n) = false := by simp; omega
                  have g3 : decide (p < n) = false := by simp; omega
                  have g4 : decide (n < 0) = false := by simp; omega
                  clear a1 a2 a3 hz hp1 hp2
                  go_wp2_with fail
                  refine pv.mono ?_
                  rintro e w' ⟨rfl, rfl⟩
                  go_wp2_with fail
                  refine tv.mono ?_
                  rintro e w2 ⟨rfl, hl2, ho2⟩
                  have pv3 := pv2 w2 hl2
                  have HX := Kp.mk (And.intro hl2 (HEt.out.oth ho2))
                  clear hl2 ho2 pv tv pv2
                  go_wp2_with fail
                  refine pv3.mono ?_
                  rintro e w' ⟨rfl, rfl⟩
                  go_wp2_with fail
                  all_goals
                    go_roundw
                    case rel => exact ⟨k + 1, s2, by omega, by go_num, HO.out.2, HO.out.1, HX.out.1, HX.out.2⟩
                    case measure => simp [intOf]; omega
                · have f1 : decide (0 ≤ p) = true := by simp; omega
                  have f2 : decide (p ≤ 0) = true := by simp; omega
                  have f3 : decide (p - n < 0) = false := by simp; omega
                  have f4 : decide (p < p - n) = false := by simp; omega
                  have g3 : decide (p < n) = false := by simp; omega
                  have g4 : decide (n < 0) = false := by simp; omega
                  have f6 : decide (0 < p - n) = false := by simp; omega
                  have f7 : decide (p - n < p) = false := by simp; omega
                  have g6 : decide (n < p) = false := by simp; omega
                  have g7 : decide (0 < n) = false := by simp; omega
                  clear a1 a2 a3 hz hp1 hp2
                  go_wp2_with fail
                  refine pv.mono ?_
                  rintro e w' ⟨rfl, rfl⟩
                  go_wp2_with fail
                  refine tv.mono ?_
                  rintro e w2 ⟨rfl, hl2, ho2⟩
                  have pv3 := pv2 w2 hl2
                  have HX := Kp.mk (And.intro hl2 (HEt.out.oth ho2))
                  clear hl2 ho2 pv tv pv2
                  go_wp2_with fail
                  refine pv3.mono ?_
                  rintro e w' ⟨rfl, rfl⟩
                  go_wp2_with fail
                  all_goals
                    go_roundw
                    case rel => exact ⟨k + 1, s2, by omega, by go_num, HO.out.2, HO.out.1, HX.out.1, HX.out.2⟩
                    case measure => simp [intOf]; omega
                · have f1 : decide (0 ≤ p) = false := by simp; omega
                  have f2 : decide (p ≤ 0) = true := by simp; omega
                  have f6 : decide (0 < p - n) = false := by simp; omega
                  have f7 : decide (p - n < p) = false := by simp; omega
                  have g6 : decide (n < p) = false := by simp; omega
                  have g7 : decide (0 < n) = false := by simp; omega
                  clear a1 a2 a3 hz hp1 hp2
                  go_wp2_with fail
                  refine pv.mono ?_
                  rintro e w' ⟨rfl, rfl⟩
                  go_wp2_with fail
                  refine tv.mono ?_
                  rintro e w2 ⟨rfl, hl2, ho2⟩
                  have pv3 := pv2 w2 hl2
                  have HX := Kp.mk (And.intro hl2 (HEt.out.oth ho2))
                  clear hl2 ho2 pv tv pv2
                  go_wp2_with fail
                  refine pv3.mono ?_
                  rintro e w' ⟨rfl, rfl⟩
                  go_wp2_with fail
                  all_goals
                    go_roundw
                    case rel => exact ⟨k + 1, s2, by omega, by go_num, HO.out.2, HO.out.1, HX.out.1, HX.out.2⟩
                    case measure => simp [intOf]; omega
              · have t2 : decide ((k : Int) < 60) = false := by simp; omega
                clear hl
                go_wp2_with fail
                refine (awake_any _ (HC.out.below HEt.out.below HC.out.pos)).mono ?_
                rintro e w2 ⟨rfl, hb⟩
                have HE2 := Kp.mk (Below.then HEt.out.below HEt.out.below.size hb)
                clear hb
                go_wp2_with fail
                go_ret
                exact ⟨by simp, HE2.out⟩
            · have t1 : decide ((k : Int) < tk) = false := by simpa using hlt
              clear hl
              go_wp2_with fail
              refine (awake_any _ (HC.out.below HEt.out.below HC.out.pos)).mono ?_
              rintro e w2 ⟨rfl, hb⟩
              have HE2 := Kp.mk (Below.then HEt.out.below HEt.out.below.size hb)
              clear hb
              go_wp2_with fail
              go_ret
              exact ⟨by simp, HE2.out⟩
    · have t0 : decide ((len : Int) ≤ 60) = false := by simp; omega
      have fw := few_any a len cap w1
      rw [t0] at fw
      have HE := Kp.mk hE
      clear hl hE
      go_wp2_with fail
      refine fw.mono ?_
      rintro e w' ⟨rfl, rfl⟩
      clear fw
      go_wp2_with fail
      refine (awake_any _ (HC.out.below HE.out.below HC.out.pos)).mono ?_
      rintro e w2 ⟨rfl, hb⟩
      have HE2 := Kp.mk (Below.then HE.out.below HE.out.below.size hb)
      clear hb
      go_wp2_with fail
      go_ret
      exact ⟨by simp, HE2.out⟩
  · have p1 := fun w => new_bad mn mx sa so li hok w
    have HC := Kp.mk hc
    clear hc hS
    go_enter Tryd.func6, Tryd.ntmps6
    go_wp2_with fail
    refine (p1 _).mono ?_
    rintro e w1 ⟨rfl, hb1⟩
    have HE := Kp.mk (below_box hb1)
    clear hb1 p1
    go_wp2_with fail
    refine (awake_any _ (HC.out.below HE.out HC.out.pos)).mono ?_
    rintro e w2 ⟨rfl, hb⟩
    have HE2 := Kp.mk (Below.then HE.out HE.out.size hb)
    clear hb
    go_wp2_with fail
    go_ret
    exact ⟨by simp, HE2.out⟩
theorem ticks_walk (mn mx sa so li : Int) (a : Option Addr) (len cap : Nat) (T A O P : Nat → Int) (tk : Int) (w : World) (_ : I64 mn) (_ : I64 mx) (_ : I64 sa) (_ : I64 so) (_ : I64 li) (hS : StepRow w a len T A O P) (_ : I64 tk) (hc : ConfAt w) : Calls Tryd.prog 6 #[.agg #[.int .i64 mn, .int .i64 mx, .int .i64 sa, .int .i64 so, .int .i64 li], .slice a len cap, .int .i64 tk] w fun x w' => x = .returned (.bool true) ∧ Below w.heap.size w w' := ticks_any mn mx sa so li a len cap T A O P tk w hS hc
end Go.Proofs.YtbfobodaeimklaaDoor
