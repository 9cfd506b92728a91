/-
  The walk of PllFirst: whatever the configuration and the two updates, it returns true, and what was there is as it was.
-/
import Derived.Test.YtbfobodaeimklaaDoorPllH
import Derived.Deep.RegionHeld3
import Derived.Deep.DeepCutAuto
set_option linter.unusedSimpArgs false
set_option linter.unusedVariables false
namespace Go.Proofs.YtbfobodaeimklaaDoor
open Go.RowKit
structure Env3 (w wr : World) (b : Nat) (mn mx sa so li st sA sO sP tt tA tO tP : Int) : Prop where
  below : Below w.heap.size w wr
  hb : w.heap.size + 2 < b
  lt : b < wr.heap.size
  c2 : wr.cell? ⟨w.heap.size, 2, none⟩ = some (.int .i64 sa)
  c3 : wr.cell? ⟨w.heap.size, 3, none⟩ = some (.int .i64 so)
  s1 : wr.cell? ⟨w.heap.size + 1, 1, none⟩ = some (.int .i64 sA)
  s2 : wr.cell? ⟨w.heap.size + 1, 2, none⟩ = some (.int .i64 sO)
  s3 : wr.cell? ⟨w.heap.size + 1, 3, none⟩ = some (.int .i64 sP)
  t1 : wr.cell? ⟨w.heap.size + 1 + 1, 1, none⟩ = some (.int .i64 tA)
  t2 : wr.cell? ⟨w.heap.size + 1 + 1, 2, none⟩ = some (.int .i64 tO)
  t3 : wr.cell? ⟨w.heap.size + 1 + 1, 3, none⟩ = some (.int .i64 tP)
theorem Env3.oth {w wr W : World} {b : Nat} {mn mx sa so li st sA sO sP tt tA tO tP : Int} (h : Env3 w wr b mn mx sa so li st sA sO sP tt tA tO tP) (o : Oth b wr W) : Env3 w W b mn mx sa so li st sA sO sP tt tA tO tP := by
  have l := h.lt
  have l2 := h.hb
  have c : ∀ m i, m ≤ w.heap.size + 2 → W.cell? ⟨m, i, none⟩ = wr.cell? ⟨m, i, none⟩ := fun m i hm => o.cell (p := ⟨m, i, none⟩) (by show m < _; omega) (by show m ≠ b; omega)
  exact ⟨h.below.trans (o.below (by omega) (by omega)), h.hb, Nat.lt_of_lt_of_le h.lt o.size, (c _ _ (by omega)).trans h.c2, (c _ _ (by omega)).trans h.c3, (c _ _ (by omega)).trans h.s1, (c _ _ (by omega)).trans h.s2, (c _ _ (by omega)).trans h.s3, (c _ _ (by omega)).trans h.t1, (c _ _ (by omega)).trans h.t2, (c _ _ (by omega)).trans h.t3⟩
theorem Env3.start {w w1 : World} {b : Nat} {mn mx sa so li st sA sO sP tt tA tO tP : Int} {t1 t2 t3 : TypeId} {s : LS}
    (hb1 : Below (((w.alloc (.cells #[.int .i64 mn, .int .i64 mx, .int .i64 sa, .int .i64 so, .int .i64 li] t1)).alloc (.cells #[.int .i64 st, .int .i64 sA, .int .i64 sO, .int .i64 sP] t2)).alloc (.cells #[.int .i64 tt, .int .i64 tA, .int .i64 tO, .int .i64 tP] t3)).heap.size (((w.alloc (.cells #[.int .i64 mn, .int .i64 mx, .int .i64 sa, .int .i64 so, .int .i64 li] t1)).alloc (.cells #[.int .i64 st, .int .i64 sA, .int .i64 sO, .int .i64 sP] t2)).alloc (.cells #[.int .i64 tt, .int .i64 tA, .int .i64 tO, .int .i64 tP] t3)) w1)
    (hb : (((w.alloc (.cells #[.int .i64 mn, .int .i64 mx, .int .i64 sa, .int .i64 so, .int .i64 li] t1)).alloc (.cells #[.int .i64 st, .int .i64 sA, .int .i64 sO, .int .i64 sP] t2)).alloc (.cells #[.int .i64 tt, .int .i64 tA, .int .i64 tO, .int .i64 tP] t3)).heap.size ≤ b) (hl : Lp w1 b s) : Env3 w w1 b mn mx sa so li st sA sO sP tt tA tO tP := by
  have s1 : (w.alloc (.cells #[.int .i64 mn, .int .i64 mx, .int .i64 sa, .int .i64 so, .int .i64 li] t1)).heap.size = w.heap.size + 1 := World.size_alloc _ _
  have s2 : ((w.alloc (.cells #[.int .i64 mn, .int .i64 mx, .int .i64 sa, .int .i64 so, .int .i64 li] t1)).alloc (.cells #[.int .i64 st, .int .i64 sA, .int .i64 sO, .int .i64 sP] t2)).heap.size = w.heap.size + 1 + 1 := by rw [World.size_alloc, s1]
  have s3 : (((w.alloc (.cells #[.int .i64 mn, .int .i64 mx, .int .i64 sa, .int .i64 so, .int .i64 li] t1)).alloc (.cells #[.int .i64 st, .int .i64 sA, .int .i64 sO, .int .i64 sP] t2)).alloc (.cells #[.int .i64 tt, .int .i64 tA, .int .i64 tO, .int .i64 tP] t3)).heap.size = w.heap.size + 1 + 1 + 1 := by rw [World.size_alloc, s2]
  have hB : Below w.heap.size w (((w.alloc (.cells #[.int .i64 mn, .int .i64 mx, .int .i64 sa, .int .i64 so, .int .i64 li] t1)).alloc (.cells #[.int .i64 st, .int .i64 sA, .int .i64 sO, .int .i64 sP] t2)).alloc (.cells #[.int .i64 tt, .int .i64 tA, .int .i64 tO, .int .i64 tP] t3)) :=
    (((Below.refl _ _).alloc (Nat.le_refl _) _).alloc (by rw [s1]; omega) _).alloc (by rw [s2]; omega) _
  refine ⟨hB.trans (hb1.mono (by rw [s3]; omega)), by omega, hl.lt, ?_, ?_, ?_, ?_, ?_, ?_, ?_, ?_⟩
  all_goals refine (hb1.cell (by rw [s3]; simp only; omega)).trans ?_
  all_goals first
    | (rw [World.cell?_alloc_at _ _ _ _ s2.symm]; rfl)
    | (rw [World.cell?_alloc_lt _ _ _ (by rw [s2]; simp only; omega), World.cell?_alloc_at _ _ _ _ s1.symm]; rfl)
    | (rw [World.cell?_alloc_lt _ _ _ (by rw [s2]; simp only; omega), World.cell?_alloc_lt _ _ _ (by rw [s1]; simp only; omega), World.cell?_alloc_at _ _ _ _ rfl]; rfl)
theorem upd_in (s : LS) (t o p : Int) (h : (updF s t o p).2.2 = 0) : 0 ≤ t ∧ t ≤ 1073741824 := by
  unfold updF at h
  split at h
  · exact absurd h (by simp)
  · rename_i hr
    have hr' : ((inB t 0 1073741824 && inB o (-1125899906842624) 1125899906842624) && inB p s.mn s.mx) = true := (Bool.not_eq_false _).mp hr
    simp only [Bool.and_eq_true, inB_iff] at hr'
    exact hr'.1.1
theorem tick_new (mn mx sa so li : Int) : tickF (LS.new mn mx sa so li) = LS.new mn mx sa so li ∧ tickV (LS.new mn mx sa so li) = 0 := by
  simp [tickF, tickV, LS.new]
/-- What the first update does. -/
theorem upd_first (mn mx sa so li t o p : Int) (ok : (LS.new mn mx sa so li).Ok) : (∃ s2 K V E, updF (LS.new mn mx sa so li) t o p = (s2, (K, V), E) ∧ s2.Ok ∧ 
    ((E = 3 ∧ K = 0 ∧ V = 0 ∧ s2.st = 0) ∨ (E = 0 ∧ K = 2 ∧ V = o ∧ sa ≤ max o (-o) ∧ s2.st = 1 ∧ s2.fr = 0 ∧ s2.ph = 0 ∧ s2.la = t ∧ s2.up = true ∧ s2.so = so ∧ 0 ≤ t ∧ t ≤ 1073741824) ∨
     (E = 0 ∧ K = 1 ∧ V = 0 ∧ max o (-o) < sa ∧ s2.st = 1 ∧ s2.fr = 0 ∧ s2.ph = o ∧ s2.la = t ∧ s2.up = true ∧ s2.so = so ∧ 0 ≤ t ∧ t ≤ 1073741824))) := by
  have h := upd_is (LS.new mn mx sa so li) t o p ok
  have h2 := upd_ok (LS.new mn mx sa so li) t o p ok
  have h3 := upd_in (LS.new mn mx sa so li) t o p
  generalize updF (LS.new mn mx sa so li) t o p = r at *
  cases h with
  | err e he =>
    refine ⟨_, _, _, _, rfl, h2, .inl ⟨?_, rfl, rfl, rfl⟩⟩
    rcases he with h | ⟨_, h⟩
    · exact h
    · cases h
  | skip h1 _ | l1 _ _ _ h1 | l3 _ _ h1 | l2 _ _ h1 | due _ _ h1 | s1 _ _ _ h1 => exact absurd h1 (by simp [LS.new])
  | s3 _ _ _ h1 => exact absurd h1 (by simp [LS.new])
  | l0 h => exact ⟨_, _, _, _, rfl, h2, .inr (.inl ⟨rfl, rfl, rfl, h, rfl, rfl, rfl, rfl, rfl, rfl, h3 rfl⟩)⟩
  | s0 h => exact ⟨_, _, _, _, rfl, h2, .inr (.inr ⟨rfl, rfl, rfl, h, rfl, rfl, rfl, rfl, rfl, rfl, h3 rfl⟩)⟩
/-- What the second update does. -/
theorem upd_second (s : LS) (t o p : Int) (ok : s.Ok) (h1 : s.st = 1) (hf : s.fr = 0) (hu : s.up = true) : ∃ s2 K V E, updF s t o p = (s2, (K, V), E) ∧
    ((E ≠ 0) ∨ (E = 0 ∧ K = 0 ∧ V = 0 ∧ t - s.la < s.so ∧ s2.st = 1 ∧ s2.ph = s.ph ∧ s2.fr = 0 ∧ 0 ≤ t ∧ t ≤ 1073741824) ∨ (E = 0 ∧ s.so ≤ t - s.la ∧ s2.st = 3 ∧ 0 ≤ t ∧ t ≤ 1073741824)) := by
  have h := upd_is s t o p ok
  have h3 := upd_in s t o p
  generalize updF s t o p = r at *
  cases h with
  | err e he => exact ⟨_, _, _, _, rfl, .inl (by rcases he with h | ⟨h, _⟩ <;> simp [h])⟩
  | skip _ h2 =>
    rw [muF, if_pos hu] at h2
    exact ⟨_, _, _, _, rfl, .inr (.inl ⟨rfl, rfl, rfl, h2, h1, rfl, hf, h3 rfl⟩)⟩
  | l0 _ _ h | l3 _ _ h | l2 _ _ h | due _ _ h | s0 _ _ h => exact absurd h (by omega)
  | s3 _ _ _ h => exact absurd h (by omega)
  | l1 _ _ _ _ h2 | s1 _ _ _ _ h2 =>
    rw [muF, if_pos hu] at h2
    exact ⟨_, _, _, _, rfl, .inr (.inr ⟨rfl, h2, rfl, h3 rfl⟩)⟩
set_option maxRecDepth 4000 in
set_option maxHeartbeats 8000000 in
theorem first_any (mn mx sa so li st sA sO sP tt tA tO tP : Int) (w : World) (hc : ConfAt w) : Calls Tryd.prog 8 #[.agg #[.int .i64 mn, .int .i64 mx, .int .i64 sa, .int .i64 so, .int .i64 li], .agg #[.int .i64 st, .int .i64 sA, .int .i64 sO, .int .i64 sP], .agg #[.int .i64 tt, .int .i64 tA, .int .i64 tO, .int .i64 tP]] w fun x w' => x = .returned (.bool true) ∧ Below w.heap.size w w' := by
  by_cases hok : chkF mn mx sa so li = 0
  · have p1 := fun w => new_good mn mx sa so li hok w
    have HC := Kp.mk hc
    clear hc
    go_enter Tryd.func8, Tryd.ntmps8
    go_wp2_with fail
    refine (p1 _).mono ?_
    rintro e w1 ⟨b, rfl, hb, hl, hb1⟩
    have hE : Env3 w w1 b mn mx sa so li st sA sO sP tt tA tO tP := Env3.start hb1 hb hl
    clear hb hb1 p1
    have ok := new_ok hok
    have sv := state_any b _ w1 hl
    have fv := freq_any b _ w1 hl
    have pv := phase_any b _ w1 hl
    have tv : Calls Tryd.prog 16 #[.pointer (some ⟨b, 0, none⟩)] w1 (LPost b (tickF (LS.new mn mx sa so li)) (.int .i64 (tickV (LS.new mn mx sa so li))) w1) := tick_any b _ w1 hl (Int.le_trans ok.mn1 ok.po1) (Int.le_trans ok.po2 ok.mx2) (by simp [LS.new]) (by simp [LS.new])
    rw [(tick_new mn mx sa so li).1, (tick_new mn mx sa so li).2] at tv
    simp only [LS.new] at sv fv pv
    have hl0 := Kp.mk hl
    clear hl
    go_wp2_with fail
    refine sv.mono ?_
    rintro e w' ⟨rfl, rfl⟩
    go_wp2_with fail
    refine fv.mono ?_
    rintro e w' ⟨rfl, rfl⟩
    go_wp2_with fail
    refine pv.mono ?_
    rintro e w' ⟨rfl, rfl⟩
    go_wp2_with fail
    refine tv.mono ?_
    rintro e w2 ⟨rfl, hl, ho⟩
    have hE := hE.oth ho
    clear tv sv fv pv ho hl0
    have hp := fun W hW => upd_any b _ sA sO sP W hW ok
    obtain ⟨s2, K, V, E, hr, ok2, hU⟩ := upd_first mn mx sa so li sA sO sP ok
    rw [hr] at hp
    unfold upv act at hp
    simp only at hp
    have HE := Kp.mk hE
    obtain ⟨_, _, _, c2, c3, l1, l2, l3, m1, m2, m3⟩ := hE
    have hne : w.heap.size + 1 ≠ b := by have := HE.out.hb; omega
    have hrw : w.heap.size + 1 < w2.heap.size := by have := HE.out.hb; have := HE.out.lt; omega
    go_wp2_with fail
    refine (hp _ hl).mono ?_
    rintro e w4 ⟨rfl, hl4, ho4⟩
    have HE4 := Kp.mk (HE.out.oth ho4)
    clear hp hl hr HE c2 c3 l1 l2 l3 m1 m2 m3 ho4
    have HL4 := Kp.mk hl4
    have sv := fun W (hW : Lp W b s2) => state_any b s2 W hW
    have pv := fun W (hW : Lp W b s2) => phase_any b s2 W hW
    obtain ⟨_, hb4, lt4, c2, c3, l1, l2, l3, m1, m2, m3⟩ := HE4.out
    have z0 : w.heap.size < w4.heap.size := by omega
    have z1 : w.heap.size + 1 < w4.heap.size := by omega
    have z2 : w.heap.size + 1 + 1 < w4.heap.size := by omega
    rcases hU with ⟨u1, u2, u3, u4⟩ | ⟨u1, u2, u3, u4, u5, u6, u7, u8, u9, u10, u11, u12⟩ | ⟨u1, u2, u3, u4, u5, u6, u7, u8, u9, u10, u11, u12⟩
    · subst u1 u2 u3
      rw [u4] at sv
      go_wp2_with fail
      refine (sv _ (hl4.alloc _)).mono ?_
      rintro e w' ⟨rfl, rfl⟩
      go_wp2_with fail
      have HB := Kp.mk (HE4.out.below.alloc HE4.out.below.size (.cells #[.int .i64 0, .int .i64 0] 38))
      refine (awake_any _ (HC.out.below HB.out HC.out.pos)).mono ?_
      rintro e wE ⟨rfl, hb⟩
      have HE2 := Kp.mk (Below.then HB.out HB.out.size hb)
      clear hb
      go_wp2_with fail
      go_ret
      exact ⟨by simp, HE2.out⟩
    · subst u1 u2 u3
      rw [u5] at sv
      rw [u7] at pv
      have e3 : wrap64 (-sa) = -sa := by have := ok.sa1; have := ok.sa2; simp only [LS.new] at *; unfold wrap64; omega
      rcases (show sa ≤ V ∨ (¬ sa ≤ V ∧ V ≤ -sa) by omega) with hd | hd
      · have d1 : decide (sa ≤ V) = true := by simpa using hd
        as_aux_lemma =>
          go_wp2_with fail
          obtain ⟨w5, h5⟩ : ∃ W, W = w4.alloc (.cells #[.int .i64 2, .int .i64 V] 38) := ⟨_, rfl⟩
          have HE5 := HE4.out.oth ((Oth.refl _ _).alloc (.cells #[.int .i64 2, .int .i64 V] 38))
          have hl5 := hl4.alloc (.cells #[.int .i64 2, .int .i64 V] 38)
          have x3 : w5.cell? ⟨w4.heap.size, 0, none⟩ = some (.int .i64 2) := by rw [h5, World.cell?_alloc_at _ _ _ _ rfl]; rfl
          have x4 : w5.cell? ⟨w4.heap.size, 1, none⟩ = some (.int .i64 V) := by rw [h5, World.cell?_alloc_at _ _ _ _ rfl]; rfl
          rw [← h5] at HE5 hl5
          rw [← h5]
          clear h5 hl4 HE4 HL4 c2 c3 l1 l2 l3 m1 m2 m3 hb4 lt4 z0 z1 z2
          generalize w4.heap.size = m at *
          obtain ⟨_, hb4, lt4, c2, c3, l1, l2, l3, m1, m2, m3⟩ := id HE5
          go_quiet ((first | (go_at_call 20; with_reducible exact qs (sv _ (hl5.drewN _))) | (go_at_call 24; with_reducible exact qs (pv _ (hl5.drewN _)))))
          have HE6 := HE5.oth ((Oth.refl _ _).drewN nq)
          have hl6 := hl5.drewN nq
          clear HE5 hl5 c2 c3 l1 l2 l3 m1 m2 m3 hb4 lt4 x3 x4
          generalize w5.drewN nq = w6 at *
          obtain ⟨_, hb4, lt4, c2, c3, l1, l2, l3, m1, m2, m3⟩ := id HE6
          go_wp2_with fail
          refine (pv _ hl6).mono ?_
          rintro e w' ⟨rfl, rfl⟩
          have hp := upd_any b _ tA tO tP w6 hl6 ok2
          have hQ := upd_second _ tA tO tP ok2 u5 u6 u9
          rw [u8, u10, u7] at hQ
          obtain ⟨s3, K2, V2, E2, hr2, hU2⟩ := hQ
          rw [hr2] at hp
          unfold upv act at hp
          simp only at hp
          clear hr2
          go_wp2_with fail
          refine hp.mono ?_
          rintro e w7 ⟨rfl, hl7, ho7⟩
          have HE7 := HE6.oth ho7
          clear HE6 hl6 hp ho7 c2 c3 l1 l2 l3 m1 m2 m3 hb4 lt4 sv pv
          obtain ⟨_, hb4, lt4, c2, c3, l1, l2, l3, m1, m2, m3⟩ := id HE7
          have z0 : w.heap.size < w7.heap.size := by omega
          have z1 : w.heap.size + 1 < w7.heap.size := by omega
          have z2 : w.heap.size + 1 + 1 < w7.heap.size := by omega
          have sv := fun W (hW : Lp W b s3) => state_any b s3 W hW
          have pv := fun W (hW : Lp W b s3) => phase_any b s3 W hW
          have fv := fun W (hW : Lp W b s3) => freq_any b s3 W hW
          have HB := Kp.mk HE7.below
          rcases hU2 with h | ⟨h1, h2, h3, h4, h5, h6, h7, h8, h9⟩ | ⟨h1, h2, h3, h8, h9⟩
          · have q1 : (E2 != 0) = true := by simpa using h
            go_wp2_with fail
            have HB9 := Kp.mk (HB.out.alloc HB.out.size (.cells #[.int .i64 K2, .int .i64 V2] 38))
            refine (awake_any _ (HC.out.below HB9.out HC.out.pos)).mono ?_
            rintro e wE ⟨rfl, hb⟩
            have HE2 := Kp.mk (Below.then HB9.out HB9.out.size hb)
            clear hb
            go_wp2_with fail
            go_ret
            exact ⟨by simp, HE2.out⟩
          · subst h1 h2 h3
            have e5 : wrap64 (tA - sA) = tA - sA := by unfold wrap64; omega
            have q2 : decide (so ≤ tA - sA) = false := by simp; omega
            rw [h5] at sv
            rw [h6] at pv
            rw [h7] at fv
            go_wp2_with fail
            refine (sv _ (hl7.alloc (.cells #[.int .i64 0, .int .i64 0] 38))).mono ?_
            rintro e w' ⟨rfl, rfl⟩
            go_wp2_with fail
            refine (pv _ (hl7.alloc (.cells #[.int .i64 0, .int .i64 0] 38))).mono ?_
            rintro e w' ⟨rfl, rfl⟩
            go_wp2_with fail
            refine (fv _ (hl7.alloc (.cells #[.int .i64 0, .int .i64 0] 38))).mono ?_
            rintro e w' ⟨rfl, rfl⟩
            go_wp2_with fail
            have HB9 := Kp.mk (HB.out.alloc HB.out.size (.cells #[.int .i64 0, .int .i64 0] 38))
            refine (awake_any _ (HC.out.below HB9.out HC.out.pos)).mono ?_
            rintro e wE ⟨rfl, hb⟩
            have HE2 := Kp.mk (Below.then HB9.out HB9.out.size hb)
            clear hb
            go_wp2_with fail
            go_ret
            exact ⟨by simp, HE2.out⟩
          · subst h1
            have e5 : wrap64 (tA - sA) = tA - sA := by unfold wrap64; omega
            have q2 : decide (so ≤ tA - sA) = true := by simp; omega
            rw [h3] at sv
            go_wp2_with fail
            refine (sv _ (hl7.alloc (.cells #[.int .i64 K2, .int .i64 V2] 38))).mono ?_
            rintro e w' ⟨rfl, rfl⟩
            go_wp2_with fail
            have HB9 := Kp.mk (HB.out.alloc HB.out.size (.cells #[.int .i64 K2, .int .i64 V2] 38))
            refine (awake_any _ (HC.out.below HB9.out HC.out.pos)).mono ?_
            rintro e wE ⟨rfl, hb⟩
            have HE2 := Kp.mk (Below.then HB9.out HB9.out.size hb)
            clear hb
            go_wp2_with fail
            go_ret
            exact ⟨by simp, HE2.out⟩
      · have d1 : decide (sa ≤ V) = false := by simpa using hd.1
        have d2 : decide (V ≤ -sa) = true := by simpa using hd.2
        as_aux_lemma =>
          go_wp2_with fail
          obtain ⟨w5, h5⟩ : ∃ W, W = w4.alloc (.cells #[.int .i64 2, .int .i64 V] 38) := ⟨_, rfl⟩
          have HE5 := HE4.out.oth ((Oth.refl _ _).alloc (.cells #[.int .i64 2, .int .i64 V] 38))
          have hl5 := hl4.alloc (.cells #[.int .i64 2, .int .i64 V] 38)
          have x3 : w5.cell? ⟨w4.heap.size, 0, none⟩ = some (.int .i64 2) := by rw [h5, World.cell?_alloc_at _ _ _ _ rfl]; rfl
          have x4 : w5.cell? ⟨w4.heap.size, 1, none⟩ = some (.int .i64 V) := by rw [h5, World.cell?_alloc_at _ _ _ _ rfl]; rfl
          rw [← h5] at HE5 hl5
          rw [← h5]
          clear h5 hl4 HE4 HL4 c2 c3 l1 l2 l3 m1 m2 m3 hb4 lt4 z0 z1 z2
          generalize w4.heap.size = m at *
          obtain ⟨_, hb4, lt4, c2, c3, l1, l2, l3, m1, m2, m3⟩ := id HE5
          go_quiet ((first | (go_at_call 20; with_reducible exact qs (sv _ (hl5.drewN _))) | (go_at_call 24; with_reducible exact qs (pv _ (hl5.drewN _)))))
          have HE6 := HE5.oth ((Oth.refl _ _).drewN nq)
          have hl6 := hl5.drewN nq
          clear HE5 hl5 c2 c3 l1 l2 l3 m1 m2 m3 hb4 lt4 x3 x4
          generalize w5.drewN nq = w6 at *
          obtain ⟨_, hb4, lt4, c2, c3, l1, l2, l3, m1, m2, m3⟩ := id HE6
          go_wp2_with fail
          refine (pv _ hl6).mono ?_
          rintro e w' ⟨rfl, rfl⟩
          have hp := upd_any b _ tA tO tP w6 hl6 ok2
          have hQ := upd_second _ tA tO tP ok2 u5 u6 u9
          rw [u8, u10, u7] at hQ
          obtain ⟨s3, K2, V2, E2, hr2, hU2⟩ := hQ
          rw [hr2] at hp
          unfold upv act at hp
          simp only at hp
          clear hr2
          go_wp2_with fail
          refine hp.mono ?_
          rintro e w7 ⟨rfl, hl7, ho7⟩
          have HE7 := HE6.oth ho7
          clear HE6 hl6 hp ho7 c2 c3 l1 l2 l3 m1 m2 m3 hb4 lt4 sv pv
          obtain ⟨_, hb4, lt4, c2, c3, l1, l2, l3, m1, m2, m3⟩ := id HE7
          have z0 : w.heap.size < w7.heap.size := by omega
          have z1 : w.heap.size + 1 < w7.heap.size := by omega
          have z2 : w.heap.size + 1 + 1 < w7.heap.size := by omega
          have sv := fun W (hW : Lp W b s3) => state_any b s3 W hW
          have pv := fun W (hW : Lp W b s3) => phase_any b s3 W hW
          have fv := fun W (hW : Lp W b s3) => freq_any b s3 W hW
          have HB := Kp.mk HE7.below
          rcases hU2 with h | ⟨h1, h2, h3, h4, h5, h6, h7, h8, h9⟩ | ⟨h1, h2, h3, h8, h9⟩
          · have q1 : (E2 != 0) = true := by simpa using h
            go_wp2_with fail
            have HB9 := Kp.mk (HB.out.alloc HB.out.size (.cells #[.int .i64 K2, .int .i64 V2] 38))
            refine (awake_any _ (HC.out.below HB9.out HC.out.pos)).mono ?_
            rintro e wE ⟨rfl, hb⟩
            have HE2 := Kp.mk (Below.then HB9.out HB9.out.size hb)
            clear hb
            go_wp2_with fail
            go_ret
            exact ⟨by simp, HE2.out⟩
          · subst h1 h2 h3
            have e5 : wrap64 (tA - sA) = tA - sA := by unfold wrap64; omega
            have q2 : decide (so ≤ tA - sA) = false := by simp; omega
            rw [h5] at sv
            rw [h6] at pv
            rw [h7] at fv
            go_wp2_with fail
            refine (sv _ (hl7.alloc (.cells #[.int .i64 0, .int .i64 0] 38))).mono ?_
            rintro e w' ⟨rfl, rfl⟩
            go_wp2_with fail
            refine (pv _ (hl7.alloc (.cells #[.int .i64 0, .int .i64 0] 38))).mono ?_
            rintro e w' ⟨rfl, rfl⟩
            go_wp2_with fail
            refine (fv _ (hl7.alloc (.cells #[.int .i64 0, .int .i64 0] 38))).mono ?_
            rintro e w' ⟨rfl, rfl⟩
            go_wp2_with fail
            have HB9 := Kp.mk (HB.out.alloc HB.out.size (.cells #[.int .i64 0, .int .i64 0] 38))
            refine (awake_any _ (HC.out.below HB9.out HC.out.pos)).mono ?_
            rintro e wE ⟨rfl, hb⟩
            have HE2 := Kp.mk (Below.then HB9.out HB9.out.size hb)
            clear hb
            go_wp2_with fail
            go_ret
            exact ⟨by simp, HE2.out⟩
          · subst h1
            have e5 : wrap64 (tA - sA) = tA - sA := by unfold wrap64; omega
            have q2 : decide (so ≤ tA - sA) = true := by simp; omega
            rw [h3] at sv
            go_wp2_with fail
            refine (sv _ (hl7.alloc (.cells #[.int .i64 K2, .int .i64 V2] 38))).mono ?_
            rintro e w' ⟨rfl, rfl⟩
            go_wp2_with fail
            have HB9 := Kp.mk (HB.out.alloc HB.out.size (.cells #[.int .i64 K2, .int .i64 V2] 38))
            refine (awake_any _ (HC.out.below HB9.out HC.out.pos)).mono ?_
            rintro e wE ⟨rfl, hb⟩
            have HE2 := Kp.mk (Below.then HB9.out HB9.out.size hb)
            clear hb
            go_wp2_with fail
            go_ret
            exact ⟨by simp, HE2.out⟩
    · subst u1 u2 u3
      rw [u5] at sv
      rw [u7] at pv
      have e3 : wrap64 (-sa) = -sa := by have := ok.sa1; have := ok.sa2; simp only [LS.new] at *; unfold wrap64; omega
      have d1 : decide (sa ≤ sO) = false := by simp; omega
      have d2 : decide (sO ≤ -sa) = false := by simp; omega
      as_aux_lemma =>
        go_wp2_with fail
        obtain ⟨w5, h5⟩ : ∃ W, W = w4.alloc (.cells #[.int .i64 1, .int .i64 0] 38) := ⟨_, rfl⟩
        have HE5 := HE4.out.oth ((Oth.refl _ _).alloc (.cells #[.int .i64 1, .int .i64 0] 38))
        have hl5 := hl4.alloc (.cells #[.int .i64 1, .int .i64 0] 38)
        have x3 : w5.cell? ⟨w4.heap.size, 0, none⟩ = some (.int .i64 1) := by rw [h5, World.cell?_alloc_at _ _ _ _ rfl]; rfl
        have x4 : w5.cell? ⟨w4.heap.size, 1, none⟩ = some (.int .i64 0) := by rw [h5, World.cell?_alloc_at _ _ _ _ rfl]; rfl
        rw [← h5] at HE5 hl5
        rw [← h5]
        clear h5 hl4 HE4 HL4 c2 c3 l1 l2 l3 m1 m2 m3 hb4 lt4 z0 z1 z2
        generalize w4.heap.size = m at *
        obtain ⟨_, hb4, lt4, c2, c3, l1, l2, l3, m1, m2, m3⟩ := id HE5
        go_quiet ((first | (go_at_call 20; with_reducible exact qs (sv _ (hl5.drewN _))) | (go_at_call 24; with_reducible exact qs (pv _ (hl5.drewN _)))))
        have HE6 := HE5.oth ((Oth.refl _ _).drewN nq)
        have hl6 := hl5.drewN nq
        clear HE5 hl5 c2 c3 l1 l2 l3 m1 m2 m3 hb4 lt4 x3 x4
        generalize w5.drewN nq = w6 at *
        obtain ⟨_, hb4, lt4, c2, c3, l1, l2, l3, m1, m2, m3⟩ := id HE6
        go_wp2_with fail
        refine (pv _ hl6).mono ?_
        rintro e w' ⟨rfl, rfl⟩
        have hp := upd_any b _ tA tO tP w6 hl6 ok2
        have hQ := upd_second _ tA tO tP ok2 u5 u6 u9
        rw [u8, u10, u7] at hQ
        obtain ⟨s3, K2, V2, E2, hr2, hU2⟩ := hQ
        rw [hr2] at hp
        unfold upv act at hp
        simp only at hp
        clear hr2
        go_wp2_with fail
        refine hp.mono ?_
        rintro e w7 ⟨rfl, hl7, ho7⟩
        have HE7 := HE6.oth ho7
        clear HE6 hl6 hp ho7 c2 c3 l1 l2 l3 m1 m2 m3 hb4 lt4 sv pv
        obtain ⟨_, hb4, lt4, c2, c3, l1, l2, l3, m1, m2, m3⟩ := id HE7
        have z0 : w.heap.size < w7.heap.size := by omega
        have z1 : w.heap.size + 1 < w7.heap.size := by omega
        have z2 : w.heap.size + 1 + 1 < w7.heap.size := by omega
        have sv := fun W (hW : Lp W b s3) => state_any b s3 W hW
        have pv := fun W (hW : Lp W b s3) => phase_any b s3 W hW
        have fv := fun W (hW : Lp W b s3) => freq_any b s3 W hW
        have HB := Kp.mk HE7.below
        rcases hU2 with h | ⟨h1, h2, h3, h4, h5, h6, h7, h8, h9⟩ | ⟨h1, h2, h3, h8, h9⟩
        · have q1 : (E2 != 0) = true := by simpa using h
          go_wp2_with fail
          have HB9 := Kp.mk (HB.out.alloc HB.out.size (.cells #[.int .i64 K2, .int .i64 V2] 38))
          refine (awake_any _ (HC.out.below HB9.out HC.out.pos)).mono ?_
          rintro e wE ⟨rfl, hb⟩
          have HE2 := Kp.mk (Below.then HB9.out HB9.out.size hb)
          clear hb
          go_wp2_with fail
          go_ret
          exact ⟨by simp, HE2.out⟩
        · subst h1 h2 h3
          have e5 : wrap64 (tA - sA) = tA - sA := by unfold wrap64; omega
          have q2 : decide (so ≤ tA - sA) = false := by simp; omega
          rw [h5] at sv
          rw [h6] at pv
          rw [h7] at fv
          go_wp2_with fail
          refine (sv _ (hl7.alloc (.cells #[.int .i64 0, .int .i64 0] 38))).mono ?_
          rintro e w' ⟨rfl, rfl⟩
          go_wp2_with fail
          refine (pv _ (hl7.alloc (.cells #[.int .i64 0, .int .i64 0] 38))).mono ?_
          rintro e w' ⟨rfl, rfl⟩
          go_wp2_with fail
          refine (fv _ (hl7.alloc (.cells #[.int .i64 0, .int .i64 0] 38))).mono ?_
          rintro e w' ⟨rfl, rfl⟩
          go_wp2_with fail
          have HB9 := Kp.mk (HB.out.alloc HB.out.size (.cells #[.int .i64 0, .int .i64 0] 38))
          refine (awake_any _ (HC.out.below HB9.out HC.out.pos)).mono ?_
          rintro e wE ⟨rfl, hb⟩
          have HE2 := Kp.mk (Below.then HB9.out HB9.out.size hb)
          clear hb
          go_wp2_with fail
          go_ret
          exact ⟨by simp, HE2.out⟩
        · subst h1
          have e5 : wrap64 (tA - sA) = tA - sA := by unfold wrap64; omega
          have q2 : decide (so ≤ tA - sA) = true := by simp; omega
          rw [h3] at sv
          go_wp2_with fail
          refine (sv _ (hl7.alloc (.cells #[.int .i64 K2, .int .i64 V2] 38))).mono ?_
          rintro e w' ⟨rfl, rfl⟩
          go_wp2_with fail
          have HB9 := Kp.mk (HB.out.alloc HB.out.size (.cells #[.int .i64 K2, .int .i64 V2] 38))
          refine (awake_any _ (HC.out.below HB9.out HC.out.pos)).mono ?_
          rintro e wE ⟨rfl, hb⟩
          have HE2 := Kp.mk (Below.then HB9.out HB9.out.size hb)
          clear hb
          go_wp2_with fail
          go_ret
          exact ⟨by simp, HE2.out⟩
  · have p1 := fun w => new_bad mn mx sa so li hok w
    have HC := Kp.mk hc
    clear hc
    go_enter Tryd.func8, Tryd.ntmps8
    go_wp2_with fail
    refine (p1 _).mono ?_
    rintro e w1 ⟨rfl, hb1⟩
    have s1 : (w.alloc (.cells #[.int .i64 mn, .int .i64 mx, .int .i64 sa, .int .i64 so, .int .i64 li] 23)).heap.size = w.heap.size + 1 := World.size_alloc _ _
    have s2 : ((w.alloc (.cells #[.int .i64 mn, .int .i64 mx, .int .i64 sa, .int .i64 so, .int .i64 li] 23)).alloc (.cells #[.int .i64 st, .int .i64 sA, .int .i64 sO, .int .i64 sP] 35)).heap.size = w.heap.size + 1 + 1 := by rw [World.size_alloc, s1]
    have hB : Below w.heap.size w (((w.alloc (.cells #[.int .i64 mn, .int .i64 mx, .int .i64 sa, .int .i64 so, .int .i64 li] 23)).alloc (.cells #[.int .i64 st, .int .i64 sA, .int .i64 sO, .int .i64 sP] 35)).alloc (.cells #[.int .i64 tt, .int .i64 tA, .int .i64 tO, .int .i64 tP] 35)) :=
      (((Below.refl _ _).alloc (Nat.le_refl _) _).alloc (by rw [s1]; omega) _).alloc (by rw [s2]; omega) _
    have HE := Kp.mk (Below.then hB hB.size hb1)
    have c0 : w1.cell? ⟨w.heap.size, 0, none⟩ = some (.int .i64 mn) := by
      refine (hb1.cell (by rw [World.size_alloc, s2]; simp only; omega)).trans ?_
      rw [World.cell?_alloc_lt _ _ _ (by rw [s2]; simp only; omega), World.cell?_alloc_lt _ _ _ (by rw [s1]; simp only; omega), World.cell?_alloc_at _ _ _ _ rfl]; rfl
    have c1 : w1.cell? ⟨w.heap.size, 1, none⟩ = some (.int .i64 mx) := by
      refine (hb1.cell (by rw [World.size_alloc, s2]; simp only; omega)).trans ?_
      rw [World.cell?_alloc_lt _ _ _ (by rw [s2]; simp only; omega), World.cell?_alloc_lt _ _ _ (by rw [s1]; simp only; omega), World.cell?_alloc_at _ _ _ _ rfl]; rfl
    have c2 : w1.cell? ⟨w.heap.size, 2, none⟩ = some (.int .i64 sa) := by
      refine (hb1.cell (by rw [World.size_alloc, s2]; simp only; omega)).trans ?_
      rw [World.cell?_alloc_lt _ _ _ (by rw [s2]; simp only; omega), World.cell?_alloc_lt _ _ _ (by rw [s1]; simp only; omega), World.cell?_alloc_at _ _ _ _ rfl]; rfl
    have c3 : w1.cell? ⟨w.heap.size, 3, none⟩ = some (.int .i64 so) := by
      refine (hb1.cell (by rw [World.size_alloc, s2]; simp only; omega)).trans ?_
      rw [World.cell?_alloc_lt _ _ _ (by rw [s2]; simp only; omega), World.cell?_alloc_lt _ _ _ (by rw [s1]; simp only; omega), World.cell?_alloc_at _ _ _ _ rfl]; rfl
    have c4 : w1.cell? ⟨w.heap.size, 4, none⟩ = some (.int .i64 li) := by
      refine (hb1.cell (by rw [World.size_alloc, s2]; simp only; omega)).trans ?_
      rw [World.cell?_alloc_lt _ _ _ (by rw [s2]; simp only; omega), World.cell?_alloc_lt _ _ _ (by rw [s1]; simp only; omega), World.cell?_alloc_at _ _ _ _ rfl]; rfl
    have ck := check_any mn mx sa so li
    obtain ⟨E, hE⟩ : ∃ E, chkF mn mx sa so li = E := ⟨_, rfl⟩
    rw [hE] at ck hok
    have t1 : (E != 0) = true := by simpa using hok
    clear hE hb1 p1 hB s1 s2 hok
    go_wp2_with fail
    refine (ck _).mono ?_
    rintro e w2 ⟨rfl, hb⟩
    have HE := Kp.mk (Below.then HE.out HE.out.size hb)
    clear hb ck c0 c1 c2 c3 c4
    go_wp2_with fail
    refine (awake_any _ (HC.out.below HE.out HC.out.pos)).mono ?_
    rintro e wE ⟨rfl, hb⟩
    have HE2 := Kp.mk (Below.then HE.out HE.out.size hb)
    clear hb
    go_wp2_with fail
    go_ret
    exact ⟨by simp, HE2.out⟩
theorem first_walk (mn mx sa so li st sA sO sP tt tA tO tP : Int) (w : World) (_ : I64 mn) (_ : I64 mx) (_ : I64 sa) (_ : I64 so) (_ : I64 li) (_ : I64 st) (_ : I64 sA) (_ : I64 sO) (_ : I64 sP) (_ : I64 tt) (_ : I64 tA) (_ : I64 tO) (_ : I64 tP) (hc : ConfAt w) : Calls Tryd.prog 8 #[.agg #[.int .i64 mn, .int .i64 mx, .int .i64 sa, .int .i64 so, .int .i64 li], .agg #[.int .i64 st, .int .i64 sA, .int .i64 sO, .int .i64 sP], .agg #[.int .i64 tt, .int .i64 tA, .int .i64 tO, .int .i64 tP]] w fun x w' => x = .returned (.bool true) ∧ Below w.heap.size w w' := first_any mn mx sa so li st sA sO sP tt tA tO tP w hc
end Go.Proofs.YtbfobodaeimklaaDoor
