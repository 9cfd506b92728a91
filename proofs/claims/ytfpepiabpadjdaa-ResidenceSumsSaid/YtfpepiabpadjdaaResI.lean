/-
  The contract of a table's Hold.
-/
import Derived.Test.YtfpepiabpadjdaaResH
import Derived.Deep.DeepCutAuto
import Derived.Maps.AppendAt
set_option linter.unusedSimpArgs false
set_option linter.unusedVariables false
namespace Go.Proofs.Ytfpepiabpadjdaa
open Go.RowKit Go.Maps
theorem folW (k : Int) : (Lit.int .i64 (followF k)).wf = true := by unfold followF; split <;> (try split) <;> decide
/-- The error of Hold. -/
def holdE (D : DataW Unit) (lim : Int) (p : PM) (stay : Int) : Int :=
  if okP p = false then 2 else if followF p.kind < 0 then 8 else if bits .and .i64 p.flags 512 = 0 then 15 else if inB stay 0 1125899906842624 = false then 3 else if Maps.has D (keyL (followF p.kind) p) = true then 10 else if lim ≤ Maps.size D then 13 else 0
/-- What the table holds behind Hold. -/
def holdD (D : DataW Unit) (lim : Int) (p : PM) (stay : Int) : DataW Unit := if holdE D lim p stay = 0 then D.put (keyL (followF p.kind) p) (.lit (.int .i64 stay)) else D
theorem own_tight {H : Type} {w : World} {P : Program} {k : TypeId} {R : Value → Option (DataW H × List MemPlace)} {b n : Nat} {D : DataW H} (h : w.ownsMap P k R b n D) : w.ownsMap P k R b (Maps.size D) D := by
  obtain ⟨es, clock, hb, F, hs, rfl⟩ := h
  exact ⟨es, clock, hb, F, by simp [Maps.size, length_sorted], rfl⟩
def HPost (tb : Nat) (m : Option Nat) (lim : Int) (D' : DataW Unit) (e : Int) (w : World) (x : Ending) (w' : World) : Prop := x = .returned (.int .i64 e) ∧ TabAt w' tb m lim D' ∧ w.grownBy w' m

set_option maxRecDepth 10000 in
set_option maxHeartbeats 4000000 in
theorem hold_any {w : World} {tb : Nat} {m : Option Nat} {lim : Int} {D : DataW Unit} (h : TabAt w tb m lim D) (h0 : m = none → lim ≤ 0) (p : PM) (hk : (Lit.int .i64 p.kind).wf = true) (hp : PWf p) (stay : Int) : Calls Try.prog 19 #[.pointer (some ⟨tb, 0, none⟩), .agg p.vals, .int .i64 stay] w (HPost tb m lim (holdD D lim p stay) (holdE D lim p stay) w) := by
  have ck := fun w => check_any p hk w
  have fo := fun w => follow_any p.kind w
  have kof := key_of (folW p.kind) hp
  have hlt := h.lt
  unfold holdD
  obtain ⟨r, hr⟩ : ∃ r, holdE D lim p stay = r := ⟨_, rfl⟩
  obtain ⟨D', hD'⟩ : ∃ D', (if holdE D lim p stay = 0 then D.put (keyL (followF p.kind) p) (.lit (.int .i64 stay)) else D) = D' := ⟨_, rfl⟩
  rw [hD', hr]
  rw [hr] at hD'
  unfold holdE at hr
  simp only [PM.vals] at ck
  generalize hf : followF p.kind = fk at *
  obtain ⟨W1, hW1⟩ : ∃ W, W = (w.alloc (.cells p.vals 33)) := ⟨_, rfl⟩
  have hm := PBox.made w p 33
  rw [← hW1] at hm
  have hX : Below w.heap.size w W1 := by rw [hW1]; exact (Below.refl _ _).alloc (Nat.le_refl _) _
  have hs1 : W1.heap.size = w.heap.size + 1 := by rw [hW1, World.size_alloc]
  have hT1 := h.below hX
  have HM := Kp.mk (And.intro hm (And.intro hX hT1))
  have c0 := hm.c0
  have c1 := hm.c1
  have c4 := hm.c4
  have c5 := hm.c5
  have c6 := hm.c6
  have HR := Kp.mk (And.intro hr hD')
  clear hr hD' hm hX hT1 h
  simp only [PM.vals] at hW1
  unfold PM.vals
  go_enter Try.func19, Try.ntmps19
  go_upto_region 1 with fail
  rw [← hW1]
  clear hW1
  go_upto_region 5 with (go_at_call 37; refine (fo _).mono ?_; rintro e w' ⟨rfl, rfl⟩)
  obtain ⟨W2, hW2⟩ : ∃ W, W = (W1.alloc (.cells #[.int .i64 fk, .int .i64 p.domain, .int .u64 p.clock, .int .i64 p.port, .int .i64 p.seq] 76)) := ⟨_, rfl⟩
  rw [← hW2]
  have hX12 : Below W1.heap.size W1 W2 := by rw [hW2]; exact (Below.refl _ _).alloc (Nat.le_refl _) _
  have hs2 : W2.heap.size = w.heap.size + 2 := by rw [hW2, World.size_alloc, hs1]
  have k0 : W2.cell? ⟨w.heap.size + 1, 0, none⟩ = some (.int .i64 fk) := by rw [hW2, World.cell?_alloc_at _ _ _ _ hs1.symm]; rfl
  have k1 : W2.cell? ⟨w.heap.size + 1, 1, none⟩ = some (.int .i64 p.domain) := by rw [hW2, World.cell?_alloc_at _ _ _ _ hs1.symm]; rfl
  have k2 : W2.cell? ⟨w.heap.size + 1, 2, none⟩ = some (.int .u64 p.clock) := by rw [hW2, World.cell?_alloc_at _ _ _ _ hs1.symm]; rfl
  have k3 : W2.cell? ⟨w.heap.size + 1, 3, none⟩ = some (.int .i64 p.port) := by rw [hW2, World.cell?_alloc_at _ _ _ _ hs1.symm]; rfl
  have k4 : W2.cell? ⟨w.heap.size + 1, 4, none⟩ = some (.int .i64 p.seq) := by rw [hW2, World.cell?_alloc_at _ _ _ _ hs1.symm]; rfl
  clear hW2
  have HW := HM.out
  have hm := HW.1.below hX12 (by rw [hs1]; omega)
  have hX := Below.then HW.2.1 HW.2.1.size hX12
  have hT := HW.2.2.below hX12
  have c0 := hT.c0
  have c1 := hT.c1
  clear HM HW hX12 hs1 c4 c5 c6
  obtain ⟨sc, hat, hwf, hl⟩ := hT.own.look kof
  have hlen := hT.own.len
  have HC := Kp.mk hat
  clear hat hwf
  have HM := Kp.mk (And.intro hm (And.intro hX (And.intro hT kof)))
  have hrow := hm.row
  have m2 := hm.c2
  clear hm hX hT kof
  go_quiet (fail)
  obtain ⟨W3, hW3⟩ : ∃ W, W = W2.drewN nq := ⟨_, rfl⟩
  rw [← hW3]
  have hrow3 := HM.out.1.below (by rw [hW3]; exact Below.of_drewN _ _ : Below W2.heap.size W2 W3) (by rw [hs2]; omega)
  have hrow3 := hrow3.row
  have hX23 : Below W2.heap.size W2 W3 := by rw [hW3]; exact Below.of_drewN _ _
  have hs3 : W3.heap.size = w.heap.size + 2 := by rw [hW3]; exact hs2
  clear hW3 hrow c0 c1 hl hlen m2
  go_wp2_with (refine wpList_load_mid rfl 33 _ rfl w.heap.size 0 rfl _ _ hrow3 Try.underlying33 rfl (by kernel_rfl) ?_)
  refine (ck _).mono ?_
  rintro e w4 ⟨er, rfl, he, hb⟩
  have hX24 : Below W2.heap.size W2 w4 := Below.then hX23 hX23.size hb
  have HW := HM.out
  have hm := HW.1.below hX24 (by rw [hs2]; omega)
  have hX := Below.then HW.2.1 HW.2.1.size hX24
  have hT := HW.2.2.1.below hX24
  have k0 := (hX24.cell (p := ⟨w.heap.size + 1, 0, none⟩) (by simp [hs2])).trans k0
  have k1 := (hX24.cell (p := ⟨w.heap.size + 1, 1, none⟩) (by simp [hs2])).trans k1
  have k2 := (hX24.cell (p := ⟨w.heap.size + 1, 2, none⟩) (by simp [hs2])).trans k2
  have k3 := (hX24.cell (p := ⟨w.heap.size + 1, 3, none⟩) (by simp [hs2])).trans k3
  have k4 := (hX24.cell (p := ⟨w.heap.size + 1, 4, none⟩) (by simp [hs2])).trans k4
  have c0 := hT.c0
  have c1 := hT.c1
  have m2 := hm.c2
  have hlen := hT.own.len
  have HT := Kp.mk (And.intro hT (And.intro (Below.grownBy hX m) HW.2.2.2))
  clear HM HW hm hX hT hb hX23 hX24 hs3 hs2 hrow3 ck fo
  have du1 := fun w => duration_any stay w
  obtain ⟨hb, hhb⟩ : ∃ x, Maps.has D (keyL fk p) = x := ⟨_, rfl⟩
  obtain ⟨b2, hb2⟩ : ∃ x, decide (fk < 0) = x := ⟨_, rfl⟩
  obtain ⟨b3, hb3⟩ : ∃ x, (bits .and .i64 p.flags 512 == 0) = x := ⟨_, rfl⟩
  obtain ⟨d1, hd1⟩ : ∃ x, inB stay 0 1125899906842624 = x := ⟨_, rfl⟩
  obtain ⟨b5, hb5⟩ : ∃ x, decide (lim ≤ (Maps.size D : Int)) = x := ⟨_, rfl⟩
  have hr := HR.out.1
  rw [hhb, hd1] at hr
  rw [hhb]
  rw [hd1] at du1
  have hR2 := Kp.mk HR.out.2
  have H3 := Kp.mk (And.intro hb3 (And.intro hd1 hhb))
  have hr : (if okP p = false then 2 else if b2 = true then 8 else if b3 = true then 15 else if d1 = false then 3 else if hb = true then 10 else if b5 = true then 13 else 0) = r := by
    rw [← hr, ← hb2, ← hb3, ← hb5]; simp only [decide_eq_true_eq, beq_iff_eq]
  clear HR hhb hd1
  generalize okP p = c at *
  cases c
  · as_aux_lemma =>
    have t1 : (er != 0) = true := by simpa using he
    have hr := hr
    simp at hr
    subst hr
    have hD := hR2.out
    rw [if_neg (by decide)] at hD
    subst hD
    go_wp2_with fail
    exact bodyPost_ret (v := .int .i64 2) (by simp [results, Try.results19, go_sem]) rfl ⟨rfl, HT.out.1, HT.out.2.1⟩
  have t1 : (er != 0) = false := by simpa using he
  cases b2
  · cases b3
    · cases d1
      · as_aux_lemma =>
        simp at hr
        subst hr
        have hD := hR2.out
        rw [if_neg (by decide)] at hD
        subst hD
        go_wp2_with (go_at_call 33; refine (du1 _).mono ?_; rintro e w' ⟨rfl, rfl⟩)
        exact bodyPost_ret (v := .int .i64 3) (by simp [results, Try.results19, go_sem]) rfl ⟨rfl, HT.out.1, HT.out.2.1⟩
      · cases hb
        · cases b5
          · as_aux_lemma =>
            simp only [Bool.true_eq_false, Bool.false_eq_true, if_false] at hr
            subst hr
            have hD := hR2.out
            rw [if_pos rfl] at hD
            obtain ⟨hT, hG, kof⟩ := HT.out
            have h5 : ¬ lim ≤ (Maps.size D : Int) := by simpa using hb5
            obtain ⟨mb, hmb⟩ : ∃ b, m = some b := by
              cases m with
              | none => exact absurd (Int.le_trans (h0 rfl) (Int.natCast_nonneg _)) h5
              | some b => exact ⟨b, rfl⟩
            subst hmb
            obtain ⟨n, hown⟩ := hT.own
            have hown := own_tight hown
            have hsz : Maps.size D < maxLen := by have := hT.limit; unfold maxLen; omega
            have hst : (Lit.int .i64 stay).wf = true := by have := H3.out.2.1; simp [inB] at this; exact WalkArith.wf_i64 (by omega)
            have HT := Kp.mk (And.intro hT hG)
            have HB5 := Kp.mk hb5
            clear hT hG hb2 hb3 H3 h5 h0
            go_wp2_with (go_at_call 33; refine (du1 _).mono ?_; rintro e w' ⟨rfl, rfl⟩)
            have hb5 := HB5.out
            go_quiet (fail)
            rename_i nq'
            go_wp2_with fail
            refine wp_region_quiet_tail 7 (by kernel_rfl) (by kernel_rfl) ?_
            simp only [List.take_succ_cons, List.take_zero, List.drop_succ_cons, List.drop_zero]
            repeat (quiet_step (fail))
            refine wpQuiet_nil ?_
            intro w5 hw'
            obtain ⟨nq2, hw''⟩ := hw'
            have hown5 : w5.ownsMap Try.prog 76 (plainElem Try.prog 3) mb (Maps.size D) D := by subst hw''; exact hown
            have hX : Below w4.heap.size w4 w5 := by subst hw''; exact Below.drewN (Below.of_drewN _ _) _
            clear hw'' c0 c1 hlen k0 k1 k2 k3 k4 m2 hown
            refine wpList_mapUpdate_own _ rfl _ _ _ 53 rfl 76 3 lawK Try.underlying53 _ mb _ _ rfl hown5 hsz _ _ _ rfl rfl kof _ [] (plainElem_int Try.underlying3 hst) ?_
            intro w6 hown6 hg6
            rw [hD] at hown6
            have hT5 := HT.out.1.below hX
            have hne := hT5.ne
            have hT6 : TabAt w6 tb (some mb) lim D' := ⟨hg6.cell hT5.c0 (by intro e; exact hne e.symm), hg6.cell hT5.c1 (by intro e; exact hne e.symm), Nat.lt_of_lt_of_le hT5.lt hg6.size, hT5.limit, ⟨_, hown6⟩⟩
            have hG6 := (HT.out.2.trans (Below.grownBy hX (some mb))).trans hg6
            clear hown5 hown6 hg6 hT5 hne hX HT
            go_wp2_with fail
            exact bodyPost_ret (v := .int .i64 0) (by simp [results, Try.results19, go_sem]) rfl ⟨rfl, hT6, hG6⟩
          · as_aux_lemma =>
            simp at hr
            subst hr
            have hD := hR2.out
            rw [if_neg (by decide)] at hD
            subst hD
            go_wp2_with (go_at_call 33; refine (du1 _).mono ?_; rintro e w' ⟨rfl, rfl⟩)
            go_quiet (fail)
            rename_i nq'
            go_wp2_with fail
            exact bodyPost_ret (v := .int .i64 13) (by simp [results, Try.results19, go_sem]) rfl ⟨rfl, HT.out.1.below (Below.of_drewN _ _), HT.out.2.1.trans (Below.grownBy (Below.of_drewN _ _) _)⟩
        · as_aux_lemma =>
          simp at hr
          subst hr
          have hD := hR2.out
          rw [if_neg (by decide)] at hD
          subst hD
          go_wp2_with (go_at_call 33; refine (du1 _).mono ?_; rintro e w' ⟨rfl, rfl⟩)
          exact bodyPost_ret (v := .int .i64 10) (by simp [results, Try.results19, go_sem]) rfl ⟨rfl, HT.out.1, HT.out.2.1⟩
    · as_aux_lemma =>
      simp at hr
      subst hr
      have hD := hR2.out
      rw [if_neg (by decide)] at hD
      subst hD
      go_wp2_with fail
      exact bodyPost_ret (v := .int .i64 15) (by simp [results, Try.results19, go_sem]) rfl ⟨rfl, HT.out.1, HT.out.2.1⟩
  · as_aux_lemma =>
    simp at hr
    subst hr
    have hD := hR2.out
    rw [if_neg (by decide)] at hD
    subst hD
    go_wp2_with fail
    exact bodyPost_ret (v := .int .i64 8) (by simp [results, Try.results19, go_sem]) rfl ⟨rfl, HT.out.1, HT.out.2.1⟩
end Go.Proofs.Ytfpepiabpadjdaa
