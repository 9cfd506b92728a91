/-
  The contracts of a nil table's Hold, and of Release.
-/
import Derived.Test.YtfpepiabpadjdaaResI
import Derived.Deep.DeepCutAuto
import Derived.Maps.Range
set_option linter.unusedSimpArgs false
set_option linter.unusedVariables false
namespace Go.Proofs.Ytfpepiabpadjdaa
open Go.RowKit Go.Maps
theorem hold_nil (w : World) (p : PM) (stay : Int) : Calls Try.prog 19 #[.pointer none, .agg p.vals, .int .i64 stay] w fun x w' => x = .returned (.int .i64 1) ∧ Below w.heap.size w w' := by
  have hX : Below w.heap.size w (w.alloc (.cells p.vals 33)) := (Below.refl _ _).alloc (Nat.le_refl _) _
  unfold PM.vals at hX ⊢
  go_enter Try.func19, Try.ntmps19
  go_wp2
  go_ret
  exact ⟨rfl, hX⟩
theorem PBox.grown {w W : World} {b : Nat} {row : Option Nat} {p : PM} (h : PBox w b p) (hg : w.grownBy W row) (hb : some b ≠ row) : PBox W b p :=
  ⟨Nat.lt_of_lt_of_le h.lt hg.size, hg.cell h.c0 hb, hg.cell h.c1 hb, hg.cell h.c2 hb, hg.cell h.c3 hb, hg.cell h.c4 hb, hg.cell h.c5 hb, hg.cell h.c6 hb, hg.cell h.c7 hb, hg.cell h.c8 hb, hg.cell h.c9 hb, hg.cell h.c10 hb, hg.cell h.c11 hb, hg.cell h.c12 hb, hg.cell h.c13 hb, hg.cell h.c14 hb, hg.cell h.c15 hb, hg.cell h.c16 hb, hg.cell h.c17 hb, hg.cell h.c18 hb, hg.cell h.c19 hb, hg.cell h.c20 hb⟩
theorem there_grown {w W : World} {b n : Nat} {row : Option Nat} (h : w.there b 0 n) (hlt : b < w.heap.size) (hg : w.grownBy W row) (hb : some b ≠ row) : W.there b 0 n := fun j hj => by
  have hk := hg.block b hlt hb
  rw [World.cell?_of_block (w := w) (a := ⟨b, 0 + j, none⟩) hk, World.frozen?_of_block (w := w) (a := ⟨b, 0 + j, none⟩) hk]
  exact h j hj
theorem wpList_build_key {ops : Array Oper} {rest : List Oper} {o : Oper} {a : Act} {w : World} {Q : Exit → Act → World → Prop} (hg : o.guard = none) (x0 x1 x2 x3 x4 : Operand) (hop : o.op = .build 76 #[(0, x0), (1, x1), (2, x2), (3, x3), (4, x4)])
    (n0 n1 n2 n3 n4 : Int) (h0 : a.eval x0 = .int .i64 n0) (h1 : a.eval x1 = .int .i64 n1) (h2 : a.eval x2 = .int .u64 n2) (h3 : a.eval x3 = .int .i64 n3) (h4 : a.eval x4 = .int .i64 n4)
    (h : wpList Try.prog ops Q rest (a.put o.dst (.agg #[.int .i64 n0, .int .i64 n1, .int .u64 n2, .int .i64 n3, .int .i64 n4])) w) : wpList Try.prog ops Q (o :: rest) a w := by
  refine wpList_plain hg fun K' hK' => ?_
  unfold Oper.wp
  have hev : (execOp a.eval o).run Try.prog w = .ok (.value (.agg #[.int .i64 n0, .int .i64 n1, .int .u64 n2, .int .i64 n3, .int .i64 n4])) w := by
    generalize a.eval = ev at *
    simp [execOp, hop, h0, h1, h2, h3, h4, go_sem]
  simp [hev]
  exact hK' _ _ h
theorem grown_setCells {w : World} (b : Nat) : ∀ (vs : List Value) (o : Nat) (W : World), w.grownBy W (some b) → w.grownBy (W.setCells b o vs) (some b)
  | [], _, _, h => h
  | v :: r, o, W, h => grown_setCells b r (o + 1) _ ⟨h.os, h.tape, h.output, by have := h.size; simp [World.setCell]; exact this, fun k hk hne => (Below.heap_setCell W ⟨b, o, none⟩ v k (fun e => hne (by rw [e]))).trans (h.block k hk hne)⟩
theorem TabAt.stored {w : World} {tb : Nat} {m : Option Nat} {lim : Int} {D : DataW Unit} (h : TabAt w tb m lim D) (bl : Nat) (vs : List Value) (h1 : bl ≠ tb) (h2 : ∀ b, m = some b → bl ≠ b) : TabAt (w.setCells bl 0 vs) tb m lim D :=
  h.kept (grown_setCells bl vs 0 w (World.grownBy.refl w _)) (by simpa using h1) (fun b hb => by simpa using h2 b hb)
theorem grown_stored {w w1 : World} {m : Option Nat} (hG : w.grownBy w1 m) (bl : Nat) (vs : List Value) (hb : w.heap.size ≤ bl) : w.grownBy (w1.setCells bl 0 vs) m :=
  hG.andThen (grown_setCells bl vs 0 w1 (World.grownBy.refl w1 _)) (fun j hj => .inl (by cases hj; exact hb))
theorem TabAt.mlt {w : World} {tb : Nat} {m : Option Nat} {lim : Int} {D : DataW Unit} (h : TabAt w tb m lim D) : ∀ b, m = some b → b < w.heap.size := by
  rintro b rfl
  obtain ⟨n, hown⟩ := h.own
  exact hown.lt
def litI : DataW Unit → Int
  | .lit (.int _ a) => a
  | _ => 0
/-- The stay that is held at a key. -/
def stayAt (D : DataW Unit) (p : PM) : Int := litI (D.atKey (keyL p.kind p) (.lit (.int .i64 0)))
/-- What Release answers. -/
def relF (D : DataW Unit) (p : PM) : PM × Int :=
  if okP p = false then (PM.zero, 2) else if (p.kind == 8 || p.kind == 10) = false then (PM.zero, 8) else if Maps.has D (keyL p.kind p) = false then (PM.zero, 11) else corrF p (stayAt D p)
/-- What the table holds behind Release. -/
def relD (D : DataW Unit) (p : PM) : DataW Unit := if (relF D p).2 = 0 then D.del (keyL p.kind p) else D
def RPost (tb : Nat) (m : Option Nat) (lim : Int) (D' : DataW Unit) (q : PM) (e : Int) (w : World) (x : Ending) (w' : World) : Prop := x = .returned (.tuple #[.agg q.vals, .int .i64 e]) ∧ TabAt w' tb m lim D' ∧ w.grownBy w' m
set_option maxRecDepth 10000 in
set_option maxHeartbeats 8000000 in
theorem release_any {w : World} {tb : Nat} {m : Option Nat} {lim : Int} {D : DataW Unit} (h : TabAt w tb m lim D) (p : PM) (hk : (Lit.int .i64 p.kind).wf = true) (hp : PWf p) (hc : -9223372036854775808 ≤ p.corr ∧ p.corr ≤ 9223372036854775807)
    (hst : Maps.has D (keyL p.kind p) = true → 0 ≤ stayAt D p ∧ stayAt D p ≤ 9223372036854775807) : Calls Try.prog 21 #[.pointer (some ⟨tb, 0, none⟩), .agg p.vals] w (RPost tb m lim (relD D p) (relF D p).1 (relF D p).2 w) := by
  have ck := fun w => check_any p hk w
  have kof := key_of hk hp
  have hlt := h.lt
  have hmlt := h.mlt
  have hX : Below w.heap.size w (w.alloc (.cells p.vals 33)) := (Below.refl _ _).alloc (Nat.le_refl _) _
  have hX2 : Below w.heap.size w ((w.alloc (.cells p.vals 33)).alloc (.cells #[.int .i64 0, .int .i64 0, .int .i64 0, .int .i64 0, .int .u64 0, .int .i64 0, .int .i64 0, .int .i64 0, .int .i64 0, .int .i64 0, .int .u64 0, .int .i64 0, .int .i64 0, .int .i64 0, .int .i64 0, .int .i64 0, .int .i64 0, .int .i64 0, .int .u64 0, .int .i64 0, .int .i64 0] 33)) := hX.alloc hX.size _
  have hth := there_new (w.alloc (.cells p.vals 33)) #[.int .i64 0, .int .i64 0, .int .i64 0, .int .i64 0, .int .u64 0, .int .i64 0, .int .i64 0, .int .i64 0, .int .i64 0, .int .i64 0, .int .u64 0, .int .i64 0, .int .i64 0, .int .i64 0, .int .i64 0, .int .i64 0, .int .i64 0, .int .i64 0, .int .u64 0, .int .i64 0, .int .i64 0] 33
  rw [World.size_alloc] at hth
  have hm := (PBox.made w p 33).below ((Below.refl _ _).alloc (Nat.le_refl _) (.cells #[.int .i64 0, .int .i64 0, .int .i64 0, .int .i64 0, .int .u64 0, .int .i64 0, .int .i64 0, .int .i64 0, .int .i64 0, .int .i64 0, .int .u64 0, .int .i64 0, .int .i64 0, .int .i64 0, .int .i64 0, .int .i64 0, .int .i64 0, .int .i64 0, .int .u64 0, .int .i64 0, .int .i64 0] 33)) (by simp)
  have hs2 : ((w.alloc (.cells p.vals 33)).alloc (.cells #[.int .i64 0, .int .i64 0, .int .i64 0, .int .i64 0, .int .u64 0, .int .i64 0, .int .i64 0, .int .i64 0, .int .i64 0, .int .i64 0, .int .u64 0, .int .i64 0, .int .i64 0, .int .i64 0, .int .i64 0, .int .i64 0, .int .i64 0, .int .i64 0, .int .u64 0, .int .i64 0, .int .i64 0] 33)).heap.size = w.heap.size + 2 := by rw [World.size_alloc, World.size_alloc]
  have hrow := hm.row
  obtain ⟨W, hW⟩ : ∃ W, W = (w.alloc (.cells p.vals 33)).alloc (.cells #[.int .i64 0, .int .i64 0, .int .i64 0, .int .i64 0, .int .u64 0, .int .i64 0, .int .i64 0, .int .i64 0, .int .i64 0, .int .i64 0, .int .u64 0, .int .i64 0, .int .i64 0, .int .i64 0, .int .i64 0, .int .i64 0, .int .i64 0, .int .i64 0, .int .u64 0, .int .i64 0, .int .i64 0] 33) := ⟨_, rfl⟩
  rw [← hW] at hX2 hth hm hs2 hrow
  have hT := h.below hX2
  have hG := Below.grownBy hX2 m
  simp only [PM.vals] at hW ck
  unfold relD
  obtain ⟨D', hD'⟩ : ∃ D', (if (relF D p).2 = 0 then D.del (keyL p.kind p) else D) = D' := ⟨_, rfl⟩
  obtain ⟨r, hr⟩ : ∃ r, relF D p = r := ⟨_, rfl⟩
  rw [hD', hr]
  rw [hr] at hD'
  unfold relF at hr
  have HT := Kp.mk (And.intro hT hG)
  have HR := Kp.mk (And.intro hr (And.intro hD' (And.intro hst (And.intro hc kof))))
  clear hr hD' hX hX2 hT hG h hst hc kof hp
  unfold PM.vals
  go_enter Try.func21, Try.ntmps21
  go_upto_region 3 with fail
  rw [← hW]
  clear hW
  go_wp2_with (refine wpList_load_mid rfl 33 _ rfl w.heap.size 0 rfl _ _ hrow Try.underlying33 rfl (by kernel_rfl) ?_)
  refine (ck _).mono ?_
  rintro e w1 ⟨er, rfl, he, hb1⟩
  have hm1 := hm.below hb1 (by rw [hs2]; omega)
  have hth1 := there_below hth hb1 (by rw [hs2]; omega)
  have hT1 := HT.out.1.below hb1
  have hG1 := HT.out.2.trans (Below.grownBy hb1 m)
  have hs1 : w.heap.size + 1 < w1.heap.size := by have := hb1.size; rw [hs2] at this; omega
  clear hb1 hrow hth hm hs2 ck HT
  have c0 := hm1.c0
  have c1 := hm1.c1
  have c4 := hm1.c4
  have c5 := hm1.c5
  have c6 := hm1.c6
  have HT := Kp.mk (And.intro hT1 hG1)
  have HM := Kp.mk hm1
  clear hm1 hT1 hG1
  obtain ⟨hr, hD', hst, hc, kof⟩ := HR.out
  clear HR
  obtain ⟨b8, hb8⟩ : ∃ x, (p.kind != 8) = x := ⟨_, rfl⟩
  obtain ⟨b10, hb10⟩ : ∃ x, (p.kind != 10) = x := ⟨_, rfl⟩
  have e2 : (p.kind == 8 || p.kind == 10) = !(b8 && b10) := by rw [← hb8, ← hb10]; simp [bne, Bool.not_and]
  rw [e2] at hr
  generalize okP p = c at *
  cases c
  · as_aux_lemma =>
    have t1 : (er != 0) = true := by simpa using he
    simp at hr
    subst hr
    rw [if_neg (by decide)] at hD'
    subst hD'
    clear hst hc kof
    go_wp2_with (refine wpList_store_mid rfl 33 _ _ rfl (w.heap.size + 1) 0 _ rfl rfl hth1 (by kernel_rfl) (by kernel_rfl) ?_)
    exact bodyPost_ret (v := .tuple #[.agg PM.zero.vals, .int .i64 2]) (res_msg Try.results21 _ _ (w.heap.size + 1) PM.zero 2 rfl rfl (PBox.stored PM.zero hs1 hth1)) rfl ⟨rfl, (HT.out.1).stored _ _ (by omega) (fun b hb => by have := hmlt b hb; omega), grown_stored (HT.out.2) _ _ (by omega)⟩
  have t1 : (er != 0) = false := by simpa using he
  have hr : (if (b8 && b10) = true then (PM.zero, 8) else if Maps.has D (keyL p.kind p) = false then (PM.zero, 11) else corrF p (stayAt D p)) = r := by
    rw [← hr]; cases b8 <;> cases b10 <;> rfl
  have HR := Kp.mk (And.intro hr (And.intro hD' (And.intro hst (And.intro hc kof))))
  clear hr hD' hst hc kof
  rcases Bool.eq_false_or_eq_true (b8 && b10) with hbb | hbb
  · as_aux_lemma =>
    simp only [Bool.and_eq_true] at hbb
    obtain ⟨rfl, rfl⟩ := hbb
    obtain ⟨hr, hD', _⟩ := HR.out
    simp at hr
    subst hr
    rw [if_neg (by decide)] at hD'
    subst hD'
    go_wp2_with (refine wpList_store_mid rfl 33 _ _ rfl (w.heap.size + 1) 0 _ rfl rfl hth1 (by kernel_rfl) (by kernel_rfl) ?_)
    exact bodyPost_ret (v := .tuple #[.agg PM.zero.vals, .int .i64 8]) (res_msg Try.results21 _ _ (w.heap.size + 1) PM.zero 8 rfl rfl (PBox.stored PM.zero hs1 hth1)) rfl ⟨rfl, (HT.out.1).stored _ _ (by omega) (fun b hb => by have := hmlt b hb; omega), grown_stored (HT.out.2) _ _ (by omega)⟩
  rw [hbb] at HR
  have hcs : b8 = false ∨ (b8 = true ∧ b10 = false) := by cases b8 <;> cases b10 <;> simp at hbb ⊢
  clear hbb e2
  rcases hcs with rfl | ⟨rfl, rfl⟩
  all_goals
    as_aux_lemma =>
    go_upto_region 8 with (refine wpList_build_key rfl _ _ _ _ _ rfl _ _ _ _ _ rfl rfl rfl rfl rfl ?_)
    obtain ⟨w2, hw2⟩ : ∃ W, W = (w1.alloc (.cells #[.int .i64 p.kind, .int .i64 p.domain, .int .u64 p.clock, .int .i64 p.port, .int .i64 p.seq] 76)) := ⟨_, rfl⟩
    rw [← hw2]
    have hX12 : Below w1.heap.size w1 w2 := by rw [hw2]; exact (Below.refl _ _).alloc (Nat.le_refl _) _
    have hs2 : w2.heap.size = w1.heap.size + 1 := by rw [hw2, World.size_alloc]
    have k0 : w2.cell? ⟨w1.heap.size, 0, none⟩ = some (.int .i64 p.kind) := by rw [hw2, World.cell?_alloc_at _ _ _ _ rfl]; rfl
    have k1 : w2.cell? ⟨w1.heap.size, 1, none⟩ = some (.int .i64 p.domain) := by rw [hw2, World.cell?_alloc_at _ _ _ _ rfl]; rfl
    have k2 : w2.cell? ⟨w1.heap.size, 2, none⟩ = some (.int .u64 p.clock) := by rw [hw2, World.cell?_alloc_at _ _ _ _ rfl]; rfl
    have k3 : w2.cell? ⟨w1.heap.size, 3, none⟩ = some (.int .i64 p.port) := by rw [hw2, World.cell?_alloc_at _ _ _ _ rfl]; rfl
    have k4 : w2.cell? ⟨w1.heap.size, 4, none⟩ = some (.int .i64 p.seq) := by rw [hw2, World.cell?_alloc_at _ _ _ _ rfl]; rfl
    clear hw2 c0 c1 c4 c5 c6
    have hm := HM.out.below hX12 (Nat.lt_of_lt_of_le (by omega) (Nat.le_of_lt hs1))
    have hth2 := there_below hth1 hX12 hs1
    have hT := HT.out.1.below hX12
    have hG := HT.out.2.trans (Below.grownBy hX12 m)
    have c0 := hT.c0
    obtain ⟨hr, hD', hst, hc, kof⟩ := HR.out
    obtain ⟨sc, hat, hwf, hl⟩ := hT.own.look kof
    have hsc : stayAt D p = sc := by unfold stayAt; rw [hat]; rfl
    rw [hsc] at hst hr
    clear HM HT hth1 hX12 hat hwf hsc
    have hm1s : w.heap.size < w1.heap.size := by omega
    have HR := Kp.mk (And.intro hr (And.intro hD' (And.intro hst (And.intro hc kof))))
    have HT := Kp.mk (And.intro hm (And.intro hth2 (And.intro hT hG)))
    clear hr hD' hst hc kof hm hth2 hT hG
    go_quiet (fail)
    obtain ⟨w3, hw3⟩ : ∃ W, W = w2.drewN nq := ⟨_, rfl⟩
    rw [← hw3]
    have hX23 : Below w2.heap.size w2 w3 := by rw [hw3]; exact Below.of_drewN _ _
    have hs3 : w3.heap.size = w1.heap.size + 1 := by rw [hw3]; exact hs2
    have hm3 := HT.out.1.below hX23 (by omega)
    have hth3 := there_below HT.out.2.1 hX23 (by omega)
    have hT3 := HT.out.2.2.1.below hX23
    have hG3 := HT.out.2.2.2.trans (Below.grownBy hX23 m)
    have k0 := (hX23.cell (p := ⟨w1.heap.size, 0, none⟩) (by simp [hs2])).trans k0
    have k1 := (hX23.cell (p := ⟨w1.heap.size, 1, none⟩) (by simp [hs2])).trans k1
    have k2 := (hX23.cell (p := ⟨w1.heap.size, 2, none⟩) (by simp [hs2])).trans k2
    have k3 := (hX23.cell (p := ⟨w1.heap.size, 3, none⟩) (by simp [hs2])).trans k3
    have k4 := (hX23.cell (p := ⟨w1.heap.size, 4, none⟩) (by simp [hs2])).trans k4
    clear hX23 hw3 hs2 HT c0 hl
    have hrow := hm3.row
    have HT := Kp.mk (And.intro hm3 (And.intro hT3 hG3))
    clear hm3 hT3 hG3
    have hs13 : w.heap.size + 1 < w3.heap.size := by omega
    obtain ⟨hb, hhb⟩ : ∃ x, Maps.has D (keyL p.kind p) = x := ⟨_, rfl⟩
    rw [hhb]
    obtain ⟨hr, hD', hst, hc, kof⟩ := HR.out
    rw [hhb] at hr hst
    clear HR
    cases hb
    · as_aux_lemma =>
      simp at hr
      subst hr
      rw [if_neg (by decide)] at hD'
      subst hD'
      clear hst hc kof
      go_wp2_with (refine wpList_store_mid rfl 33 _ _ rfl (w.heap.size + 1) 0 _ rfl rfl hth3 (by kernel_rfl) (by kernel_rfl) ?_)
      exact bodyPost_ret (v := .tuple #[.agg PM.zero.vals, .int .i64 11]) (res_msg Try.results21 _ _ (w.heap.size + 1) PM.zero 11 rfl rfl (PBox.stored PM.zero hs13 hth3)) rfl ⟨rfl, (HT.out.2.1).stored _ _ (by omega) (fun b hb => by have := hmlt b hb; omega), grown_stored (HT.out.2.2) _ _ (by omega)⟩
    · as_aux_lemma =>
      simp only [Bool.false_eq_true, Bool.true_eq_false, if_false] at hr
      have cr := fun w => correct_any p hc sc (hst rfl).1 (hst rfl).2 w
      rw [hr] at cr
      simp only [PM.vals] at cr
      clear hst hc
      unfold MPost at cr
      obtain ⟨q, e⟩ := r
      simp only at cr hD' ⊢
      obtain ⟨mb, rfl⟩ : ∃ b, m = some b := by
        cases m with
        | none => have := HT.out.2.1.own; simp only [Held] at this; subst this; simp [Maps.has] at hhb
        | some b => exact ⟨b, rfl⟩
      have HK := Kp.mk (And.intro kof (And.intro hD' hhb))
      clear kof hD' hhb hr
      go_wp2_with (refine wpList_load_mid rfl 33 _ rfl w.heap.size 0 rfl _ _ hrow Try.underlying33 rfl (by kernel_rfl) ?_)
      refine (cr _).mono ?_
      rintro x w4 ⟨rfl, hb4⟩
      have hth4 := there_below hth3 hb4 hs13
      have hT4 := HT.out.2.1.below hb4
      have hG4 := HT.out.2.2.trans (Below.grownBy hb4 (some mb))
      have hs4 := hb4.size
      have k0 := (hb4.cell (p := ⟨w1.heap.size, 0, none⟩) (by simp [hs3])).trans k0
      have k1 := (hb4.cell (p := ⟨w1.heap.size, 1, none⟩) (by simp [hs3])).trans k1
      have k2 := (hb4.cell (p := ⟨w1.heap.size, 2, none⟩) (by simp [hs3])).trans k2
      have k3 := (hb4.cell (p := ⟨w1.heap.size, 3, none⟩) (by simp [hs3])).trans k3
      have k4 := (hb4.cell (p := ⟨w1.heap.size, 4, none⟩) (by simp [hs3])).trans k4
      have hth5 := there_new w4 #[.int .i64 0, .int .i64 0, .int .i64 0, .int .i64 0, .int .u64 0, .int .i64 0, .int .i64 0, .int .i64 0, .int .i64 0, .int .i64 0, .int .u64 0, .int .i64 0, .int .i64 0, .int .i64 0, .int .i64 0, .int .i64 0, .int .i64 0, .int .i64 0, .int .u64 0, .int .i64 0, .int .i64 0] 33
      clear hb4 hrow HT cr hth3
      have HT := Kp.mk (And.intro hT4 hG4)
      clear hT4 hG4
      simp only []
      iterate 13 (first | go_values | go_skip | go_guarded | go_step | go_upon)
      refine wpList_store_mid rfl 33 _ _ rfl w4.heap.size 0 _ rfl rfl hth5 (by kernel_rfl) (by kernel_rfl) ?_
      obtain ⟨w5, hw5⟩ : ∃ W, W = (w4.alloc (.cells #[.int .i64 0, .int .i64 0, .int .i64 0, .int .i64 0, .int .u64 0, .int .i64 0, .int .i64 0, .int .i64 0, .int .i64 0, .int .i64 0, .int .u64 0, .int .i64 0, .int .i64 0, .int .i64 0, .int .i64 0, .int .i64 0, .int .i64 0, .int .i64 0, .int .u64 0, .int .i64 0, .int .i64 0] 33)).setCells w4.heap.size 0 q.vals.toList := ⟨_, rfl⟩
      rw [← hw5]
      have hX45 : Below w4.heap.size w4 w5 := by rw [hw5]; exact Below.setCells _ (Nat.le_refl _) _ _ _ ((Below.refl _ _).alloc (Nat.le_refl _) _)
      have hq : PBox w5 w4.heap.size q := by rw [hw5]; exact PBox.stored q (by simp) hth5
      clear hw5 hth5
      have hs14 : w.heap.size + 1 < w4.heap.size := by omega
      have hs11 : w1.heap.size < w4.heap.size := by omega
      have hth6 := there_below hth4 hX45 hs14
      have hT5 := HT.out.1.below hX45
      have hG5 := HT.out.2.trans (Below.grownBy hX45 (some mb))
      have k0 := (hX45.cell (p := ⟨w1.heap.size, 0, none⟩) hs11).trans k0
      have k1 := (hX45.cell (p := ⟨w1.heap.size, 1, none⟩) hs11).trans k1
      have k2 := (hX45.cell (p := ⟨w1.heap.size, 2, none⟩) hs11).trans k2
      have k3 := (hX45.cell (p := ⟨w1.heap.size, 3, none⟩) hs11).trans k3
      have k4 := (hX45.cell (p := ⟨w1.heap.size, 4, none⟩) hs11).trans k4
      have hs15 : w.heap.size + 1 < w5.heap.size := Nat.lt_of_lt_of_le hs14 hX45.size
      have hmw := hmlt mb rfl
      clear hX45 hth4 HT
      have HT := Kp.mk (And.intro hT5 hG5)
      have c0 := hT5.c0
      have hrow := hq.row
      have HQ := Kp.mk hq
      clear hT5 hG5 hq
      obtain ⟨be, hbe⟩ : ∃ x, (e == 0) = x := ⟨_, rfl⟩
      obtain ⟨kof, hD', hhb⟩ := HK.out
      cases be
      · as_aux_lemma =>
        rw [if_neg (by simpa using hbe)] at hD'
        subst hD'
        clear HK kof hhb k0 k1 k2 k3 k4 c0
        go_upto_region 14 with fail
        go_wp2_with (first | (refine wpList_load_mid rfl 33 _ rfl w4.heap.size 0 rfl _ _ hrow Try.underlying33 rfl (by kernel_rfl) ?_) | (refine wpList_store_mid rfl 33 _ _ rfl (w.heap.size + 1) 0 _ rfl rfl hth6 (by kernel_rfl) (by kernel_rfl) ?_))
        exact bodyPost_ret (v := .tuple #[.agg q.vals, .int .i64 e]) (res_msg Try.results21 _ _ (w.heap.size + 1) q e rfl rfl (PBox.stored q hs15 hth6)) rfl ⟨rfl, (HT.out.1).stored _ _ (by omega) (fun b hb => by have := hmlt b hb; omega), grown_stored (HT.out.2) _ _ (by omega)⟩
      · as_aux_lemma =>
        rw [if_pos (by simpa using hbe)] at hD'
        clear HK hhb
        go_upto_region 13 with fail
        refine wp_region_quiet_tail 6 (by kernel_rfl) (by kernel_rfl) ?_
        simp only [List.take_succ_cons, List.take_zero, List.drop_succ_cons, List.drop_zero]
        repeat (quiet_step (fail))
        refine wpQuiet_nil ?_
        intro w6 hw'
        obtain ⟨nq2, hw''⟩ := hw'
        obtain ⟨n, hown⟩ := HT.out.1.own
        have hown6 : w6.ownsMap Try.prog 76 (plainElem Try.prog 3) mb n D := by subst hw''; exact hown
        have hX : Below w5.heap.size w5 w6 := by subst hw''; exact Below.of_drewN _ _
        clear hw'' c0 k0 k1 k2 k3 k4 hown
        refine wpList_delete_own _ rfl _ _ 53 76 rfl 3 lawK Try.underlying53 _ mb n _ rfl hown6 _ _ rfl kof ?_
        intro w7 hown7 ht7
        rw [hD'] at hown7
        have hg7 := ht7.grown
        have hT6 := HT.out.1.below hX
        have hne := hT6.ne
        have hT7 : TabAt w7 tb (some mb) lim D' := ⟨hg7.cell hT6.c0 (by intro e; exact hne e.symm), hg7.cell hT6.c1 (by intro e; exact hne e.symm), Nat.lt_of_lt_of_le hT6.lt hg7.size, hT6.limit, ⟨_, hown7⟩⟩
        have hG7 := (HT.out.2.trans (Below.grownBy hX (some mb))).trans hg7
        have hq7 := (HQ.out.below hX HQ.out.lt).grown hg7 (by intro e; cases e; omega)
        have hth7 := there_grown (there_below hth6 hX hs15) (Nat.lt_of_lt_of_le hs15 hX.size) hg7 (by intro e; cases e; omega)
        have hs17 : w.heap.size + 1 < w7.heap.size := Nat.lt_of_lt_of_le hs15 (Nat.le_trans hX.size hg7.size)
        clear HQ HT hT6 hne hown6 hown7 ht7 hg7 hX hth6 hrow
        have hrow := hq7.row
        have HT := Kp.mk (And.intro hT7 hG7)
        clear hT7 hG7 hq7
        go_upto_region 14 with fail
        go_wp2_with (first | (refine wpList_load_mid rfl 33 _ rfl w4.heap.size 0 rfl _ _ hrow Try.underlying33 rfl (by kernel_rfl) ?_) | (refine wpList_store_mid rfl 33 _ _ rfl (w.heap.size + 1) 0 _ rfl rfl hth7 (by kernel_rfl) (by kernel_rfl) ?_))
        exact bodyPost_ret (v := .tuple #[.agg q.vals, .int .i64 e]) (res_msg Try.results21 _ _ (w.heap.size + 1) q e rfl rfl (PBox.stored q hs17 hth7)) rfl ⟨rfl, (HT.out.1).stored _ _ (by omega) (fun b hb => by have := hmlt b hb; omega), grown_stored (HT.out.2) _ _ (by omega)⟩
end Go.Proofs.Ytfpepiabpadjdaa
