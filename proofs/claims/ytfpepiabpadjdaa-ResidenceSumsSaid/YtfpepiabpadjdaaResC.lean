/-
  A message in memory, and its check.
-/
import Derived.Test.YtfpepiabpadjdaaResB
import Derived.Deep.MidRow
set_option linter.unusedSimpArgs false
set_option linter.unusedVariables false
namespace Go.Proofs.Ytfpepiabpadjdaa
open Go.RowKit
/-- Block b is a message (a variable that holds one). -/
structure PBox (w : World) (b : Nat) (p : PM) : Prop where
  lt : b < w.heap.size
  c0 : w.cell? ⟨b, 0, none⟩ = some (.int .i64 p.kind)
  c1 : w.cell? ⟨b, 1, none⟩ = some (.int .i64 p.domain)
  c2 : w.cell? ⟨b, 2, none⟩ = some (.int .i64 p.flags)
  c3 : w.cell? ⟨b, 3, none⟩ = some (.int .i64 p.corr)
  c4 : w.cell? ⟨b, 4, none⟩ = some (.int .u64 p.clock)
  c5 : w.cell? ⟨b, 5, none⟩ = some (.int .i64 p.port)
  c6 : w.cell? ⟨b, 6, none⟩ = some (.int .i64 p.seq)
  c7 : w.cell? ⟨b, 7, none⟩ = some (.int .i64 p.logint)
  c8 : w.cell? ⟨b, 8, none⟩ = some (.int .i64 p.sec)
  c9 : w.cell? ⟨b, 9, none⟩ = some (.int .i64 p.nano)
  c10 : w.cell? ⟨b, 10, none⟩ = some (.int .u64 p.reqclock)
  c11 : w.cell? ⟨b, 11, none⟩ = some (.int .i64 p.reqport)
  c12 : w.cell? ⟨b, 12, none⟩ = some (.int .i64 p.utc)
  c13 : w.cell? ⟨b, 13, none⟩ = some (.int .i64 p.p1)
  c14 : w.cell? ⟨b, 14, none⟩ = some (.int .i64 p.cls)
  c15 : w.cell? ⟨b, 15, none⟩ = some (.int .i64 p.acc)
  c16 : w.cell? ⟨b, 16, none⟩ = some (.int .i64 p.vr)
  c17 : w.cell? ⟨b, 17, none⟩ = some (.int .i64 p.p2)
  c18 : w.cell? ⟨b, 18, none⟩ = some (.int .u64 p.gm)
  c19 : w.cell? ⟨b, 19, none⟩ = some (.int .i64 p.steps)
  c20 : w.cell? ⟨b, 20, none⟩ = some (.int .i64 p.src)
theorem PBox.below {w W : World} {b B : Nat} {p : PM} (h : PBox w b p) (hB : Below B w W) (hb : b < B) : PBox W b p :=
  ⟨Nat.lt_of_lt_of_le h.lt hB.size, (hB.cell hb).trans h.c0, (hB.cell hb).trans h.c1, (hB.cell hb).trans h.c2, (hB.cell hb).trans h.c3, (hB.cell hb).trans h.c4, (hB.cell hb).trans h.c5, (hB.cell hb).trans h.c6, (hB.cell hb).trans h.c7, (hB.cell hb).trans h.c8, (hB.cell hb).trans h.c9, (hB.cell hb).trans h.c10, (hB.cell hb).trans h.c11, (hB.cell hb).trans h.c12, (hB.cell hb).trans h.c13, (hB.cell hb).trans h.c14, (hB.cell hb).trans h.c15, (hB.cell hb).trans h.c16, (hB.cell hb).trans h.c17, (hB.cell hb).trans h.c18, (hB.cell hb).trans h.c19, (hB.cell hb).trans h.c20⟩
theorem PBox.made (w : World) (p : PM) (t : TypeId) : PBox (w.alloc (.cells p.vals t)) w.heap.size p := by
  constructor
  · simp
  all_goals (rw [World.cell?_alloc_at _ _ _ _ rfl]; rfl)
theorem PBox.row {w : World} {b : Nat} {p : PM} (h : PBox w b p) : w.rangeAt b 0 [.int .i64 p.kind, .int .i64 p.domain, .int .i64 p.flags, .int .i64 p.corr, .int .u64 p.clock, .int .i64 p.port, .int .i64 p.seq, .int .i64 p.logint, .int .i64 p.sec, .int .i64 p.nano, .int .u64 p.reqclock, .int .i64 p.reqport, .int .i64 p.utc, .int .i64 p.p1, .int .i64 p.cls, .int .i64 p.acc, .int .i64 p.vr, .int .i64 p.p2, .int .u64 p.gm, .int .i64 p.steps, .int .i64 p.src] := by
  intro j v hv
  rcases j with _ | _ | _ | _ | _ | _ | _ | _ | _ | _ | _ | _ | _ | _ | _ | _ | _ | _ | _ | _ | _ | j
  · have := h.c0; simp at hv; subst hv; exact this
  · have := h.c1; simp at hv; subst hv; exact this
  · have := h.c2; simp at hv; subst hv; exact this
  · have := h.c3; simp at hv; subst hv; exact this
  · have := h.c4; simp at hv; subst hv; exact this
  · have := h.c5; simp at hv; subst hv; exact this
  · have := h.c6; simp at hv; subst hv; exact this
  · have := h.c7; simp at hv; subst hv; exact this
  · have := h.c8; simp at hv; subst hv; exact this
  · have := h.c9; simp at hv; subst hv; exact this
  · have := h.c10; simp at hv; subst hv; exact this
  · have := h.c11; simp at hv; subst hv; exact this
  · have := h.c12; simp at hv; subst hv; exact this
  · have := h.c13; simp at hv; subst hv; exact this
  · have := h.c14; simp at hv; subst hv; exact this
  · have := h.c15; simp at hv; subst hv; exact this
  · have := h.c16; simp at hv; subst hv; exact this
  · have := h.c17; simp at hv; subst hv; exact this
  · have := h.c18; simp at hv; subst hv; exact this
  · have := h.c19; simp at hv; subst hv; exact this
  · have := h.c20; simp at hv; subst hv; exact this
  · simp at hv
theorem PBox.ann {w : World} {b : Nat} {p : PM} (h : PBox w b p) : w.rangeAt b 12 [.int .i64 p.utc, .int .i64 p.p1, .int .i64 p.cls, .int .i64 p.acc, .int .i64 p.vr, .int .i64 p.p2, .int .u64 p.gm, .int .i64 p.steps, .int .i64 p.src] := by
  intro j v hv
  rcases j with _ | _ | _ | _ | _ | _ | _ | _ | _ | j
  · have := h.c12; simp at hv; subst hv; exact this
  · have := h.c13; simp at hv; subst hv; exact this
  · have := h.c14; simp at hv; subst hv; exact this
  · have := h.c15; simp at hv; subst hv; exact this
  · have := h.c16; simp at hv; subst hv; exact this
  · have := h.c17; simp at hv; subst hv; exact this
  · have := h.c18; simp at hv; subst hv; exact this
  · have := h.c19; simp at hv; subst hv; exact this
  · have := h.c20; simp at hv; subst hv; exact this
  · simp at hv
def annZ (p : PM) : Bool := p.utc == 0 && p.p1 == 0 && p.cls == 0 && p.acc == 0 && p.vr == 0 && p.p2 == 0 && p.gm == 0 && p.steps == 0 && p.src == 0
def formB (p : PM) : Bool := (reqB p.kind || (p.reqclock == 0 && p.reqport == 0)) && (p.kind == 11 || annZ p)
def okP (p : PM) : Bool := sizeF p.kind != 0 && inRB p && formB p
set_option maxRecDepth 10000 in
set_option maxHeartbeats 4000000 in
theorem check_any (p : PM) (hk : (Lit.int .i64 p.kind).wf = true) (w : World) : Calls Try.prog 32 #[.agg p.vals] w (EPost (okP p) w) := by
  have sz := fun w => msize_any p.kind w hk
  have ir := fun w => inrange_any p w
  unfold PM.vals at ir
  have rq := fun w => requester_any p.kind w
  obtain ⟨c, hc⟩ : ∃ c, okP p = c := ⟨_, rfl⟩
  rw [hc]
  unfold okP formB at hc
  generalize sizeF p.kind = z at *
  generalize inRB p = bi at *
  generalize hrq : reqB p.kind = bq at *
  have HC := Kp.mk hc
  clear hc hk
  have hm := PBox.made w p 33
  have hX : Below w.heap.size w (w.alloc (.cells p.vals 33)) := (Below.refl _ _).alloc (Nat.le_refl _) _
  have hXs : (w.alloc (.cells p.vals 33)).heap.size = w.heap.size + 1 := World.size_alloc _ _
  unfold PM.vals
  go_enter Try.func32, Try.ntmps32
  go_wp2_with fail
  refine (sz _).mono ?_
  rintro e w1 ⟨rfl, hb1⟩
  have hp1 : PBox w1 w.heap.size p := hm.below hb1 (by show _ < (w.alloc (.cells p.vals 33)).heap.size; omega)
  have hB1 : Below w.heap.size w w1 := Below.then hX hX.size hb1
  clear hb1 hm hX hXs sz
  have HP := Kp.mk hp1
  have hrow := hp1.row
  obtain ⟨lt, c0, c1, c2, c3, c4, c5, c6, c7, c8, c9, c10, c11, c12, c13, c14, c15, c16, c17, c18, c19, c20⟩ := hp1
  rcases Bool.eq_false_or_eq_true (z == 0) with hz | hz
  · as_aux_lemma =>
    go_wp2_with fail
    exact bodyPost_ret (v := .int .i64 8) (by simp [results, Try.results32, go_sem]) rfl ⟨8, rfl, (by rw [← HC.out, show z = 0 by simpa using hz]; rfl), hB1⟩
  · go_wp2_with (refine wpList_load_mid rfl 33 _ rfl w.heap.size 0 rfl _ _ hrow Try.underlying33 rfl (by kernel_rfl) ?_)
    refine (ir _).mono ?_
    rintro e w2 ⟨rfl, hb2⟩
    have hp2 := HP.out.below hb2 lt
    have hB2 : Below w.heap.size w w2 := Below.then hB1 hB1.size hb2
    clear hb2 HP c0 c1 c2 c3 c4 c5 c6 c7 c8 c9 c10 c11 c12 c13 c14 c15 c16 c17 c18 c19 c20 lt
    have HP := Kp.mk hp2
    obtain ⟨lt, c0, c1, c2, c3, c4, c5, c6, c7, c8, c9, c10, c11, c12, c13, c14, c15, c16, c17, c18, c19, c20⟩ := hp2
    cases bi
    · as_aux_lemma =>
      go_wp2_with fail
      exact bodyPost_ret (v := .int .i64 3) (by simp [results, Try.results32, go_sem]) rfl ⟨3, rfl, by rw [← HC.out]; simp, hB2⟩
    · as_aux_lemma =>
      go_wp2_with fail
      refine (rq _).mono ?_
      rintro e w' ⟨rfl, rfl⟩
      clear c1 c2 c3 c4 c5 c6 c7 c8 c9
      cases bq
      · go_wp2_with fail
        all_goals
          have hc := HC.out
          simp only [annZ] at hc
          first
            | (refine bodyPost_ret (v := .int .i64 0) ?_ rfl ⟨0, rfl, ?_, hB2⟩
               · simp [results, Try.results32, go_sem]; done
               · rw [← hc]; clear hc HC hrow HP; simp_all; done)
            | (refine bodyPost_ret (v := .int .i64 7) ?_ rfl ⟨7, rfl, ?_, hB2⟩
               · simp [results, Try.results32, go_sem]; done
               · rw [← hc]; clear hc HC hrow HP; simp_all; done)
      · go_wp2_with fail
        all_goals
          have hc := HC.out
          simp only [annZ] at hc
          first
            | (refine bodyPost_ret (v := .int .i64 0) ?_ rfl ⟨0, rfl, ?_, hB2⟩
               · simp [results, Try.results32, go_sem]; done
               · rw [← hc]; clear hc HC hrow HP; simp_all; done)
            | (refine bodyPost_ret (v := .int .i64 7) ?_ rfl ⟨7, rfl, ?_, hB2⟩
               · simp [results, Try.results32, go_sem]; done
               · rw [← hc]; clear hc HC hrow HP; simp_all; done)
end Go.Proofs.Ytfpepiabpadjdaa
