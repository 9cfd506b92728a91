/-
  What the laws' walks over layer 13 share: few, the box of the configuration, a row of the updates, a fresh action.
-/
import Derived.Test.YtbfobodaeimklaaDoorPllG
import Derived.Test.YtbfobodaeimklaaDoorSteps
set_option linter.unusedSimpArgs false
set_option linter.unusedVariables false
namespace Go.Proofs.YtbfobodaeimklaaDoor
open Go.RowKit
theorem few_any (a : Option Addr) (len cap : Nat) (w : World) : Calls Tryd.prog 15 #[.slice a len cap] w fun x w' => x = .returned (.bool (decide ((len : Int) ≤ 60))) ∧ w = w' := by
  go_enter Tryd.func15, Tryd.ntmps15
  go_wp2
  go_ret
  exact ⟨rfl, rfl⟩
/-- The configuration in the block at which the call began, a loop in a later one, and what was there is as it was. -/
structure Env (w wr : World) (b : Nat) (mn mx sa so li : Int) : Prop where
  below : Below w.heap.size w wr
  hb : w.heap.size < b
  lt : b < wr.heap.size
  c0 : wr.cell? ⟨w.heap.size, 0, none⟩ = some (.int .i64 mn)
  c1 : wr.cell? ⟨w.heap.size, 1, none⟩ = some (.int .i64 mx)
  c2 : wr.cell? ⟨w.heap.size, 2, none⟩ = some (.int .i64 sa)
  c3 : wr.cell? ⟨w.heap.size, 3, none⟩ = some (.int .i64 so)
  c4 : wr.cell? ⟨w.heap.size, 4, none⟩ = some (.int .i64 li)
theorem Env.oth {w wr W : World} {b : Nat} {mn mx sa so li : Int} (h : Env w wr b mn mx sa so li) (o : Oth b wr W) : Env w W b mn mx sa so li := by
  have l := h.lt
  have l2 := h.hb
  have c : ∀ i, W.cell? ⟨w.heap.size, i, none⟩ = wr.cell? ⟨w.heap.size, i, none⟩ := fun i => o.cell (p := ⟨w.heap.size, i, none⟩) (by show w.heap.size < _; omega) (by show w.heap.size ≠ b; omega)
  exact ⟨h.below.trans (o.below (by omega) (by omega)), h.hb, Nat.lt_of_lt_of_le h.lt o.size, (c _).trans h.c0, (c _).trans h.c1, (c _).trans h.c2, (c _).trans h.c3, (c _).trans h.c4⟩
theorem Env.start {w w1 : World} {b : Nat} {mn mx sa so li : Int} {t : TypeId} {s : LS} (hb1 : Below (w.alloc (.cells #[.int .i64 mn, .int .i64 mx, .int .i64 sa, .int .i64 so, .int .i64 li] t)).heap.size (w.alloc (.cells #[.int .i64 mn, .int .i64 mx, .int .i64 sa, .int .i64 so, .int .i64 li] t)) w1)
    (hb : (w.alloc (.cells #[.int .i64 mn, .int .i64 mx, .int .i64 sa, .int .i64 so, .int .i64 li] t)).heap.size ≤ b) (hl : Lp w1 b s) : Env w w1 b mn mx sa so li := by
  have hs : (w.alloc (.cells #[.int .i64 mn, .int .i64 mx, .int .i64 sa, .int .i64 so, .int .i64 li] t)).heap.size = w.heap.size + 1 := World.size_alloc _ _
  refine ⟨((Below.refl _ _).alloc (Nat.le_refl _) _).trans (hb1.mono (by omega)), by omega, hl.lt, ?_, ?_, ?_, ?_, ?_⟩ <;>
    (refine (hb1.cell (by rw [hs]; exact Nat.lt_succ_self _)).trans ?_; rw [World.cell?_alloc_at _ _ _ _ rfl]; rfl)
/-- Of the rows in memory, the row i is in the world W too, as long as what was there is as it was. -/
theorem StepRow.at {w W : World} {a : Option Addr} {len : Nat} {T A O P : Nat → Int} (h : StepRow w a len T A O P) (hB : Below w.heap.size w W) {i : Nat} (hi : i < len) : ∃ b off, a = some ⟨b, off, none⟩ ∧ b < w.heap.size ∧
    (W.cell? ⟨b, off + i * 4, none⟩ = some (.int .i64 (T i))) ∧ (W.cell? ⟨b, off + i * 4 + 1, none⟩ = some (.int .i64 (A i))) ∧ (W.cell? ⟨b, off + i * 4 + 2, none⟩ = some (.int .i64 (O i))) ∧ (W.cell? ⟨b, off + i * 4 + 3, none⟩ = some (.int .i64 (P i))) := by
  obtain ⟨b, off, ha, hb, h0, h1, h2, h3⟩ := h.2 i hi
  exact ⟨b, off, ha, hb, (hB.cell hb).trans h0.1, (hB.cell hb).trans h1.1, (hB.cell hb).trans h2.1, (hB.cell hb).trans h3.1⟩
theorem new_ok {mn mx sa so li : Int} (h : chkF mn mx sa so li = 0) : (LS.new mn mx sa so li).Ok := by
  unfold chkF at h
  split at h
  · rename_i hb
    simp only [Bool.and_eq_true, inB_iff] at hb
    split at h
    · cases h
    · constructor <;> simp [LS.new] <;> omega
  · cases h
theorem tick_ok {s : LS} (ok : s.Ok) : (tickF s).Ok := by
  have hp := pow_rows (Int.le_trans ok.mn1 ok.po1) (Int.le_trans ok.po2 ok.mx2)
  have hq : -s.sa < s.ph - s.ph.tdiv (16 * 2 ^ s.po.toNat) ∧ s.ph - s.ph.tdiv (16 * 2 ^ s.po.toNat) < s.sa := by
    have h1 := ok.ph1
    have h2 := ok.ph2
    generalize (2 : Int) ^ s.po.toNat = D at *
    by_cases h : 0 ≤ s.ph
    · have := Int.tdiv_nonneg h (show (0 : Int) ≤ 16 * D by omega)
      have : s.ph.tdiv (16 * D) ≤ s.ph := by rw [Int.tdiv_eq_ediv_of_nonneg h]; exact Int.ediv_le_self _ h
      omega
    · have h3 := Int.tdiv_nonneg (show 0 ≤ -s.ph by omega) (show (0 : Int) ≤ 16 * D by omega)
      have h4 : (-s.ph).tdiv (16 * D) ≤ -s.ph := by rw [Int.tdiv_eq_ediv_of_nonneg (by omega)]; exact Int.ediv_le_self _ (by omega)
      rw [Int.neg_tdiv] at h3 h4
      omega
  obtain ⟨mn1, mnx, mx2, sa1, sa2, so1, so2, li1, li2, st1, st2, fr1, fr2, ph1, ph2, la1, la2, po1, po2, sp1, sp2, new⟩ := ok
  exact ⟨mn1, mnx, mx2, sa1, sa2, so1, so2, li1, li2, st1, st2, fr1, fr2, hq.1, hq.2, la1, la2, po1, po2, sp1, sp2, new⟩
theorem below_box {w W : World} {o : Obj} (h : Below (w.alloc o).heap.size (w.alloc o) W) : Below w.heap.size w W := ((Below.refl _ _).alloc (Nat.le_refl _) _).trans (h.mono (by simp))
def muF (s : LS) (t : Int) : Int := if s.up = true then t - s.la else 0
/-- What an update does, case by case. -/
inductive Upd (s : LS) (t o p : Int) : LS × (Int × Int) × Int → Prop
  | err (e : Int) (he : e = 3 ∨ e = 12 ∧ s.up = true) : Upd s t o p (s, (0, 0), e)
  | skip (h1 : s.st = 1) (h2 : muF s t < s.so) : Upd s t o p (s, (0, 0), 0)
  | l0 (h : s.sa ≤ max o (-o)) (h0 : 0 ≤ t) (h1 : s.st = 0) : Upd s t o p ({ s with st := 1, ph := 0, la := t, po := p, up := true }, (2, o), 0)
  | l1 (f : Int) (h : s.sa ≤ max o (-o)) (h0 : 0 ≤ t) (h1 : s.st = 1) (h2 : s.so ≤ muF s t) : Upd s t o p ({ s with st := 3, ph := 0, fr := f, la := t, po := p, up := true }, (2, o), 0)
  | l3 (h : s.sa ≤ max o (-o)) (h0 : 0 ≤ t) (h1 : s.st = 3) : Upd s t o p ({ s with st := 2, sp := t, la := t, po := p, up := true }, (0, 0), 0)
  | l2 (h : s.sa ≤ max o (-o)) (h0 : 0 ≤ t) (h1 : s.st = 2) (h2 : t - s.sp < s.so) : Upd s t o p ({ s with la := t, po := p, up := true }, (0, 0), 0)
  | due (h : s.sa ≤ max o (-o)) (h0 : 0 ≤ t) (h1 : s.st = 2) (h2 : s.so ≤ t - s.sp) : Upd s t o p ({ s with st := 3, ph := 0, la := t, po := p, up := true }, (2, o), 0)
  | s0 (h : max o (-o) < s.sa) (h0 : 0 ≤ t) (h1 : s.st = 0) : Upd s t o p ({ s with st := 1, ph := o, la := t, po := p, up := true }, (1, s.fr), 0)
  | s1 (f : Int) (h : max o (-o) < s.sa) (h0 : 0 ≤ t) (h1 : s.st = 1) (h2 : s.so ≤ muF s t) : Upd s t o p ({ s with st := 3, ph := o, fr := f, la := t, po := p, up := true }, (1, f), 0)
  | s3 (f : Int) (h : max o (-o) < s.sa) (h0 : 0 ≤ t) (h1 : s.st = 2 ∨ s.st = 3) : Upd s t o p ({ s with st := 3, ph := o, fr := f, la := t, po := p, up := true }, (1, f), 0)
theorem upd_is (s : LS) (t o p : Int) (ok : s.Ok) : Upd s t o p (updF s t o p) := by
  have st1 := ok.st1
  have st2 := ok.st2
  unfold updF
  have hmu : (if s.up = true then t - s.la else 0) = muF s t := rfl
  simp only [hmu]
  split
  · exact .err 3 (.inl rfl)
  · rename_i hr
    have hr' : ((inB t 0 1073741824 && inB o (-1125899906842624) 1125899906842624) && inB p s.mn s.mx) = true := (Bool.not_eq_false _).mp hr
    simp only [Bool.and_eq_true, inB_iff] at hr'
    obtain ⟨⟨⟨t1, t2⟩, o1, o2⟩, p1, p2⟩ := hr'
    split
    · rename_i h
      exact .err 12 (.inr ⟨rfl, h.1⟩)
    · split
      · rename_i h
        exact .skip h.1 h.2
      · rename_i hs
        split
        · rename_i h
          unfold largeF
          split
          · exact .l0 h t1 (by assumption)
          · split
            · exact .l1 _ h t1 (by assumption) (by omega)
            · split
              · exact .l3 h t1 (by assumption)
              · split
                · exact .l2 h t1 (by omega) (by assumption)
                · exact .due h t1 (by omega) (by omega)
        · rename_i h
          have h : max o (-o) < s.sa := by omega
          unfold smallF
          split
          · exact .s0 h t1 (by assumption)
          · split
            · exact .s1 _ h t1 (by assumption) (by omega)
            · exact .s3 _ h t1 (by omega)
section
variable {m p1 p2 p3 : Nat} {x1 x2 x3 : Value} {w w' : World}
theorem RowS.oth {k : Nat} (h : m < w.heap.size ∧ w.cell? ⟨m, p1, none⟩ = some x1 ∧ w.cell? ⟨m, p2, none⟩ = some x2 ∧ w.cell? ⟨m, p3, none⟩ = some x3) (o : Oth k w w') (hk : m ≠ k) :
    m < w'.heap.size ∧ w'.cell? ⟨m, p1, none⟩ = some x1 ∧ w'.cell? ⟨m, p2, none⟩ = some x2 ∧ w'.cell? ⟨m, p3, none⟩ = some x3 := by
  obtain ⟨h0, h1, h2, h3⟩ := h
  have c : ∀ j, w'.cell? ⟨m, j, none⟩ = w.cell? ⟨m, j, none⟩ := fun j => o.cell (p := ⟨m, j, none⟩) h0 hk
  exact ⟨Nat.lt_of_lt_of_le h0 o.size, (c _).trans h1, (c _).trans h2, (c _).trans h3⟩
theorem RowS.alloc (o : Obj) (h : m < w.heap.size ∧ w.cell? ⟨m, p1, none⟩ = some x1 ∧ w.cell? ⟨m, p2, none⟩ = some x2 ∧ w.cell? ⟨m, p3, none⟩ = some x3) :
    m < (w.alloc o).heap.size ∧ (w.alloc o).cell? ⟨m, p1, none⟩ = some x1 ∧ (w.alloc o).cell? ⟨m, p2, none⟩ = some x2 ∧ (w.alloc o).cell? ⟨m, p3, none⟩ = some x3 :=
  RowS.oth (k := m + 1) h ((Oth.refl _ _).alloc _) (by omega)
theorem RowS.again (o o' : Obj) (hm : m < w.heap.size) (h : m < (w.alloc o).heap.size ∧ (w.alloc o).cell? ⟨m, p1, none⟩ = some x1 ∧ (w.alloc o).cell? ⟨m, p2, none⟩ = some x2 ∧ (w.alloc o).cell? ⟨m, p3, none⟩ = some x3) :
    m < (w.alloc o').heap.size ∧ (w.alloc o').cell? ⟨m, p1, none⟩ = some x1 ∧ (w.alloc o').cell? ⟨m, p2, none⟩ = some x2 ∧ (w.alloc o').cell? ⟨m, p3, none⟩ = some x3 := by
  obtain ⟨h0, h1, h2, h3⟩ := h
  have c : ∀ j, (w.alloc o').cell? ⟨m, j, none⟩ = (w.alloc o).cell? ⟨m, j, none⟩ := fun j => by
    rw [World.cell?_alloc_lt _ _ _ hm, World.cell?_alloc_lt _ _ _ hm]
  exact ⟨by rw [World.size_alloc]; omega, (c _).trans h1, (c _).trans h2, (c _).trans h3⟩
end
end Go.Proofs.YtbfobodaeimklaaDoor
