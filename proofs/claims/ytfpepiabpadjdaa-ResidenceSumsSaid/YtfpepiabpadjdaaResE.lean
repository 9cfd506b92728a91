/-
  The corrections of messages.
-/
import Derived.Test.YtfpepiabpadjdaaResD
import Derived.Deep.MidRow
import Derived.Laws.ResultCell
set_option linter.unusedSimpArgs false
set_option linter.unusedVariables false
namespace Go.Proofs.Ytfpepiabpadjdaa
open Go.RowKit
theorem corr_any (t : Int) (h : 0 ≤ t) (h2 : t ≤ 9223372036854775807) (w : World) : Calls Try.prog 45 #[.int .i64 t] w fun x w' => x = .returned (.tuple #[.int .i64 (unitsF t).1, .int .i64 (if (unitsF t).2 then 0 else 3)]) ∧ w = w' := by
  have mu := fun w => fmul_any t h h2 w
  have hz : (unitsF t).2 = false → (unitsF t).1 = 0 := by unfold unitsF; split <;> simp
  generalize unitsF t = r at *
  obtain ⟨n, ok⟩ := r
  clear h h2
  cases ok with
  | true =>
    go_enter Try.func45, Try.ntmps45
    go_wp2_with fail
    refine (mu _).mono ?_
    rintro e w' ⟨rfl, rfl⟩
    go_wp2_with fail
    exact bodyPost_ret (v := .tuple #[.int .i64 n, .int .i64 0]) (by simp [results, Try.results45, go_sem]) rfl ⟨rfl, rfl⟩
  | false =>
    obtain rfl : n = 0 := hz rfl
    go_enter Try.func45, Try.ntmps45
    go_wp2_with fail
    refine (mu _).mono ?_
    rintro e w' ⟨rfl, rfl⟩
    go_wp2_with fail
    exact bodyPost_ret (v := .tuple #[.int .i64 0, .int .i64 3]) (by simp [results, Try.results45, go_sem]) rfl ⟨rfl, rfl⟩
def PM.zero : PM := ⟨0, 0, 0, 0, 0, 0, 0, 0, 0, 0, 0, 0, 0, 0, 0, 0, 0, 0, 0, 0, 0⟩
/-- A message corrected by a time, and the error. -/
def corrF (p : PM) (t : Int) : PM × Int := if (unitsF t).2 && (addF p.corr (unitsF t).1).2 then ({ p with corr := (addF p.corr (unitsF t).1).1 }, 0) else (PM.zero, 4)
/-- A call that answers a message and an error. -/
def MPost (q : PM) (e : Int) (w : World) (x : Ending) (w' : World) : Prop := x = .returned (.tuple #[.agg q.vals, .int .i64 e]) ∧ Below w.heap.size w w'
theorem PBox.set3 {w : World} {b : Nat} {p : PM} (h : PBox w b p) (u : Int) : PBox (w.setCell ⟨b, 3, none⟩ (.int .i64 u)) b { p with corr := u } := by
  obtain ⟨lt, c0, c1, c2, c3, c4, c5, c6, c7, c8, c9, c10, c11, c12, c13, c14, c15, c16, c17, c18, c19, c20⟩ := h
  refine ⟨by simp [World.setCell, lt], ?_, ?_, ?_, ?_, ?_, ?_, ?_, ?_, ?_, ?_, ?_, ?_, ?_, ?_, ?_, ?_, ?_, ?_, ?_, ?_, ?_⟩ <;> simp [go_sem, c0, c1, c2, c3, c4, c5, c6, c7, c8, c9, c10, c11, c12, c13, c14, c15, c16, c17, c18, c19, c20]
theorem there_new (w : World) (vs : Array Value) (t : TypeId) : (w.alloc (.cells vs t)).there w.heap.size 0 vs.size := fun j hj => by
  refine ⟨?_, World.frozen?_alloc_at _ _ _ _ rfl⟩
  rw [World.cell?_alloc_at _ _ _ _ rfl]
  simp [hj]
theorem Below.setCells {B : Nat} {w : World} (b : Nat) (hb : B ≤ b) : ∀ (vs : List Value) (o : Nat) (W : World), Below B w W → Below B w (W.setCells b o vs)
  | [], _, _, h => h
  | v :: r, o, W, h => Below.setCells b hb r (o + 1) _ (h.setCell hb v)
theorem PBox.of_row {w : World} {b : Nat} {q : PM} (hb : b < w.heap.size) (h : w.rangeAt b 0 q.vals.toList) : PBox w b q := by
  refine ⟨hb, ?_, ?_, ?_, ?_, ?_, ?_, ?_, ?_, ?_, ?_, ?_, ?_, ?_, ?_, ?_, ?_, ?_, ?_, ?_, ?_, ?_⟩
  · have := h 0 _ rfl; simpa using this
  · have := h 1 _ rfl; simpa using this
  · have := h 2 _ rfl; simpa using this
  · have := h 3 _ rfl; simpa using this
  · have := h 4 _ rfl; simpa using this
  · have := h 5 _ rfl; simpa using this
  · have := h 6 _ rfl; simpa using this
  · have := h 7 _ rfl; simpa using this
  · have := h 8 _ rfl; simpa using this
  · have := h 9 _ rfl; simpa using this
  · have := h 10 _ rfl; simpa using this
  · have := h 11 _ rfl; simpa using this
  · have := h 12 _ rfl; simpa using this
  · have := h 13 _ rfl; simpa using this
  · have := h 14 _ rfl; simpa using this
  · have := h 15 _ rfl; simpa using this
  · have := h 16 _ rfl; simpa using this
  · have := h 17 _ rfl; simpa using this
  · have := h 18 _ rfl; simpa using this
  · have := h 19 _ rfl; simpa using this
  · have := h 20 _ rfl; simpa using this
theorem res_msg {fn : Func} {p u : Tmp} (h : fn.results = #[.cell p 33, .tmp u]) (tmps : Array Value) (w : World) (b : Nat) (q : PM) (e : Int) (hp : tmps.getD p undef = .pointer (some ⟨b, 0, none⟩)) (hu : tmps.getD u undef = .int .i64 e) (hq : PBox w b q) :
    (results fn tmps).run Try.prog w = .ok (.tuple #[.agg q.vals, .int .i64 e]) w := by
  have hl := run_loadVar_mid (P := Try.prog) w b 0 33 _ _ hq.row Try.underlying33 rfl (by kernel_rfl)
  rw [results_cell_tmp h, hp, hu]
  show ((Result.ok (⟨b, 0, none⟩ : Addr) _).andThen _) = _
  simp only [Result.andThen_ok]
  rw [hl]
  rfl
/-- A message stored whole. -/
theorem PBox.stored {w : World} {b : Nat} (q : PM) (hb : b < w.heap.size) (ht : w.there b 0 21) : PBox (w.setCells b 0 q.vals.toList) b q :=
  PBox.of_row (by have := Below.setCells (B := 0) b (Nat.zero_le _) q.vals.toList 0 w ⟨rfl, rfl, rfl, Nat.le_refl _, fun _ _ => rfl⟩; exact Nat.lt_of_lt_of_le hb this.size) (World.rangeAt_setCells_same _ _ _ _ ht)
set_option maxRecDepth 10000 in
set_option maxHeartbeats 4000000 in
theorem correct_any (p : PM) (hc : -9223372036854775808 ≤ p.corr ∧ p.corr ≤ 9223372036854775807) (t : Int) (h : 0 ≤ t) (h2 : t ≤ 9223372036854775807) (w : World) : Calls Try.prog 34 #[.agg p.vals, .int .i64 t] w (MPost (corrF p t).1 (corrF p t).2 w) := by
  have cr := fun w => corr_any t h h2 w
  have hu : -9223372036854775808 ≤ (unitsF t).1 ∧ (unitsF t).1 ≤ 9223372036854775807 := by unfold unitsF; split <;> simp <;> omega
  have ad := fun w => fadd_any p.corr (unitsF t).1 hc.1 hc.2 hu.1 hu.2 w
  unfold corrF
  generalize unitsF t = r at *
  obtain ⟨n, ok⟩ := r
  simp only at cr ad hu ⊢
  generalize addF p.corr n = r2 at *
  obtain ⟨s, ok2⟩ := r2
  simp only at ad ⊢
  clear hc h h2 hu
  have hm := PBox.made w p 33
  have hf : (w.alloc (.cells p.vals 33)).frozen? ⟨w.heap.size, 3, none⟩ = false := World.frozen?_alloc_at _ _ _ _ rfl
  have hX : Below w.heap.size w (w.alloc (.cells p.vals 33)) := (Below.refl _ _).alloc (Nat.le_refl _) _
  have c3 := hm.c3
  have HM := Kp.mk hm
  obtain ⟨W, hW⟩ : ∃ W, W = w.alloc (.cells p.vals 33) := ⟨_, rfl⟩
  have hth := there_new (w.alloc (.cells p.vals 33)) #[.int .i64 0, .int .i64 0, .int .i64 0, .int .i64 0, .int .u64 0, .int .i64 0, .int .i64 0, .int .i64 0, .int .i64 0, .int .i64 0, .int .u64 0, .int .i64 0, .int .i64 0, .int .i64 0, .int .i64 0, .int .i64 0, .int .i64 0, .int .i64 0, .int .u64 0, .int .i64 0, .int .i64 0] 33
  rw [World.size_alloc] at hth
  cases ok
  · unfold PM.vals at hth
    unfold PM.vals
    go_enter Try.func34, Try.ntmps34
    go_wp2_with fail
    refine (cr _).mono ?_
    rintro e w' ⟨rfl, rfl⟩
    go_wp2_with (refine wpList_store_mid rfl 33 _ _ rfl (w.heap.size + 1) 0 _ rfl rfl hth (by kernel_rfl) (by kernel_rfl) ?_)
    exact bodyPost_ret (v := .tuple #[.agg (PM.zero).vals, .int .i64 4]) (res_msg Try.results34 _ _ (w.heap.size + 1) (PM.zero) 4 rfl rfl (PBox.stored (PM.zero) (by simp) hth)) rfl ⟨rfl, Below.setCells _ (by omega) _ _ _ (hX.alloc hX.size _)⟩
  · cases ok2
    · unfold PM.vals at hth
      unfold PM.vals
      go_enter Try.func34, Try.ntmps34
      go_wp2_with fail
      refine (cr _).mono ?_
      rintro e w' ⟨rfl, rfl⟩
      go_wp2_with fail
      refine (ad _).mono ?_
      rintro e w' ⟨rfl, rfl⟩
      go_wp2_with (refine wpList_store_mid rfl 33 _ _ rfl (w.heap.size + 1) 0 _ rfl rfl hth (by kernel_rfl) (by kernel_rfl) ?_)
      exact bodyPost_ret (v := .tuple #[.agg (PM.zero).vals, .int .i64 4]) (res_msg Try.results34 _ _ (w.heap.size + 1) (PM.zero) 4 rfl rfl (PBox.stored (PM.zero) (by simp) hth)) rfl ⟨rfl, Below.setCells _ (by omega) _ _ _ (hX.alloc hX.size _)⟩
    · unfold PM.vals at hth
      unfold PM.vals
      go_enter Try.func34, Try.ntmps34
      go_wp2_with fail
      refine (cr _).mono ?_
      rintro e w' ⟨rfl, rfl⟩
      go_wp2_with fail
      refine (ad _).mono ?_
      rintro e w' ⟨rfl, rfl⟩
      have hm2 := (PBox.made w { p with corr := s } 33).below ((Below.refl _ _).alloc (Nat.le_refl _) (.cells #[.int .i64 0, .int .i64 0, .int .i64 0, .int .i64 0, .int .u64 0, .int .i64 0, .int .i64 0, .int .i64 0, .int .i64 0, .int .i64 0, .int .u64 0, .int .i64 0, .int .i64 0, .int .i64 0, .int .i64 0, .int .i64 0, .int .i64 0, .int .i64 0, .int .u64 0, .int .i64 0, .int .i64 0] 33)) (by simp)
      have hth2 := there_new (w.alloc (.cells ({ p with corr := s } : PM).vals 33)) #[.int .i64 0, .int .i64 0, .int .i64 0, .int .i64 0, .int .u64 0, .int .i64 0, .int .i64 0, .int .i64 0, .int .i64 0, .int .i64 0, .int .u64 0, .int .i64 0, .int .i64 0, .int .i64 0, .int .i64 0, .int .i64 0, .int .i64 0, .int .i64 0, .int .u64 0, .int .i64 0, .int .i64 0] 33
      rw [World.size_alloc] at hth2
      have hrow := hm2.row
      simp only [PM.vals] at hrow hth2
      go_wp2_with (first | (refine wpList_store_mid rfl 33 _ _ rfl (w.heap.size + 1) 0 _ rfl rfl hth2 (by kernel_rfl) (by kernel_rfl) ?_) | (refine wpList_load_mid rfl 33 _ rfl w.heap.size 0 rfl _ _ hrow Try.underlying33 rfl (by kernel_rfl) ?_))
      have hX2 : Below w.heap.size w (w.alloc (.cells ({ p with corr := s } : PM).vals 33)) := (Below.refl _ _).alloc (Nat.le_refl _) _
      exact bodyPost_ret (v := .tuple #[.agg ({ p with corr := s } : PM).vals, .int .i64 0]) (res_msg Try.results34 _ _ (w.heap.size + 1) { p with corr := s } 0 rfl rfl (PBox.stored { p with corr := s } (by simp) hth2)) rfl ⟨rfl, Below.setCells _ (by omega) _ _ _ (hX2.alloc hX2.size _)⟩
end Go.Proofs.Ytfpepiabpadjdaa
