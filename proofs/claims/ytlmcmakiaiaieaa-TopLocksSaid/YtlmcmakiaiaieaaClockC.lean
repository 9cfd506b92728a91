/-
  The contracts of package sysclock: moved with an error, State, Of, New, Pending.
-/
import Derived.Test.YtlmcmakiaiaieaaClockB
set_option linter.unusedSimpArgs false
set_option linter.unusedVariables false
namespace Go.Proofs.Ytlmcmakiaiaieaa
open Go.RowKit
def CS.zero : CS := ⟨0, 0, 0, 0, 0, 0⟩
set_option maxHeartbeats 1000000 in
theorem moved_bad (b : Nat) (s : CS) (raw er : Int) (w : World) (hc : Clk w b s) (ok : s.Ok) (hr : raw ≤ 9223372036854775807) (hn : nowF s raw = (0, er)) (he : er ≠ 0) :
    Calls Try.prog 36 #[.pointer (some ⟨b, 0, none⟩), .int .i64 raw] w (MovedPost CS.zero er w) := by
  have nw := fun (w1 : World) (hw : Below w.heap.size w w1) => now_any b s raw w1 (hc.below hw hc.lt) ok hr
  rw [hn] at nw
  have t1 : (er != 0) = true := by simpa using he
  have t2 : (er == 0) = false := by simpa using he
  clear hn he
  go_enter Try.func36, Try.ntmps36
  go_wp2_with fail
  refine (nw _ ((Below.refl _ _).alloc (Nat.le_refl _) _)).mono ?_
  rintro x2 w3 ⟨rfl, hb⟩
  have hb0 : Below w.heap.size w w3 := ((Below.refl _ _).alloc (Nat.le_refl _) _).trans (hb.mono (by simp))
  obtain ⟨⟨d0, d1, d2⟩, d3, d4, d5⟩ := loc6 hb
  obtain ⟨⟨g0, g1, g2⟩, g3, g4, g5⟩ := locf6 hb
  have hsz : w.heap.size + 1 ≤ w3.heap.size := by simpa using hb.size
  have HB := Kp.mk hb0
  clear hb hb0 hc ok nw
  go_wp2_with fail
  refine bodyPost_ret (v := .tuple #[.agg #[.int .i64 0, .int .i64 0, .int .i64 0, .int .i64 0, .int .i64 0, .int .i64 0], .int .i64 er]) (by simp [results, Try.results36, go_sem, d0, d1, d2, d3, d4, d5]) rfl ⟨rfl, ?_⟩
  refine Below.setCell ?_ (by exact Nat.le_refl _) _
  refine Below.setCell ?_ (by exact Nat.le_refl _) _
  refine Below.setCell ?_ (by exact Nat.le_refl _) _
  refine Below.setCell ?_ (by exact Nat.le_refl _) _
  refine Below.setCell ?_ (by exact Nat.le_refl _) _
  refine Below.setCell ?_ (by exact Nat.le_refl _) _
  exact HB.out
/-- What is left to slew at a raw reading. -/
def pendF (s : CS) (raw : Int) : Int := if (nowF s raw).2 = 0 then (movedF s raw).left else 0
theorem nowF_err {s : CS} {raw : Int} : (nowF s raw).2 ≠ 0 → (nowF s raw).1 = 0 := by
  unfold nowF; split
  · simp
  · split
    · simp
    · split <;> simp
theorem nowF_pair (s : CS) (raw : Int) : (∃ t, nowF s raw = (t, 0)) ∨ ∃ er, er ≠ 0 ∧ nowF s raw = (0, er) := by
  by_cases h : (nowF s raw).2 = 0
  · exact Or.inl ⟨(nowF s raw).1, by rw [← h]⟩
  · exact Or.inr ⟨(nowF s raw).2, h, by rw [← nowF_err h]⟩
/-- A new clock in the state s. -/
def NewPost (s : CS) (w : World) (x : Ending) (w' : World) : Prop := ∃ b, x = .returned (.pointer (some ⟨b, 0, none⟩)) ∧ w.heap.size ≤ b ∧ Clk w' b s ∧ Below w.heap.size w w'
def NilPost (w : World) (x : Ending) (w' : World) : Prop := x = .returned (.pointer none) ∧ Below w.heap.size w w'
theorem insB_true {n : Int} (h1 : -4503599627370496 ≤ n) (h2 : n ≤ 4503599627370496) : insB n = true := by unfold insB; simp; omega
theorem clk_alloc (w : World) (s : CS) (t : TypeId) : Clk (w.alloc (.cells s.vals t)) w.heap.size s := by
  refine ⟨by simp, ?_, ?_, ?_, ?_, ?_, ?_, ?_, ?_, ?_, ?_, ?_, ?_⟩
  all_goals first | exact World.frozen?_alloc_at _ _ _ _ rfl | (rw [World.cell?_alloc_at _ _ _ _ rfl]; rfl)
theorem clk_alloc1 (w : World) (o : Obj) (s : CS) (t : TypeId) : Clk ((w.alloc o).alloc (.cells s.vals t)) (w.heap.size + 1) s := by
  have := clk_alloc (w.alloc o) s t
  simpa using this
theorem below_alloc2 (w : World) (o o' : Obj) : Below w.heap.size w ((w.alloc o).alloc o') := ((Below.refl _ _).alloc (Nat.le_refl _) o).alloc (by simp) o'
set_option maxHeartbeats 1000000 in
theorem of_good (s : CS) (ok : s.Ok) (w : World) : Calls Try.prog 20 #[.agg s.vals] w (NewPost s w) := by
  obtain ⟨sraw, stime, sppb, sleft, srate, ssteps⟩ := s
  obtain ⟨raw1, raw2, time1, time2, left1, left2, ppb1, ppb2, rate1, rate2, slews, steps1, steps2⟩ := ok
  unfold CS.vals
  simp only at *
  have i0 := fun w => inside_any sraw w
  have i1 := fun w => inside_any stime w
  have i3 := fun w => inside_any sleft w
  rw [insB_true raw1 raw2] at i0
  rw [insB_true time1 time2] at i1
  rw [insB_true left1 left2] at i3
  go_enter Try.func20, Try.ntmps20
  go_wp2_with (go_at_call 26; first | ((with_reducible refine (i0 _).mono ?_); rintro e w' ⟨rfl, rfl⟩) | ((with_reducible refine (i1 _).mono ?_); rintro e w' ⟨rfl, rfl⟩) | ((with_reducible refine (i3 _).mono ?_); rintro e w' ⟨rfl, rfl⟩))
  · have hr : srate = 0 := by assumption
    subst hr
    exact bodyPost_ret (v := .pointer (some ⟨w.heap.size + 1, 0, none⟩)) (by simp [results, Try.results20, go_sem]) rfl ⟨_, rfl, by omega, clk_alloc1 _ _ ⟨sraw, stime, sppb, sleft, 0, ssteps⟩ _, below_alloc2 _ _ _⟩
  · exact bodyPost_ret (v := .pointer (some ⟨w.heap.size + 1, 0, none⟩)) (by simp [results, Try.results20, go_sem]) rfl ⟨_, rfl, by omega, clk_alloc1 _ _ ⟨sraw, stime, sppb, sleft, srate, ssteps⟩ _, below_alloc2 _ _ _⟩
theorem insB_iff {n : Int} : insB n = true ↔ -4503599627370496 ≤ n ∧ n ≤ 4503599627370496 := by unfold insB; simp
set_option maxHeartbeats 1000000 in
theorem of_bad (s : CS) (ok : ¬ s.Ok) (h2 : s.steps ≤ 9223372036854775807) (w : World) : Calls Try.prog 20 #[.agg s.vals] w (NilPost w) := by
  have KO : Kp (¬ s.Ok) := ⟨ok⟩
  have K2 := Kp.mk h2
  clear ok h2
  obtain ⟨sraw, stime, sppb, sleft, srate, ssteps⟩ := s
  unfold CS.vals
  simp only at *
  go_enter Try.func20, Try.ntmps20
  go_wp2_with (go_at_call 26; (with_reducible refine (inside_any _ _).mono ?_); rintro e w' ⟨rfl, rfl⟩)
  all_goals first
    | exact bodyPost_ret (v := .pointer none) (by simp [results, Try.results20, go_sem]) rfl ⟨rfl, (Below.refl _ _).alloc (Nat.le_refl _) _⟩
    | (exfalso
       have a0 := insB_iff.1 (show insB sraw = true by assumption)
       have a1 := insB_iff.1 (show insB stime = true by assumption)
       have a3 := insB_iff.1 (show insB sleft = true by assumption)
       refine KO.out ⟨a0.1, a0.2, a1.1, a1.2, a3.1, a3.2, by assumption, by assumption, by assumption, by assumption, fun h => ?_, by assumption, K2.out⟩
       first
         | (have hx : (sleft != 0) = false := by assumption
            exact absurd (by simpa using hx) h)
         | (have hx : ¬ srate = 0 := by assumption
            have hy : 0 ≤ srate := by assumption
            show 0 < srate
            omega))
theorem ok_new (raw time : Int) (h1 : -4503599627370496 ≤ raw) (h2 : raw ≤ 4503599627370496) (h3 : -4503599627370496 ≤ time) (h4 : time ≤ 4503599627370496) : (CS.mk raw time 0 0 0 0).Ok :=
  ⟨h1, h2, h3, h4, by simp, by simp, by simp, by simp, by simp, by simp, by simp, by simp, by simp⟩
set_option maxHeartbeats 1000000 in
theorem new_good (raw time : Int) (ok : (CS.mk raw time 0 0 0 0).Ok) (w : World) : Calls Try.prog 6 #[.int .i64 raw, .int .i64 time] w (NewPost ⟨raw, time, 0, 0, 0, 0⟩ w) := by
  have og := fun w => of_good _ ok w
  unfold CS.vals at og
  simp only at og
  clear ok
  go_enter Try.func6, Try.ntmps6
  go_wp2_with fail
  refine (og _).mono ?_
  rintro e w' ⟨b, rfl, hb, hk, hbl⟩
  go_wp2_with fail
  go_ret
  exact ⟨b, rfl, hb, hk, hbl⟩
set_option maxHeartbeats 1000000 in
theorem new_bad (raw time : Int) (ok : ¬ (CS.mk raw time 0 0 0 0).Ok) (w : World) : Calls Try.prog 6 #[.int .i64 raw, .int .i64 time] w (NilPost w) := by
  have og := fun w => of_bad _ ok (by simp) w
  unfold CS.vals at og
  simp only at og
  clear ok
  go_enter Try.func6, Try.ntmps6
  go_wp2_with fail
  refine (og _).mono ?_
  rintro e w' ⟨rfl, hbl⟩
  go_wp2_with fail
  go_ret
  exact ⟨rfl, hbl⟩
/-- Only block b may have turned. -/
structure Oth (b : Nat) (w w' : World) : Prop where
  os : w'.os = w.os
  tape : w'.tape = w.tape
  output : w'.output = w.output
  size : w.heap.size ≤ w'.heap.size
  block : ∀ k, k < w.heap.size → k ≠ b → w'.heap[k]? = w.heap[k]?
theorem Oth.of_below {b : Nat} {w w' : World} (h : Below w.heap.size w w') : Oth b w w' := ⟨h.os, h.tape, h.output, h.size, fun k hk _ => h.block k hk⟩
theorem Oth.trans {b : Nat} {w w1 w2 : World} (h : Oth b w w1) (k : Oth b w1 w2) : Oth b w w2 :=
  ⟨k.os.trans h.os, k.tape.trans h.tape, k.output.trans h.output, Nat.le_trans h.size k.size, fun i hi hb => (k.block i (Nat.lt_of_lt_of_le hi h.size) hb).trans (h.block i hi hb)⟩
theorem Oth.setCell {b : Nat} {w w' : World} (h : Oth b w w') {p : Addr} (hp : p.block = b) (u : Value) : Oth b w (w'.setCell p u) :=
  h.trans ⟨rfl, rfl, rfl, by simp [World.setCell], fun k _ hk => Below.heap_setCell _ _ _ _ (by omega)⟩
theorem Oth.below {B b : Nat} {w w' : World} (h : Oth b w w') (hB : B ≤ b) (hw : B ≤ w.heap.size) : Below B w w' :=
  ⟨h.os, h.tape, h.output, h.size, fun k hk => h.block k (by omega) (by omega)⟩
theorem Oth.cell {b : Nat} {w w' : World} (h : Oth b w w') {p : Addr} (hp : p.block < w.heap.size) (hb : p.block ≠ b) : w'.cell? p = w.cell? p := World.cell?_of_block (w := w) (h.block p.block hp hb)
theorem Oth.frozen {b : Nat} {w w' : World} (h : Oth b w w') {p : Addr} (hp : p.block < w.heap.size) (hb : p.block ≠ b) : w'.frozen? p = w.frozen? p := World.frozen?_of_block (w := w) (h.block p.block hp hb)
theorem Oth.clk {b c : Nat} {w w' : World} {s : CS} (h : Oth b w w') (k : Clk w c s) (hb : c ≠ b) : Clk w' c s :=
  ⟨Nat.lt_of_lt_of_le k.lt h.size, (h.cell k.lt hb).trans k.c0, (h.cell k.lt hb).trans k.c1, (h.cell k.lt hb).trans k.c2, (h.cell k.lt hb).trans k.c3, (h.cell k.lt hb).trans k.c4, (h.cell k.lt hb).trans k.c5,
    (h.frozen k.lt hb).trans k.f0, (h.frozen k.lt hb).trans k.f1, (h.frozen k.lt hb).trans k.f2, (h.frozen k.lt hb).trans k.f3, (h.frozen k.lt hb).trans k.f4, (h.frozen k.lt hb).trans k.f5⟩
/-- A change of the clock in block b. -/
def MutPost (b : Nat) (s : CS) (er : Int) (w : World) (x : Ending) (w' : World) : Prop := x = .returned (.int .i64 er) ∧ Clk w' b s ∧ Oth b w w'
end Go.Proofs.Ytlmcmakiaiaieaa
