/-
  The contract of package sysclock's Step.
-/
import Derived.Test.YtnfkffaogidleaaClockD
set_option linter.unusedSimpArgs false
set_option linter.unusedVariables false
namespace Go.Proofs.Ytnfkffaogidleaa
open Go.RowKit
def stepS (s : CS) (raw delta : Int) : CS × Int :=
  if insB delta = true then (if (nowF s raw).2 = 0 then (if insB ((movedF s raw).time + delta) = true then (if (movedF s raw).steps = 9223372036854775807 then (s, 4) else
    ({ movedF s raw with time := (movedF s raw).time + delta, left := 0, rate := 0, steps := (movedF s raw).steps + 1 }, 0)) else (s, 3)) else (s, (nowF s raw).2)) else (s, 3)
theorem moved_time {s : CS} {raw t : Int} (hn : nowF s raw = (t, 0)) : (movedF s raw).time = t ∧ -4503599627370496 ≤ t ∧ t ≤ 4503599627370496 := by
  refine ⟨by unfold movedF; rw [hn], ?_⟩
  unfold nowF at hn
  split at hn
  · simp at hn
  · split at hn
    · simp at hn
    · split at hn
      · rename_i h
        have := insB_iff.1 h
        simp only [Prod.mk.injEq] at hn
        rw [hn.1] at this
        exact this
      · simp at hn
set_option maxHeartbeats 1000000 in
theorem step_arg (b : Nat) (s : CS) (raw delta : Int) (w : World) (hc : Clk w b s) (h : insB delta = false) :
    Calls Try.prog 21 #[.pointer (some ⟨b, 0, none⟩), .int .i64 raw, .int .i64 delta] w (MutPost b s 3 w) := by
  have hmf : ∀ (fn : Fn) (first cap : Array Value) (w : World), (Instr.makeFunc fn first cap).run Try.prog w = .ok (.func fn first cap) w := fun _ _ _ _ => rfl
  have HC := Kp.mk hc
  clear hc
  have ins := fun w => inside_any delta w
  rw [h] at ins
  clear h
  go_enter Try.func21, Try.ntmps21
  go_wp2_with ((go_at_call 22; (with_reducible refine (ins _).mono ?_); rintro e w' ⟨rfl, rfl⟩))
  go_in
  go_wp2
  go_ret
  exact ⟨rfl, HC.out.below ((Below.refl _ _).alloc (Nat.le_refl _) _) HC.out.lt, Oth.of_below ((Below.refl _ _).alloc (Nat.le_refl _) _)⟩
set_option maxHeartbeats 2000000 in
theorem step_bad (b : Nat) (s : CS) (raw delta er : Int) (w : World) (hc : Clk w b s) (ok : s.Ok) (hr : raw ≤ 9223372036854775807) (hd : insB delta = true) (hn : nowF s raw = (0, er)) (he : er ≠ 0) :
    Calls Try.prog 21 #[.pointer (some ⟨b, 0, none⟩), .int .i64 raw, .int .i64 delta] w (MutPost b s er w) := by
  have hmf : ∀ (fn : Fn) (first cap : Array Value) (w : World), (Instr.makeFunc fn first cap).run Try.prog w = .ok (.func fn first cap) w := fun _ _ _ _ => rfl
  have mv := fun (w1 : World) (hw : Below w.heap.size w w1) => moved_bad b s raw er w1 (hc.below hw hc.lt) ok hr hn he
  unfold MovedPost CS.vals CS.zero at mv
  simp only at mv
  have t1 : (er != 0) = true := by simpa using he
  have t2 : (er == 0) = false := by simpa using he
  have ins := fun w => inside_any delta w
  rw [hd] at ins
  have hdb := insB_iff.1 hd
  have hd1 := hdb.1
  have hd2 := hdb.2
  clear hd hdb
  have HC := Kp.mk hc
  clear hc ok hr hn he
  go_enter Try.func21, Try.ntmps21
  go_wp2_with ((go_at_call 22; (with_reducible refine (ins _).mono ?_); rintro e w' ⟨rfl, rfl⟩))
  go_in
  go_wp2_with fail
  refine (mv _ ((Below.refl _ _).alloc (Nat.le_refl _) _)).mono ?_
  rintro x2 w3 ⟨rfl, hb⟩
  have hb0 : Below w.heap.size w w3 := ((Below.refl _ _).alloc (Nat.le_refl _) _).trans (hb.mono (by first | (simp; done) | (simp; omega)))
  have v0 : w3.cell? ⟨w.heap.size, 0, none⟩ = some (.int .i64 delta) := by rw [hb.cell (by simp), World.cell?_alloc_at _ _ _ _ rfl]; rfl
  obtain ⟨lt3, e0, e1, e2, e3, e4, e5, k0, k1, k2, k3, k4, k5⟩ := HC.out.below hb0 HC.out.lt
  have hsz : w.heap.size + 1 ≤ w3.heap.size := by simpa using hb.size
  have HB := Kp.mk hb0
  have hne : ¬ b = w3.heap.size := by omega
  have hne' : ¬ w3.heap.size = b := by omega
  have hne2 : ¬ w.heap.size = w3.heap.size := by omega
  have hne2' : ¬ w3.heap.size = w.heap.size := by omega
  have hlt : w.heap.size < w3.heap.size := by omega
  have hlt2 : w.heap.size + 1 ≤ w3.heap.size := hsz
  clear hb hb0 mv hsz
  go_wp2
  go_ret
  unfold MutPost
  have HB2 := HB.out.alloc HB.out.size (.cells #[.int .i64 0, .int .i64 0, .int .i64 0, .int .i64 0, .int .i64 0, .int .i64 0] 23)
  exact ⟨by simp, HC.out.below HB2 HC.out.lt, Oth.of_below HB2⟩
set_option maxHeartbeats 2000000 in
theorem step_far (b : Nat) (s : CS) (raw delta t : Int) (w : World) (hc : Clk w b s) (ok : s.Ok) (hr : raw ≤ 9223372036854775807) (hd : insB delta = true) (hi : insB ((movedF s raw).time + delta) = false) (hn : nowF s raw = (t, 0)) :
    Calls Try.prog 21 #[.pointer (some ⟨b, 0, none⟩), .int .i64 raw, .int .i64 delta] w (MutPost b s 3 w) := by
  have hmf : ∀ (fn : Fn) (first cap : Array Value) (w : World), (Instr.makeFunc fn first cap).run Try.prog w = .ok (.func fn first cap) w := fun _ _ _ _ => rfl
  have mv := fun (w1 : World) (hw : Below w.heap.size w w1) => moved_good b s raw t w1 (hc.below hw hc.lt) ok hr hn
  obtain ⟨em, hm1, hm2⟩ := moved_time hn
  rw [← em] at hm1 hm2
  clear em
  generalize movedF s raw = m at *
  obtain ⟨mraw, mtime, mppb, mleft, mrate, msteps⟩ := m
  unfold MovedPost CS.vals at mv
  simp only at *
  have ins := fun w => inside_any delta w
  rw [hd] at ins
  have hdb := insB_iff.1 hd
  have hd1 := hdb.1
  have hd2 := hdb.2
  clear hd hdb
  have ins2 := fun w => inside_any (mtime + delta) w
  rw [hi] at ins2
  have HI := Kp.mk hi
  clear hi
  have HC := Kp.mk hc
  clear hc ok hr hn
  go_enter Try.func21, Try.ntmps21
  go_wp2_with ((go_at_call 22; (with_reducible refine (ins _).mono ?_); rintro e w' ⟨rfl, rfl⟩))
  go_in
  go_wp2_with fail
  refine (mv _ ((Below.refl _ _).alloc (Nat.le_refl _) _)).mono ?_
  rintro x2 w3 ⟨rfl, hb⟩
  have hb0 : Below w.heap.size w w3 := ((Below.refl _ _).alloc (Nat.le_refl _) _).trans (hb.mono (by first | (simp; done) | (simp; omega)))
  have v0 : w3.cell? ⟨w.heap.size, 0, none⟩ = some (.int .i64 delta) := by rw [hb.cell (by simp), World.cell?_alloc_at _ _ _ _ rfl]; rfl
  obtain ⟨lt3, e0, e1, e2, e3, e4, e5, k0, k1, k2, k3, k4, k5⟩ := HC.out.below hb0 HC.out.lt
  have hsz : w.heap.size + 1 ≤ w3.heap.size := by simpa using hb.size
  have HB := Kp.mk hb0
  have hne : ¬ b = w3.heap.size := by omega
  have hne' : ¬ w3.heap.size = b := by omega
  have hne2 : ¬ w.heap.size = w3.heap.size := by omega
  have hne2' : ¬ w3.heap.size = w.heap.size := by omega
  have hlt : w.heap.size < w3.heap.size := by omega
  have hlt2 : w.heap.size + 1 ≤ w3.heap.size := hsz
  clear hb hb0 mv hsz
  go_wp2
  go_quiet ((go_at_call 22; exact qs (ins2 _)))
  go_wp2
  go_ret
  unfold MutPost
  have HB2 := HB.out.alloc HB.out.size (.cells #[.int .i64 mraw, .int .i64 mtime, .int .i64 mppb, .int .i64 mleft, .int .i64 mrate, .int .i64 msteps] 23)
  exact ⟨by simp, HC.out.below (Below.drewN HB2 _) HC.out.lt, Oth.of_below (Below.drewN HB2 _)⟩
set_option maxHeartbeats 2000000 in
theorem step_over (b : Nat) (s : CS) (raw delta t : Int) (w : World) (hc : Clk w b s) (ok : s.Ok) (hr : raw ≤ 9223372036854775807) (hd : insB delta = true) (hi : insB ((movedF s raw).time + delta) = true) (hs : (movedF s raw).steps = 9223372036854775807) (hn : nowF s raw = (t, 0)) :
    Calls Try.prog 21 #[.pointer (some ⟨b, 0, none⟩), .int .i64 raw, .int .i64 delta] w (MutPost b s 4 w) := by
  have hmf : ∀ (fn : Fn) (first cap : Array Value) (w : World), (Instr.makeFunc fn first cap).run Try.prog w = .ok (.func fn first cap) w := fun _ _ _ _ => rfl
  have mv := fun (w1 : World) (hw : Below w.heap.size w w1) => moved_good b s raw t w1 (hc.below hw hc.lt) ok hr hn
  obtain ⟨em, hm1, hm2⟩ := moved_time hn
  rw [← em] at hm1 hm2
  clear em
  generalize movedF s raw = m at *
  obtain ⟨mraw, mtime, mppb, mleft, mrate, msteps⟩ := m
  unfold MovedPost CS.vals at mv
  simp only at *
  have ins := fun w => inside_any delta w
  rw [hd] at ins
  have hdb := insB_iff.1 hd
  have hd1 := hdb.1
  have hd2 := hdb.2
  clear hd hdb
  have ins2 := fun w => inside_any (mtime + delta) w
  rw [hi] at ins2
  have HI := Kp.mk hi
  clear hi
  have tz : (msteps == 9223372036854775807) = true := by simpa using hs
  clear hs
  have HC := Kp.mk hc
  clear hc ok hr hn
  go_enter Try.func21, Try.ntmps21
  go_wp2_with ((go_at_call 22; (with_reducible refine (ins _).mono ?_); rintro e w' ⟨rfl, rfl⟩))
  go_in
  go_wp2_with fail
  refine (mv _ ((Below.refl _ _).alloc (Nat.le_refl _) _)).mono ?_
  rintro x2 w3 ⟨rfl, hb⟩
  have hb0 : Below w.heap.size w w3 := ((Below.refl _ _).alloc (Nat.le_refl _) _).trans (hb.mono (by first | (simp; done) | (simp; omega)))
  have v0 : w3.cell? ⟨w.heap.size, 0, none⟩ = some (.int .i64 delta) := by rw [hb.cell (by simp), World.cell?_alloc_at _ _ _ _ rfl]; rfl
  obtain ⟨lt3, e0, e1, e2, e3, e4, e5, k0, k1, k2, k3, k4, k5⟩ := HC.out.below hb0 HC.out.lt
  have hsz : w.heap.size + 1 ≤ w3.heap.size := by simpa using hb.size
  have HB := Kp.mk hb0
  have hne : ¬ b = w3.heap.size := by omega
  have hne' : ¬ w3.heap.size = b := by omega
  have hne2 : ¬ w.heap.size = w3.heap.size := by omega
  have hne2' : ¬ w3.heap.size = w.heap.size := by omega
  have hlt : w.heap.size < w3.heap.size := by omega
  have hlt2 : w.heap.size + 1 ≤ w3.heap.size := hsz
  clear hb hb0 mv hsz
  go_wp2
  go_quiet ((go_at_call 22; exact qs (ins2 _)))
  go_wp2
  go_ret
  unfold MutPost
  have HB2 := HB.out.alloc HB.out.size (.cells #[.int .i64 mraw, .int .i64 mtime, .int .i64 mppb, .int .i64 mleft, .int .i64 mrate, .int .i64 msteps] 23)
  exact ⟨by simp, HC.out.below (Below.drewN HB2 _) HC.out.lt, Oth.of_below (Below.drewN HB2 _)⟩
set_option maxHeartbeats 2000000 in
theorem step_good (b : Nat) (s : CS) (raw delta t : Int) (w : World) (hc : Clk w b s) (ok : s.Ok) (hr : raw ≤ 9223372036854775807) (hd : insB delta = true) (hi : insB ((movedF s raw).time + delta) = true) (hs : (movedF s raw).steps ≠ 9223372036854775807) (hs0 : 0 ≤ (movedF s raw).steps) (hs2 : (movedF s raw).steps ≤ 9223372036854775807) (hn : nowF s raw = (t, 0)) :
    Calls Try.prog 21 #[.pointer (some ⟨b, 0, none⟩), .int .i64 raw, .int .i64 delta] w (MutPost b { movedF s raw with time := (movedF s raw).time + delta, left := 0, rate := 0, steps := (movedF s raw).steps + 1 } 0 w) := by
  have hmf : ∀ (fn : Fn) (first cap : Array Value) (w : World), (Instr.makeFunc fn first cap).run Try.prog w = .ok (.func fn first cap) w := fun _ _ _ _ => rfl
  have mv := fun (w1 : World) (hw : Below w.heap.size w w1) => moved_good b s raw t w1 (hc.below hw hc.lt) ok hr hn
  obtain ⟨em, hm1, hm2⟩ := moved_time hn
  rw [← em] at hm1 hm2
  clear em
  generalize movedF s raw = m at *
  obtain ⟨mraw, mtime, mppb, mleft, mrate, msteps⟩ := m
  unfold MovedPost CS.vals at mv
  simp only at *
  have ins := fun w => inside_any delta w
  rw [hd] at ins
  have hdb := insB_iff.1 hd
  have hd1 := hdb.1
  have hd2 := hdb.2
  clear hd hdb
  have ins2 := fun w => inside_any (mtime + delta) w
  rw [hi] at ins2
  have HI := Kp.mk hi
  clear hi
  have tz : (msteps == 9223372036854775807) = false := by simpa using hs
  have hs3 : msteps < 9223372036854775807 := by omega
  clear hs hs2
  have HC := Kp.mk hc
  clear hc ok hr hn
  go_enter Try.func21, Try.ntmps21
  go_wp2_with ((go_at_call 22; (with_reducible refine (ins _).mono ?_); rintro e w' ⟨rfl, rfl⟩))
  go_in
  go_wp2_with fail
  refine (mv _ ((Below.refl _ _).alloc (Nat.le_refl _) _)).mono ?_
  rintro x2 w3 ⟨rfl, hb⟩
  have hb0 : Below w.heap.size w w3 := ((Below.refl _ _).alloc (Nat.le_refl _) _).trans (hb.mono (by first | (simp; done) | (simp; omega)))
  have v0 : w3.cell? ⟨w.heap.size, 0, none⟩ = some (.int .i64 delta) := by rw [hb.cell (by simp), World.cell?_alloc_at _ _ _ _ rfl]; rfl
  obtain ⟨lt3, e0, e1, e2, e3, e4, e5, k0, k1, k2, k3, k4, k5⟩ := HC.out.below hb0 HC.out.lt
  have hsz : w.heap.size + 1 ≤ w3.heap.size := by simpa using hb.size
  have HB := Kp.mk hb0
  have hne : ¬ b = w3.heap.size := by omega
  have hne' : ¬ w3.heap.size = b := by omega
  have hne2 : ¬ w.heap.size = w3.heap.size := by omega
  have hne2' : ¬ w3.heap.size = w.heap.size := by omega
  have hlt : w.heap.size < w3.heap.size := by omega
  have hlt2 : w.heap.size + 1 ≤ w3.heap.size := hsz
  clear hb hb0 mv hsz
  go_wp2
  go_quiet ((go_at_call 22; exact qs (ins2 _)))
  go_wp2
  go_region
  go_wp2
  go_ret
  unfold MutPost
  have hle : w.heap.size ≤ w3.heap.size := HB.out.size
  refine ⟨by simp, ?_, ?_⟩
  · refine clk_set6 (s' := ⟨mraw, mtime + delta, mppb, 0, 0, msteps + 1⟩) (HC.out.below (B := w.heap.size) ?_ HC.out.lt)
    refine Below.setCell ?_ (by exact hle) _
    refine Below.setCell ?_ (by exact hle) _
    refine Below.setCell ?_ (by exact hle) _
    refine Below.setCell ?_ (by exact hle) _
    exact Below.drewN (HB.out.alloc HB.out.size _) _
  · refine oth_set6 (Oth.of_below ?_)
    refine Below.setCell ?_ (by exact hle) _
    refine Below.setCell ?_ (by exact hle) _
    refine Below.setCell ?_ (by exact hle) _
    refine Below.setCell ?_ (by exact hle) _
    exact Below.drewN (HB.out.alloc HB.out.size _) _
theorem step_any (b : Nat) (s : CS) (raw delta : Int) (w : World) (hc : Clk w b s) (ok : s.Ok) (hr : raw ≤ 9223372036854775807) :
    Calls Try.prog 21 #[.pointer (some ⟨b, 0, none⟩), .int .i64 raw, .int .i64 delta] w (MutPost b (stepS s raw delta).1 (stepS s raw delta).2 w) := by
  unfold stepS
  have hst : (movedF s raw).steps = s.steps := rfl
  have s1 := ok.steps1
  have s2 := ok.steps2
  by_cases hd : insB delta = true
  · rw [if_pos hd]
    rcases nowF_pair s raw with ⟨t, hn⟩ | ⟨er, he, hn⟩
    · by_cases hi : insB ((movedF s raw).time + delta) = true
      · by_cases hs : (movedF s raw).steps = 9223372036854775807
        · have := step_over b s raw delta t w hc ok hr hd hi hs hn
          rw [hn]; simp only [if_true, if_pos hi, if_pos hs]; exact this
        · have := step_good b s raw delta t w hc ok hr hd hi hs (by rw [hst]; exact s1) (by rw [hst]; exact s2) hn
          rw [hn]; simp only [if_true, if_pos hi, if_neg hs]; exact this
      · have := step_far b s raw delta t w hc ok hr hd (by simpa using hi) hn
        rw [hn]; simp only [if_true, if_neg hi]; exact this
    · have := step_bad b s raw delta er w hc ok hr hd hn he
      rw [hn]; simp only [if_neg he]; exact this
  · rw [if_neg hd]; exact step_arg b s raw delta w hc (by simpa using hd)
end Go.Proofs.Ytnfkffaogidleaa
