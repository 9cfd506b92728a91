/-
  The contracts of package sysclock's Freq, Slew and Step (each hands a closure to change).
-/
import Derived.Test.YtnfkffaogidleaaClockC
import Derived.BigRegion
import Derived.RegionTactic
import Derived.ChangeAlike
set_option linter.unusedSimpArgs false
set_option linter.unusedVariables false
namespace Go.Proofs.Ytnfkffaogidleaa
open Go.RowKit
theorem clk_set6 {W : World} {b : Nat} {s s' : CS} (h : Clk W b s) : Clk ((((((W.setCell ⟨b, 0, none⟩ (.int .i64 s'.raw)).setCell ⟨b, 1, none⟩ (.int .i64 s'.time)).setCell ⟨b, 2, none⟩ (.int .i64 s'.ppb)).setCell ⟨b, 3, none⟩ (.int .i64 s'.left)).setCell ⟨b, 4, none⟩ (.int .i64 s'.rate)).setCell ⟨b, 5, none⟩ (.int .i64 s'.steps)) b s' := by
  obtain ⟨lt, c0, c1, c2, c3, c4, c5, f0, f1, f2, f3, f4, f5⟩ := h
  refine ⟨by simp [World.setCell, lt], ?_, ?_, ?_, ?_, ?_, ?_, ?_, ?_, ?_, ?_, ?_, ?_⟩ <;> simp [go_sem, c0, c1, c2, c3, c4, c5, f0, f1, f2, f3, f4, f5, World.frozen?_setCell]
theorem oth_set6 {w W : World} {b : Nat} {v0 v1 v2 v3 v4 v5 : Value} (h : Oth b w W) : Oth b w ((((((W.setCell ⟨b, 0, none⟩ v0).setCell ⟨b, 1, none⟩ v1).setCell ⟨b, 2, none⟩ v2).setCell ⟨b, 3, none⟩ v3).setCell ⟨b, 4, none⟩ v4).setCell ⟨b, 5, none⟩ v5) :=
  (((((h.setCell (p := ⟨b, 0, none⟩) rfl v0).setCell (p := ⟨b, 1, none⟩) rfl v1).setCell (p := ⟨b, 2, none⟩) rfl v2).setCell (p := ⟨b, 3, none⟩) rfl v3).setCell (p := ⟨b, 4, none⟩) rfl v4).setCell (p := ⟨b, 5, none⟩) rfl v5
/-FREQ-/
def freqF (s : CS) (raw ppb : Int) : CS × Int :=
  if -500000 ≤ ppb ∧ ppb ≤ 500000 then (if (nowF s raw).2 = 0 then ({ movedF s raw with ppb := ppb }, 0) else (s, (nowF s raw).2)) else (s, 3)
set_option maxHeartbeats 1000000 in
theorem freq_arg (b : Nat) (s : CS) (raw ppb : Int) (w : World) (hc : Clk w b s) (h : ¬ (-500000 ≤ ppb ∧ ppb ≤ 500000)) :
    Calls Try.prog 18 #[.pointer (some ⟨b, 0, none⟩), .int .i64 raw, .int .i64 ppb] w (MutPost b s 3 w) := by
  have hmf : ∀ (fn : Fn) (first cap : Array Value) (w : World), (Instr.makeFunc fn first cap).run Try.prog w = .ok (.func fn first cap) w := fun _ _ _ _ => rfl
  have HC := Kp.mk hc
  clear hc
  by_cases h1 : -500000 ≤ ppb
  · have h2 : ¬ ppb ≤ 500000 := fun h2 => h ⟨h1, h2⟩
    clear h
    go_enter Try.func18, Try.ntmps18
    go_wp2_with (fail)
    go_in
    go_wp2
    go_ret
    exact ⟨rfl, HC.out.below ((Below.refl _ _).alloc (Nat.le_refl _) _) HC.out.lt, Oth.of_below ((Below.refl _ _).alloc (Nat.le_refl _) _)⟩
  · clear h
    go_enter Try.func18, Try.ntmps18
    go_wp2_with (fail)
    go_in
    go_wp2
    go_ret
    exact ⟨rfl, HC.out.below ((Below.refl _ _).alloc (Nat.le_refl _) _) HC.out.lt, Oth.of_below ((Below.refl _ _).alloc (Nat.le_refl _) _)⟩
set_option maxHeartbeats 2000000 in
theorem freq_good (b : Nat) (s : CS) (raw ppb t : Int) (w : World) (hc : Clk w b s) (ok : s.Ok) (hr : raw ≤ 9223372036854775807) (h1 : -500000 ≤ ppb) (h2 : ppb ≤ 500000) (hn : nowF s raw = (t, 0)) :
    Calls Try.prog 18 #[.pointer (some ⟨b, 0, none⟩), .int .i64 raw, .int .i64 ppb] w (MutPost b { movedF s raw with ppb := ppb } 0 w) := by
  have hmf : ∀ (fn : Fn) (first cap : Array Value) (w : World), (Instr.makeFunc fn first cap).run Try.prog w = .ok (.func fn first cap) w := fun _ _ _ _ => rfl
  have mv := fun (w1 : World) (hw : Below w.heap.size w w1) => moved_good b s raw t w1 (hc.below hw hc.lt) ok hr hn
  generalize movedF s raw = m at *
  obtain ⟨mraw, mtime, mppb, mleft, mrate, msteps⟩ := m
  unfold MovedPost CS.vals at mv
  simp only at *
  have HC := Kp.mk hc
  clear hc ok hr hn
  go_enter Try.func18, Try.ntmps18
  go_wp2_with (fail)
  go_in
  go_wp2_with fail
  refine (mv _ ((Below.refl _ _).alloc (Nat.le_refl _) _)).mono ?_
  rintro x2 w3 ⟨rfl, hb⟩
  have hb0 : Below w.heap.size w w3 := ((Below.refl _ _).alloc (Nat.le_refl _) _).trans (hb.mono (by first | (simp; done) | (simp; omega)))
  have v0 : w3.cell? ⟨w.heap.size, 0, none⟩ = some (.int .i64 ppb) := by rw [hb.cell (by simp), World.cell?_alloc_at _ _ _ _ rfl]; rfl
  obtain ⟨lt3, e0, e1, e2, e3, e4, e5, k0, k1, k2, k3, k4, k5⟩ := HC.out.below hb0 HC.out.lt
  have hsz : w.heap.size + 1 ≤ w3.heap.size := by simpa using hb.size
  have HB := Kp.mk hb0
  have hne : ¬ b = w3.heap.size := by omega
  have hne' : ¬ w3.heap.size = b := by omega
  have hne2 : ¬ w.heap.size = w3.heap.size := by omega
  have hne2' : ¬ w3.heap.size = w.heap.size := by omega
  have hlt : w.heap.size < w3.heap.size := by omega
  have hlt2 : w.heap.size + 1 ≤ w3.heap.size := hsz
  clear hb hb0 mv hsz
  go_wp2
  go_ret
  unfold MutPost
  have hk := clk_set6 (s' := ⟨mraw, mtime, ppb, mleft, mrate, msteps⟩) (HC.out.below HB.out HC.out.lt)
  exact ⟨by simp, hk.below ((Below.refl _ _).alloc (Nat.le_refl _) _) hk.lt, (oth_set6 (Oth.of_below HB.out)).trans (Oth.of_below ((Below.refl _ _).alloc (Nat.le_refl _) _))⟩
set_option maxHeartbeats 2000000 in
theorem freq_bad (b : Nat) (s : CS) (raw ppb er : Int) (w : World) (hc : Clk w b s) (ok : s.Ok) (hr : raw ≤ 9223372036854775807) (h1 : -500000 ≤ ppb) (h2 : ppb ≤ 500000) (hn : nowF s raw = (0, er)) (he : er ≠ 0) :
    Calls Try.prog 18 #[.pointer (some ⟨b, 0, none⟩), .int .i64 raw, .int .i64 ppb] w (MutPost b s er w) := by
  have hmf : ∀ (fn : Fn) (first cap : Array Value) (w : World), (Instr.makeFunc fn first cap).run Try.prog w = .ok (.func fn first cap) w := fun _ _ _ _ => rfl
  have mv := fun (w1 : World) (hw : Below w.heap.size w w1) => moved_bad b s raw er w1 (hc.below hw hc.lt) ok hr hn he
  unfold MovedPost CS.vals CS.zero at mv
  simp only at mv
  have t1 : (er != 0) = true := by simpa using he
  have t2 : (er == 0) = false := by simpa using he
  have HC := Kp.mk hc
  clear hc ok hr hn he
  go_enter Try.func18, Try.ntmps18
  go_wp2_with (fail)
  go_in
  go_wp2_with fail
  refine (mv _ ((Below.refl _ _).alloc (Nat.le_refl _) _)).mono ?_
  rintro x2 w3 ⟨rfl, hb⟩
  have hb0 : Below w.heap.size w w3 := ((Below.refl _ _).alloc (Nat.le_refl _) _).trans (hb.mono (by first | (simp; done) | (simp; omega)))
  have v0 : w3.cell? ⟨w.heap.size, 0, none⟩ = some (.int .i64 ppb) := by rw [hb.cell (by simp), World.cell?_alloc_at _ _ _ _ rfl]; rfl
  obtain ⟨lt3, e0, e1, e2, e3, e4, e5, k0, k1, k2, k3, k4, k5⟩ := HC.out.below hb0 HC.out.lt
  have hsz : w.heap.size + 1 ≤ w3.heap.size := by simpa using hb.size
  have HB := Kp.mk hb0
  have hne : ¬ b = w3.heap.size := by omega
  have hne' : ¬ w3.heap.size = b := by omega
  have hne2 : ¬ w.heap.size = w3.heap.size := by omega
  have hne2' : ¬ w3.heap.size = w.heap.size := by omega
  have hlt : w.heap.size < w3.heap.size := by omega
  have hlt2 : w.heap.size + 1 ≤ w3.heap.size := hsz
  clear hb hb0 mv hsz
  go_wp2
  go_ret
  unfold MutPost
  have HB2 := HB.out.alloc HB.out.size (.cells #[.int .i64 0, .int .i64 0, .int .i64 0, .int .i64 0, .int .i64 0, .int .i64 0] 23)
  exact ⟨by simp, HC.out.below HB2 HC.out.lt, Oth.of_below HB2⟩
theorem freq_any (b : Nat) (s : CS) (raw ppb : Int) (w : World) (hc : Clk w b s) (ok : s.Ok) (hr : raw ≤ 9223372036854775807) :
    Calls Try.prog 18 #[.pointer (some ⟨b, 0, none⟩), .int .i64 raw, .int .i64 ppb] w (MutPost b (freqF s raw ppb).1 (freqF s raw ppb).2 w) := by
  unfold freqF
  by_cases h : -500000 ≤ ppb ∧ ppb ≤ 500000
  · rw [if_pos h]
    rcases nowF_pair s raw with ⟨t, hn⟩ | ⟨er, he, hn⟩
    · have := freq_good b s raw ppb t w hc ok hr h.1 h.2 hn
      rw [hn]; exact this
    · have := freq_bad b s raw ppb er w hc ok hr h.1 h.2 hn he
      rw [hn]; simp only [if_neg he]; exact this
  · rw [if_neg h]; exact freq_arg b s raw ppb w hc h
def slewOk (delta rate : Int) : Prop := -4503599627370496 ≤ delta ∧ delta ≤ 4503599627370496 ∧ 1 ≤ rate ∧ rate ≤ 500000
instance (delta rate : Int) : Decidable (slewOk delta rate) := by unfold slewOk; exact inferInstance
def slewS (s : CS) (raw delta rate : Int) : CS × Int :=
  if slewOk delta rate then (if (nowF s raw).2 = 0 then ({ movedF s raw with left := delta, rate := if delta = 0 then 0 else rate }, 0) else (s, (nowF s raw).2)) else (s, 3)
set_option maxHeartbeats 1000000 in
theorem slew_arg (b : Nat) (s : CS) (raw delta rate : Int) (w : World) (hc : Clk w b s) (h : ¬ slewOk delta rate) :
    Calls Try.prog 19 #[.pointer (some ⟨b, 0, none⟩), .int .i64 raw, .int .i64 delta, .int .i64 rate] w (MutPost b s 3 w) := by
  have hmf : ∀ (fn : Fn) (first cap : Array Value) (w : World), (Instr.makeFunc fn first cap).run Try.prog w = .ok (.func fn first cap) w := fun _ _ _ _ => rfl
  have HC := Kp.mk hc
  clear hc
  have ins := fun w => inside_any delta w
  by_cases h1 : -4503599627370496 ≤ delta ∧ delta ≤ 4503599627370496
  · rw [insB_true h1.1 h1.2] at ins
    by_cases h3 : 1 ≤ rate
    · have h4 : ¬ rate ≤ 500000 := fun h4 => h ⟨h1.1, h1.2, h3, h4⟩
      have tb : decide (rate ≤ 500000) = false := by simp; omega
      clear h h1
      go_enter Try.func19, Try.ntmps19
      go_wp2_with ((go_at_call 22; (with_reducible refine (ins _).mono ?_); rintro e w' ⟨rfl, rfl⟩))
      go_in
      go_wp2
      go_ret
      exact ⟨rfl, HC.out.below (below_alloc2 _ _ _) HC.out.lt, Oth.of_below (below_alloc2 _ _ _)⟩
    · have tb : decide (1 ≤ rate) = false := by simp; omega
      clear h h1
      go_enter Try.func19, Try.ntmps19
      go_wp2_with ((go_at_call 22; (with_reducible refine (ins _).mono ?_); rintro e w' ⟨rfl, rfl⟩))
      go_in
      go_wp2
      go_ret
      exact ⟨rfl, HC.out.below (below_alloc2 _ _ _) HC.out.lt, Oth.of_below (below_alloc2 _ _ _)⟩
  · have hf : insB delta = false := by cases hx : insB delta with | true => exact absurd (insB_iff.1 hx) h1 | false => rfl
    rw [hf] at ins
    clear h h1 hf
    go_enter Try.func19, Try.ntmps19
    go_wp2_with ((go_at_call 22; (with_reducible refine (ins _).mono ?_); rintro e w' ⟨rfl, rfl⟩))
    go_in
    go_wp2
    go_ret
    exact ⟨rfl, HC.out.below (below_alloc2 _ _ _) HC.out.lt, Oth.of_below (below_alloc2 _ _ _)⟩
set_option maxHeartbeats 2000000 in
theorem slew_zero (b : Nat) (s : CS) (raw delta rate t : Int) (w : World) (hc : Clk w b s) (ok : s.Ok) (hr : raw ≤ 9223372036854775807) (hd1 : -4503599627370496 ≤ delta) (hd2 : delta ≤ 4503599627370496) (h1 : 1 ≤ rate) (h2 : rate ≤ 500000) (hz : delta = 0) (hn : nowF s raw = (t, 0)) :
    Calls Try.prog 19 #[.pointer (some ⟨b, 0, none⟩), .int .i64 raw, .int .i64 delta, .int .i64 rate] w (MutPost b { movedF s raw with left := delta, rate := 0 } 0 w) := by
  have hmf : ∀ (fn : Fn) (first cap : Array Value) (w : World), (Instr.makeFunc fn first cap).run Try.prog w = .ok (.func fn first cap) w := fun _ _ _ _ => rfl
  have mv := fun (w1 : World) (hw : Below w.heap.size w w1) => moved_good b s raw t w1 (hc.below hw hc.lt) ok hr hn
  generalize movedF s raw = m at *
  obtain ⟨mraw, mtime, mppb, mleft, mrate, msteps⟩ := m
  unfold MovedPost CS.vals at mv
  simp only at *
  have tb : decide (rate ≤ 500000) = true := by simpa using h2
  have ins := fun w => inside_any delta w
  rw [insB_true hd1 hd2] at ins
  have HD := Kp.mk (And.intro hd1 hd2)
  clear hd1 hd2
  have tz : (delta == 0) = true := by simpa using hz
  have HZ := Kp.mk hz
  clear hz
  have HC := Kp.mk hc
  clear hc ok hr hn
  go_enter Try.func19, Try.ntmps19
  go_wp2_with ((go_at_call 22; (with_reducible refine (ins _).mono ?_); rintro e w' ⟨rfl, rfl⟩))
  go_in
  go_wp2_with fail
  refine (mv _ (below_alloc2 _ _ _)).mono ?_
  rintro x2 w3 ⟨rfl, hb⟩
  have hb0 : Below w.heap.size w w3 := (below_alloc2 _ _ _).trans (hb.mono (by first | (simp; done) | (simp; omega)))
  have v0 : w3.cell? ⟨w.heap.size, 0, none⟩ = some (.int .i64 delta) := by rw [hb.cell (by first | (simp; done) | (simp; omega)), World.cell?_alloc_past _ _ _ (by simp), World.cell?_alloc_at _ _ _ _ rfl]; rfl
  have v1 : w3.cell? ⟨w.heap.size + 1, 0, none⟩ = some (.int .i64 rate) := by rw [hb.cell (by simp), World.cell?_alloc_at _ _ _ _ (by simp)]; rfl
  obtain ⟨lt3, e0, e1, e2, e3, e4, e5, k0, k1, k2, k3, k4, k5⟩ := HC.out.below hb0 HC.out.lt
  have hsz : w.heap.size + 2 ≤ w3.heap.size := by simpa using hb.size
  have HB := Kp.mk hb0
  have hne : ¬ b = w3.heap.size := by omega
  have hne' : ¬ w3.heap.size = b := by omega
  have hne2 : ¬ w.heap.size = w3.heap.size := by omega
  have hne2' : ¬ w3.heap.size = w.heap.size := by omega
  have hlt : w.heap.size < w3.heap.size := by omega
  have hlt2 : w.heap.size + 2 ≤ w3.heap.size := hsz
  have hlt3 : w.heap.size + 1 < w3.heap.size := by omega
  have hne4 : ¬ w.heap.size + 1 = w3.heap.size := by omega
  have hne5 : ¬ w3.heap.size = w.heap.size + 1 := by omega
  clear hb hb0 mv hsz
  go_wp2
  go_region
  go_wp2
  go_ret
  unfold MutPost
  have hk := clk_set6 (s' := ⟨mraw, mtime, mppb, delta, 0, msteps⟩) (HC.out.below HB.out HC.out.lt)
  exact ⟨by simp, hk.below (((Below.refl _ _).alloc (Nat.le_refl _) _).drew) hk.lt, (oth_set6 (Oth.of_below HB.out)).trans (Oth.of_below (((Below.refl _ _).alloc (Nat.le_refl _) _).drew))⟩
set_option maxHeartbeats 2000000 in
theorem slew_more (b : Nat) (s : CS) (raw delta rate t : Int) (w : World) (hc : Clk w b s) (ok : s.Ok) (hr : raw ≤ 9223372036854775807) (hd1 : -4503599627370496 ≤ delta) (hd2 : delta ≤ 4503599627370496) (h1 : 1 ≤ rate) (h2 : rate ≤ 500000) (hz : delta ≠ 0) (hn : nowF s raw = (t, 0)) :
    Calls Try.prog 19 #[.pointer (some ⟨b, 0, none⟩), .int .i64 raw, .int .i64 delta, .int .i64 rate] w (MutPost b { movedF s raw with left := delta, rate := rate } 0 w) := by
  have hmf : ∀ (fn : Fn) (first cap : Array Value) (w : World), (Instr.makeFunc fn first cap).run Try.prog w = .ok (.func fn first cap) w := fun _ _ _ _ => rfl
  have mv := fun (w1 : World) (hw : Below w.heap.size w w1) => moved_good b s raw t w1 (hc.below hw hc.lt) ok hr hn
  generalize movedF s raw = m at *
  obtain ⟨mraw, mtime, mppb, mleft, mrate, msteps⟩ := m
  unfold MovedPost CS.vals at mv
  simp only at *
  have tb : decide (rate ≤ 500000) = true := by simpa using h2
  have ins := fun w => inside_any delta w
  rw [insB_true hd1 hd2] at ins
  have HD := Kp.mk (And.intro hd1 hd2)
  clear hd1 hd2
  have tz : (delta == 0) = false := by simpa using hz
  have HZ := Kp.mk hz
  clear hz
  have HC := Kp.mk hc
  clear hc ok hr hn
  go_enter Try.func19, Try.ntmps19
  go_wp2_with ((go_at_call 22; (with_reducible refine (ins _).mono ?_); rintro e w' ⟨rfl, rfl⟩))
  go_in
  go_wp2_with fail
  refine (mv _ (below_alloc2 _ _ _)).mono ?_
  rintro x2 w3 ⟨rfl, hb⟩
  have hb0 : Below w.heap.size w w3 := (below_alloc2 _ _ _).trans (hb.mono (by first | (simp; done) | (simp; omega)))
  have v0 : w3.cell? ⟨w.heap.size, 0, none⟩ = some (.int .i64 delta) := by rw [hb.cell (by first | (simp; done) | (simp; omega)), World.cell?_alloc_past _ _ _ (by simp), World.cell?_alloc_at _ _ _ _ rfl]; rfl
  have v1 : w3.cell? ⟨w.heap.size + 1, 0, none⟩ = some (.int .i64 rate) := by rw [hb.cell (by simp), World.cell?_alloc_at _ _ _ _ (by simp)]; rfl
  obtain ⟨lt3, e0, e1, e2, e3, e4, e5, k0, k1, k2, k3, k4, k5⟩ := HC.out.below hb0 HC.out.lt
  have hsz : w.heap.size + 2 ≤ w3.heap.size := by simpa using hb.size
  have HB := Kp.mk hb0
  have hne : ¬ b = w3.heap.size := by omega
  have hne' : ¬ w3.heap.size = b := by omega
  have hne2 : ¬ w.heap.size = w3.heap.size := by omega
  have hne2' : ¬ w3.heap.size = w.heap.size := by omega
  have hlt : w.heap.size < w3.heap.size := by omega
  have hlt2 : w.heap.size + 2 ≤ w3.heap.size := hsz
  have hlt3 : w.heap.size + 1 < w3.heap.size := by omega
  have hne4 : ¬ w.heap.size + 1 = w3.heap.size := by omega
  have hne5 : ¬ w3.heap.size = w.heap.size + 1 := by omega
  clear hb hb0 mv hsz
  go_wp2
  go_region
  go_wp2
  go_ret
  unfold MutPost
  have hk := clk_set6 (s' := ⟨mraw, mtime, mppb, delta, rate, msteps⟩) (HC.out.below HB.out HC.out.lt)
  exact ⟨by simp, hk.below (((Below.refl _ _).alloc (Nat.le_refl _) _).drew) hk.lt, (oth_set6 (Oth.of_below HB.out)).trans (Oth.of_below (((Below.refl _ _).alloc (Nat.le_refl _) _).drew))⟩
set_option maxHeartbeats 2000000 in
theorem slew_bad (b : Nat) (s : CS) (raw delta rate er : Int) (w : World) (hc : Clk w b s) (ok : s.Ok) (hr : raw ≤ 9223372036854775807) (hd1 : -4503599627370496 ≤ delta) (hd2 : delta ≤ 4503599627370496) (h1 : 1 ≤ rate) (h2 : rate ≤ 500000) (hn : nowF s raw = (0, er)) (he : er ≠ 0) :
    Calls Try.prog 19 #[.pointer (some ⟨b, 0, none⟩), .int .i64 raw, .int .i64 delta, .int .i64 rate] w (MutPost b s er w) := by
  have hmf : ∀ (fn : Fn) (first cap : Array Value) (w : World), (Instr.makeFunc fn first cap).run Try.prog w = .ok (.func fn first cap) w := fun _ _ _ _ => rfl
  have mv := fun (w1 : World) (hw : Below w.heap.size w w1) => moved_bad b s raw er w1 (hc.below hw hc.lt) ok hr hn he
  unfold MovedPost CS.vals CS.zero at mv
  simp only at mv
  have t1 : (er != 0) = true := by simpa using he
  have t2 : (er == 0) = false := by simpa using he
  have tb : decide (rate ≤ 500000) = true := by simpa using h2
  have ins := fun w => inside_any delta w
  rw [insB_true hd1 hd2] at ins
  have HD := Kp.mk (And.intro hd1 hd2)
  clear hd1 hd2
  have HC := Kp.mk hc
  clear hc ok hr hn he
  go_enter Try.func19, Try.ntmps19
  go_wp2_with ((go_at_call 22; (with_reducible refine (ins _).mono ?_); rintro e w' ⟨rfl, rfl⟩))
  go_in
  go_wp2_with fail
  refine (mv _ (below_alloc2 _ _ _)).mono ?_
  rintro x2 w3 ⟨rfl, hb⟩
  have hb0 : Below w.heap.size w w3 := (below_alloc2 _ _ _).trans (hb.mono (by first | (simp; done) | (simp; omega)))
  have v0 : w3.cell? ⟨w.heap.size, 0, none⟩ = some (.int .i64 delta) := by rw [hb.cell (by first | (simp; done) | (simp; omega)), World.cell?_alloc_past _ _ _ (by simp), World.cell?_alloc_at _ _ _ _ rfl]; rfl
  have v1 : w3.cell? ⟨w.heap.size + 1, 0, none⟩ = some (.int .i64 rate) := by rw [hb.cell (by simp), World.cell?_alloc_at _ _ _ _ (by simp)]; rfl
  obtain ⟨lt3, e0, e1, e2, e3, e4, e5, k0, k1, k2, k3, k4, k5⟩ := HC.out.below hb0 HC.out.lt
  have hsz : w.heap.size + 2 ≤ w3.heap.size := by simpa using hb.size
  have HB := Kp.mk hb0
  have hne : ¬ b = w3.heap.size := by omega
  have hne' : ¬ w3.heap.size = b := by omega
  have hne2 : ¬ w.heap.size = w3.heap.size := by omega
  have hne2' : ¬ w3.heap.size = w.heap.size := by omega
  have hlt : w.heap.size < w3.heap.size := by omega
  have hlt2 : w.heap.size + 2 ≤ w3.heap.size := hsz
  have hlt3 : w.heap.size + 1 < w3.heap.size := by omega
  have hne4 : ¬ w.heap.size + 1 = w3.heap.size := by omega
  have hne5 : ¬ w3.heap.size = w.heap.size + 1 := by omega
  clear hb hb0 mv hsz
  go_wp2
  go_ret
  unfold MutPost
  have HB2 := HB.out.alloc HB.out.size (.cells #[.int .i64 0, .int .i64 0, .int .i64 0, .int .i64 0, .int .i64 0, .int .i64 0] 23)
  exact ⟨by simp, HC.out.below HB2 HC.out.lt, Oth.of_below HB2⟩
theorem slew_set (b : Nat) (s : CS) (raw delta rate : Int) (w : World) (hc : Clk w b s) (ok : s.Ok) (hr : raw ≤ 9223372036854775807) :
    Calls Try.prog 19 #[.pointer (some ⟨b, 0, none⟩), .int .i64 raw, .int .i64 delta, .int .i64 rate] w (MutPost b (slewS s raw delta rate).1 (slewS s raw delta rate).2 w) := by
  unfold slewS
  by_cases h : slewOk delta rate
  · rw [if_pos h]
    obtain ⟨d1, d2, r1, r2⟩ := h
    rcases nowF_pair s raw with ⟨t, hn⟩ | ⟨er, he, hn⟩
    · rw [hn]
      by_cases hz : delta = 0
      · simp only [if_pos hz, if_true]; exact slew_zero b s raw delta rate t w hc ok hr d1 d2 r1 r2 hz hn
      · simp only [if_neg hz, if_true]; exact slew_more b s raw delta rate t w hc ok hr d1 d2 r1 r2 hz hn
    · have := slew_bad b s raw delta rate er w hc ok hr d1 d2 r1 r2 hn he
      rw [hn]; simp only [if_neg he]; exact this
  · rw [if_neg h]; exact slew_arg b s raw delta rate w hc h
end Go.Proofs.Ytnfkffaogidleaa
