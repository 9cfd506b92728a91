/-
  The contracts of package sysclock's Freq, Slew and Step (each hands a closure to change).
-/
import Derived.Test.YtlmcmakiaiaieaaClockC
import Derived.BigRegion
import Derived.RegionTactic
import Derived.ChangeAlike
set_option linter.unusedSimpArgs false
set_option linter.unusedVariables false
namespace Go.Proofs.Ytlmcmakiaiaieaa
open Go.RowKit
theorem clk_set6 {W : World} {b : Nat} {s s' : CS} (h : Clk W b s) : Clk ((((((W.setCell ⟨b, 0, none⟩ (.int .i64 s'.raw)).setCell ⟨b, 1, none⟩ (.int .i64 s'.time)).setCell ⟨b, 2, none⟩ (.int .i64 s'.ppb)).setCell ⟨b, 3, none⟩ (.int .i64 s'.left)).setCell ⟨b, 4, none⟩ (.int .i64 s'.rate)).setCell ⟨b, 5, none⟩ (.int .i64 s'.steps)) b s' := by
  obtain ⟨lt, c0, c1, c2, c3, c4, c5, f0, f1, f2, f3, f4, f5⟩ := h
  refine ⟨by simp [World.setCell, lt], ?_, ?_, ?_, ?_, ?_, ?_, ?_, ?_, ?_, ?_, ?_, ?_⟩ <;> simp [go_sem, c0, c1, c2, c3, c4, c5, f0, f1, f2, f3, f4, f5, World.frozen?_setCell]
theorem oth_set6 {w W : World} {b : Nat} {v0 v1 v2 v3 v4 v5 : Value} (h : Oth b w W) : Oth b w ((((((W.setCell ⟨b, 0, none⟩ v0).setCell ⟨b, 1, none⟩ v1).setCell ⟨b, 2, none⟩ v2).setCell ⟨b, 3, none⟩ v3).setCell ⟨b, 4, none⟩ v4).setCell ⟨b, 5, none⟩ v5) :=
  (((((h.setCell (p := ⟨b, 0, none⟩) rfl v0).setCell (p := ⟨b, 1, none⟩) rfl v1).setCell (p := ⟨b, 2, none⟩) rfl v2).setCell (p := ⟨b, 3, none⟩) rfl v3).setCell (p := ⟨b, 4, none⟩) rfl v4).setCell (p := ⟨b, 5, none⟩) rfl v5
/-FREQ-/
def freqF (s : CS) (raw ppb : Int) : CS × Int :=
  if -500000 ≤ ppb ∧ ppb ≤ 500000 then (if (nowF s raw).2 = 0 then ({ movedF s raw with ppb := ppb }, 0) else (s, (nowF s raw).2)) else (s, 3)
set_option maxHeartbeats 1000000 in
theorem freq_arg (b : Nat) (s : CS) (raw ppb : Int) (w : World) (hc : Clk w b s) (h : ¬ (-500000 ≤ ppb ∧ ppb ≤ 500000)) :
    Calls Try.prog 8 #[.pointer (some ⟨b, 0, none⟩), .int .i64 raw, .int .i64 ppb] w (MutPost b s 3 w) := by
  have hmf : ∀ (fn : Fn) (first cap : Array Value) (w : World), (Instr.makeFunc fn first cap).run Try.prog w = .ok (.func fn first cap) w := fun _ _ _ _ => rfl
  have HC := Kp.mk hc
  clear hc
  by_cases h1 : -500000 ≤ ppb
  · have h2 : ¬ ppb ≤ 500000 := fun h2 => h ⟨h1, h2⟩
    clear h
    go_enter Try.func8, Try.ntmps8
    go_wp2_with (fail)
    go_in
    go_wp2
    go_ret
    exact ⟨rfl, HC.out.below ((Below.refl _ _).alloc (Nat.le_refl _) _) HC.out.lt, Oth.of_below ((Below.refl _ _).alloc (Nat.le_refl _) _)⟩
  · clear h
    go_enter Try.func8, Try.ntmps8
    go_wp2_with (fail)
    go_in
    go_wp2
    go_ret
    exact ⟨rfl, HC.out.below ((Below.refl _ _).alloc (Nat.le_refl _) _) HC.out.lt, Oth.of_below ((Below.refl _ _).alloc (Nat.le_refl _) _)⟩
set_option maxHeartbeats 2000000 in
theorem freq_good (b : Nat) (s : CS) (raw ppb t : Int) (w : World) (hc : Clk w b s) (ok : s.Ok) (hr : raw ≤ 9223372036854775807) (h1 : -500000 ≤ ppb) (h2 : ppb ≤ 500000) (hn : nowF s raw = (t, 0)) :
    Calls Try.prog 8 #[.pointer (some ⟨b, 0, none⟩), .int .i64 raw, .int .i64 ppb] w (MutPost b { movedF s raw with ppb := ppb } 0 w) := by
  have hmf : ∀ (fn : Fn) (first cap : Array Value) (w : World), (Instr.makeFunc fn first cap).run Try.prog w = .ok (.func fn first cap) w := fun _ _ _ _ => rfl
  have mv := fun (w1 : World) (hw : Below w.heap.size w w1) => moved_good b s raw t w1 (hc.below hw hc.lt) ok hr hn
  generalize movedF s raw = m at *
  obtain ⟨mraw, mtime, mppb, mleft, mrate, msteps⟩ := m
  unfold MovedPost CS.vals at mv
  simp only at *
  have HC := Kp.mk hc
  clear hc ok hr hn
  go_enter Try.func8, Try.ntmps8
  go_wp2_with (fail)
  go_in
  go_wp2_with fail
  refine (mv _ ((Below.refl _ _).alloc (Nat.le_refl _) _)).mono ?_
  rintro x2 w3 ⟨rfl, hb⟩
  have hb0 : Below w.heap.size w w3 := ((Below.refl _ _).alloc (Nat.le_refl _) _).trans (hb.mono (by first | (simp; done) | (simp; omega)))
  have v0 : w3.cell? ⟨w.heap.size, 0, none⟩ = some (.int .i64 ppb) := by rw [hb.cell (by simp), World.cell?_alloc_at _ _ _ _ rfl]; rfl
  obtain ⟨lt3, e0, e1, e2, e3, e4, e5, k0, k1, k2, k3, k4, k5⟩ := HC.out.below hb0 HC.out.lt
  have hsz : w.heap.size + 1 ≤ w3.heap.size := by simpa using hb.size
  have HB := Kp.mk hb0
  have hne : ¬ b = w3.heap.size := by omega
  have hne' : ¬ w3.heap.size = b := by omega
  have hne2 : ¬ w.heap.size = w3.heap.size := by omega
  have hne2' : ¬ w3.heap.size = w.heap.size := by omega
  have hlt : w.heap.size < w3.heap.size := by omega
  have hlt2 : w.heap.size + 1 ≤ w3.heap.size := hsz
  clear hb hb0 mv hsz
  go_wp2
  go_ret
  unfold MutPost
  have hk := clk_set6 (s' := ⟨mraw, mtime, ppb, mleft, mrate, msteps⟩) (HC.out.below HB.out HC.out.lt)
  exact ⟨by simp, hk.below ((Below.refl _ _).alloc (Nat.le_refl _) _) hk.lt, (oth_set6 (Oth.of_below HB.out)).trans (Oth.of_below ((Below.refl _ _).alloc (Nat.le_refl _) _))⟩
set_option maxHeartbeats 2000000 in
theorem freq_bad (b : Nat) (s : CS) (raw ppb er : Int) (w : World) (hc : Clk w b s) (ok : s.Ok) (hr : raw ≤ 9223372036854775807) (h1 : -500000 ≤ ppb) (h2 : ppb ≤ 500000) (hn : nowF s raw = (0, er)) (he : er ≠ 0) :
    Calls Try.prog 8 #[.pointer (some ⟨b, 0, none⟩), .int .i64 raw, .int .i64 ppb] w (MutPost b s er w) := by
  have hmf : ∀ (fn : Fn) (first cap : Array Value) (w : World), (Instr.makeFunc fn first cap).run Try.prog w = .ok (.func fn first cap) w := fun _ _ _ _ => rfl
  have mv := fun (w1 : World) (hw : Below w.heap.size w w1) => moved_bad b s raw er w1 (hc.below hw hc.lt) ok hr hn he
  unfold MovedPost CS.vals CS.zero at mv
  simp only at mv
  have t1 : (er != 0) = true := by simpa using he
  have t2 : (er == 0) = false := by simpa using he
  have HC := Kp.mk hc
  clear hc ok hr hn he
  go_enter Try.func8, Try.ntmps8
  go_wp2_with (fail)
  go_in
  go_wp2_with fail
  refine (mv _ ((Below.refl _ _).alloc (Nat.le_refl _) _)).mono ?_
  rintro x2 w3 ⟨rfl, hb⟩
  have hb0 : Below w.heap.size w w3 := ((Below.refl _ _).alloc (Nat.le_refl _) _).trans (hb.mono (by first | (simp; done) | (simp; omega)))
  have v0 : w3.cell? ⟨w.heap.size, 0, none⟩ = some (.int .i64 ppb) := by rw [hb.cell (by simp), World.cell?_alloc_at _ _ _ _ rfl]; rfl
  obtain ⟨lt3, e0, e1, e2, e3, e4, e5, k0, k1, k2, k3, k4, k5⟩ := HC.out.below hb0 HC.out.lt
  have hsz : w.heap.size + 1 ≤ w3.heap.size := by simpa using hb.size
  have HB := Kp.mk hb0
  have hne : ¬ b = w3.heap.size := by omega
  have hne' : ¬ w3.heap.size = b := by omega
  have hne2 : ¬ w.heap.size = w3.heap.size := by omega
  have hne2' : ¬ w3.heap.size = w.heap.size := by omega
  have hlt : w.heap.size < w3.heap.size := by omega
  have hlt2 : w.heap.size + 1 ≤ w3.heap.size := hsz
  clear hb hb0 mv hsz
  go_wp2
  go_ret
  unfold MutPost
  have HB2 := HB.out.alloc HB.out.size (.cells #[.int .i64 0, .int .i64 0, .int .i64 0, .int .i64 0, .int .i64 0, .int .i64 0] 67)
  exact ⟨by simp, HC.out.below HB2 HC.out.lt, Oth.of_below HB2⟩
theorem freq_any (b : Nat) (s : CS) (raw ppb : Int) (w : World) (hc : Clk w b s) (ok : s.Ok) (hr : raw ≤ 9223372036854775807) :
    Calls Try.prog 8 #[.pointer (some ⟨b, 0, none⟩), .int .i64 raw, .int .i64 ppb] w (MutPost b (freqF s raw ppb).1 (freqF s raw ppb).2 w) := by
  unfold freqF
  by_cases h : -500000 ≤ ppb ∧ ppb ≤ 500000
  · rw [if_pos h]
    rcases nowF_pair s raw with ⟨t, hn⟩ | ⟨er, he, hn⟩
    · have := freq_good b s raw ppb t w hc ok hr h.1 h.2 hn
      rw [hn]; exact this
    · have := freq_bad b s raw ppb er w hc ok hr h.1 h.2 hn he
      rw [hn]; simp only [if_neg he]; exact this
  · rw [if_neg h]; exact freq_arg b s raw ppb w hc h
end Go.Proofs.Ytlmcmakiaiaieaa
