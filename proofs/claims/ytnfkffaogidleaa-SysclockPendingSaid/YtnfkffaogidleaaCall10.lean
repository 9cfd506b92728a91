/-
  The contract of the law's call: one of the clock's methods by its number.
-/
import Derived.Test.YtnfkffaogidleaaNobody10
set_option linter.unusedSimpArgs false
set_option linter.unusedVariables false
namespace Go.Proofs.Ytnfkffaogidleaa
open Go.RowKit
def callF (s : CS) (kind raw a b : Int) : CS × (Int × Int) :=
  if kind = 0 then (s, nowF s raw) else if kind = 1 then ((freqF s raw a).1, (0, (freqF s raw a).2)) else if kind = 2 then ((slewS s raw a b).1, (0, (slewS s raw a b).2)) else
  if kind = 3 then ((stepS s raw a).1, (0, (stepS s raw a).2)) else (s, (pendF s raw, 0))
def CallPost (b : Nat) (s : CS) (n er : Int) (w : World) (x : Ending) (w' : World) : Prop := x = .returned (.tuple #[.int .i64 n, .int .i64 er]) ∧ Clk w' b s ∧ Oth b w w'
theorem oth_alloc {b : Nat} (w : World) (o : Obj) : Oth b w (w.alloc o) := Oth.of_below ((Below.refl _ _).alloc (Nat.le_refl _) _)
set_option maxHeartbeats 2000000 in
theorem call_any (bk : Nat) (s : CS) (kind raw a b : Int) (w : World) (hc : Clk w bk s) (ok : s.Ok) (hr : raw ≤ 9223372036854775807) :
    Calls Try.prog 17 #[.pointer (some ⟨bk, 0, none⟩), .agg #[.int .i64 kind, .int .i64 raw, .int .i64 a, .int .i64 b]] w (CallPost bk (callF s kind raw a b).1 (callF s kind raw a b).2.1 (callF s kind raw a b).2.2 w) := by
  have HC : ∀ o, Clk (w.alloc o) bk s := fun o => hc.below ((Below.refl _ _).alloc (Nat.le_refl _) _) hc.lt
  have HK := Kp.mk hc
  clear hc
  unfold callF
  by_cases h0 : kind = 0
  · rw [if_pos h0]
    have t0 : (kind == 0) = true := by simpa using h0
    clear h0
    go_enter Try.func17, Try.ntmps17
    go_wp2_with fail
    refine (now_any bk s raw _ (HC _) ok hr).mono ?_
    rintro e w1 ⟨rfl, hb⟩
    have HO : Kp (Oth bk w w1 ∧ Clk w1 bk s) := ⟨(oth_alloc w _).trans (Oth.of_below hb), (HC _).below hb (HC _).lt⟩
    clear hb
    go_wp2_with fail
    go_ret2
    exact ⟨by simp, HO.out.2, HO.out.1⟩
  · rw [if_neg h0]
    by_cases h1 : kind = 1
    · rw [if_pos h1]
      have t1 : (kind == 1) = true := by simpa using h1
      have t0 : (kind == 0) = false := by simpa using h0
      clear h0 h1
      go_enter Try.func17, Try.ntmps17
      go_wp2_with fail
      refine (freq_any bk s raw a _ (HC _) ok hr).mono ?_
      rintro e w1 ⟨rfl, hk, ho⟩
      have HO : Kp (Oth bk w w1 ∧ _) := ⟨(oth_alloc w _).trans ho, hk⟩
      clear hk ho
      go_wp2_with fail
      go_ret2
      exact ⟨by simp, HO.out.2, HO.out.1⟩
    · rw [if_neg h1]
      by_cases h2 : kind = 2
      · rw [if_pos h2]
        have t2 : (kind == 2) = true := by simpa using h2
        have t0 : (kind == 0) = false := by simpa using h0
        have t1 : (kind == 1) = false := by simpa using h1
        clear h0 h1 h2
        go_enter Try.func17, Try.ntmps17
        go_wp2_with fail
        refine (slew_set bk s raw a b _ (HC _) ok hr).mono ?_
        rintro e w1 ⟨rfl, hk, ho⟩
        have HO : Kp (Oth bk w w1 ∧ _) := ⟨(oth_alloc w _).trans ho, hk⟩
        clear hk ho
        go_wp2_with fail
        go_ret2
        exact ⟨by simp, HO.out.2, HO.out.1⟩
      · rw [if_neg h2]
        by_cases h3 : kind = 3
        · rw [if_pos h3]
          have t3 : (kind == 3) = true := by simpa using h3
          have t0 : (kind == 0) = false := by simpa using h0
          have t1 : (kind == 1) = false := by simpa using h1
          have t2 : (kind == 2) = false := by simpa using h2
          clear h0 h1 h2 h3
          go_enter Try.func17, Try.ntmps17
          go_wp2_with fail
          refine (step_any bk s raw a _ (HC _) ok hr).mono ?_
          rintro e w1 ⟨rfl, hk, ho⟩
          have HO : Kp (Oth bk w w1 ∧ _) := ⟨(oth_alloc w _).trans ho, hk⟩
          clear hk ho
          go_wp2_with fail
          go_ret2
          exact ⟨by simp, HO.out.2, HO.out.1⟩
        · rw [if_neg h3]
          have t0 : (kind == 0) = false := by simpa using h0
          have t1 : (kind == 1) = false := by simpa using h1
          have t2 : (kind == 2) = false := by simpa using h2
          have t3 : (kind == 3) = false := by simpa using h3
          clear h0 h1 h2 h3
          go_enter Try.func17, Try.ntmps17
          go_wp2_with fail
          refine (pending_any bk s raw _ (HC _) ok hr).mono ?_
          rintro e w1 ⟨rfl, hb⟩
          have HO : Kp (Oth bk w w1 ∧ Clk w1 bk s) := ⟨(oth_alloc w _).trans (Oth.of_below hb), (HC _).below hb (HC _).lt⟩
          clear hb
          go_wp2_with fail
          go_ret2
          exact ⟨by simp, HO.out.2, HO.out.1⟩
theorem callF_keeps {s : CS} {kind raw a b : Int} (h0 : 0 ≤ kind) (h3 : kind ≤ 3) (he : (callF s kind raw a b).2.2 ≠ 0) : (callF s kind raw a b).1 = s ∧ (callF s kind raw a b).2.1 = 0 := by
  unfold callF at *
  by_cases k0 : kind = 0
  · simp only [if_pos k0] at *
    exact ⟨trivial, nowF_err he⟩
  · by_cases k1 : kind = 1
    · simp only [if_neg k0, if_pos k1] at *
      refine ⟨?_, trivial⟩
      unfold freqF at *
      split at he
      · split at he
        · exact absurd rfl he
        · rename_i x y; rw [if_pos x, if_neg y]
      · rename_i x; rw [if_neg x]
    · by_cases k2 : kind = 2
      · simp only [if_neg k0, if_neg k1, if_pos k2] at *
        refine ⟨?_, trivial⟩
        unfold slewS at *
        split at he
        · split at he
          · exact absurd rfl he
          · rename_i x y; rw [if_pos x, if_neg y]
        · rename_i x; rw [if_neg x]
      · have k3 : kind = 3 := by omega
        simp only [if_neg k0, if_neg k1, if_neg k2, if_pos k3] at *
        refine ⟨?_, trivial⟩
        unfold stepS at *
        split at he
        · split at he
          · split at he
            · split at he
              · rename_i x y z u; rw [if_pos x, if_pos y, if_pos z, if_pos u]
              · exact absurd rfl he
            · rename_i x y z; rw [if_pos x, if_pos y, if_neg z]
          · rename_i x y; rw [if_pos x, if_neg y]
        · rename_i x; rw [if_neg x]
end Go.Proofs.Ytnfkffaogidleaa
