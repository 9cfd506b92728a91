/-
  The contract of slices.Reverse on a path.
-/
import Derived.Test.YtfpepiabpadjdaaSumA
import Derived.Maps.Range
set_option linter.unusedSimpArgs false
set_option linter.unusedVariables false
namespace Go.Proofs.Ytfpepiabpadjdaa
open Go.RowKit
def upd (F : Nat → Int) (k : Nat) (v : Int) (i : Nat) : Int := if i = k then v else F i
theorem Owned.congr {w : World} {b n : Nat} {T A O Q T' A' O' Q' : Nat → Int} (h : Owned w b n T A O Q) (e : ∀ i, i < n → T i = T' i ∧ A i = A' i ∧ O i = O' i ∧ Q i = Q' i) : Owned w b n T' A' O' Q' := by
  refine ⟨⟨h.row.1, fun i hi => ?_⟩, h.there, h.lt⟩
  obtain ⟨e1, e2, e3, e4⟩ := e i hi
  rw [← e1, ← e2, ← e3, ← e4]
  exact h.row.2 i hi
theorem cell_set_same (w : World) (a : Addr) (u v : Value) (h : w.cell? a = some v) : (w.setCell a u).cell? a = some u := by simp [go_sem, h]
theorem cell_set_ne (w : World) (b o o' : Nat) (u : Value) (h : o' ≠ o) : (w.setCell ⟨b, o, none⟩ u).cell? ⟨b, o', none⟩ = w.cell? ⟨b, o', none⟩ := by
  have : ¬ o' = o := h
  have h2 : ¬ o = o' := fun e => h e.symm
  simp [go_sem, this, h2]
theorem there_set {w : World} {b n : Nat} (h : w.there b 0 n) (o : Nat) (u : Value) : (w.setCell ⟨b, o, none⟩ u).there b 0 n := World.there_setCells h b o [u]
/-- A cell of a path that is owned is written. -/
theorem Owned.cells {w : World} {b n : Nat} {T A O Q : Nat → Int} (h : Owned w b n T A O Q) {k : Nat} (hk : k < n) : w.cell? ⟨b, k * 4, none⟩ = some (.int .i64 (T k)) ∧ w.cell? ⟨b, k * 4 + 1, none⟩ = some (.int .i64 (A k)) ∧ w.cell? ⟨b, k * 4 + 2, none⟩ = some (.int .i64 (O k)) ∧ w.cell? ⟨b, k * 4 + 3, none⟩ = some (.int .i64 (Q k)) ∧ St.I64 (T k) ∧ St.I64 (A k) ∧ St.I64 (O k) ∧ St.I64 (Q k) := by
  obtain ⟨b', off, e, _, ⟨h0, g0⟩, ⟨h1, g1⟩, ⟨h2, g2⟩, h3, g3⟩ := h.row.2 k hk
  simp at e
  obtain ⟨rfl, rfl⟩ := e
  simp only [Nat.zero_add] at h0 h1 h2 h3
  exact ⟨h0, h1, h2, h3, g0, g1, g2, g3⟩
theorem Owned.frz {w : World} {b n : Nat} {T A O Q : Nat → Int} (h : Owned w b n T A O Q) {j : Nat} (hj : j < n * 4) : w.frozen? ⟨b, j, none⟩ = false := by
  have := (h.there j hj).2
  rwa [Nat.zero_add] at this
theorem Owned.mk' {w : World} {b n : Nat} {T A O Q : Nat → Int} (hl : n ≤ 9223372036854775807) (hlt : b < w.heap.size) (ht : w.there b 0 (n * 4))
    (h : ∀ k, k < n → w.cell? ⟨b, k * 4, none⟩ = some (.int .i64 (T k)) ∧ w.cell? ⟨b, k * 4 + 1, none⟩ = some (.int .i64 (A k)) ∧ w.cell? ⟨b, k * 4 + 2, none⟩ = some (.int .i64 (O k)) ∧ w.cell? ⟨b, k * 4 + 3, none⟩ = some (.int .i64 (Q k)) ∧ St.I64 (T k) ∧ St.I64 (A k) ∧ St.I64 (O k) ∧ St.I64 (Q k)) : Owned w b n T A O Q :=
  ⟨⟨hl, fun k hk => by
    obtain ⟨h0, h1, h2, h3, g0, g1, g2, g3⟩ := h k hk
    exact ⟨b, 0, rfl, hlt, ⟨by rw [Nat.zero_add]; exact h0, g0⟩, ⟨by rw [Nat.zero_add]; exact h1, g1⟩, ⟨by rw [Nat.zero_add]; exact h2, g2⟩, by rw [Nat.zero_add]; exact h3, g3⟩⟩, ht, hlt⟩
theorem Owned.set0 {w : World} {b n : Nat} {T A O Q : Nat → Int} (h : Owned w b n T A O Q) {k : Nat} (hk : k < n) {v : Int} (hv : St.I64 v) : Owned (w.setCell ⟨b, k * 4, none⟩ (.int .i64 v)) b n (upd T k v) A O Q := by
  refine Owned.mk' h.row.1 (by have := h.lt; simpa [World.setCell] using this) (there_set h.there _ _) (fun i hi => ?_)
  obtain ⟨c0, c1, c2, c3, g0, g1, g2, g3⟩ := h.cells hi
  refine ⟨?_, ?_, ?_, ?_, ?_, ?_, ?_, ?_⟩
  · by_cases e : i = k
    · subst e; rw [cell_set_same _ _ _ _ c0]; simp [upd]
    · rw [cell_set_ne _ _ _ _ _ (by omega), c0]; simp [upd, e]
  · rw [cell_set_ne _ _ _ _ _ (by omega)]; exact c1
  · rw [cell_set_ne _ _ _ _ _ (by omega)]; exact c2
  · rw [cell_set_ne _ _ _ _ _ (by omega)]; exact c3
  · unfold upd
    split
    · exact hv
    · exact g0
  · exact g1
  · exact g2
  · exact g3
theorem Owned.set1 {w : World} {b n : Nat} {T A O Q : Nat → Int} (h : Owned w b n T A O Q) {k : Nat} (hk : k < n) {v : Int} (hv : St.I64 v) : Owned (w.setCell ⟨b, k * 4 + 1, none⟩ (.int .i64 v)) b n T (upd A k v) O Q := by
  refine Owned.mk' h.row.1 (by have := h.lt; simpa [World.setCell] using this) (there_set h.there _ _) (fun i hi => ?_)
  obtain ⟨c0, c1, c2, c3, g0, g1, g2, g3⟩ := h.cells hi
  refine ⟨?_, ?_, ?_, ?_, ?_, ?_, ?_, ?_⟩
  · rw [cell_set_ne _ _ _ _ _ (by omega)]; exact c0
  · by_cases e : i = k
    · subst e; rw [cell_set_same _ _ _ _ c1]; simp [upd]
    · rw [cell_set_ne _ _ _ _ _ (by omega), c1]; simp [upd, e]
  · rw [cell_set_ne _ _ _ _ _ (by omega)]; exact c2
  · rw [cell_set_ne _ _ _ _ _ (by omega)]; exact c3
  · exact g0
  · unfold upd
    split
    · exact hv
    · exact g1
  · exact g2
  · exact g3
theorem Owned.set2 {w : World} {b n : Nat} {T A O Q : Nat → Int} (h : Owned w b n T A O Q) {k : Nat} (hk : k < n) {v : Int} (hv : St.I64 v) : Owned (w.setCell ⟨b, k * 4 + 2, none⟩ (.int .i64 v)) b n T A (upd O k v) Q := by
  refine Owned.mk' h.row.1 (by have := h.lt; simpa [World.setCell] using this) (there_set h.there _ _) (fun i hi => ?_)
  obtain ⟨c0, c1, c2, c3, g0, g1, g2, g3⟩ := h.cells hi
  refine ⟨?_, ?_, ?_, ?_, ?_, ?_, ?_, ?_⟩
  · rw [cell_set_ne _ _ _ _ _ (by omega)]; exact c0
  · rw [cell_set_ne _ _ _ _ _ (by omega)]; exact c1
  · by_cases e : i = k
    · subst e; rw [cell_set_same _ _ _ _ c2]; simp [upd]
    · rw [cell_set_ne _ _ _ _ _ (by omega), c2]; simp [upd, e]
  · rw [cell_set_ne _ _ _ _ _ (by omega)]; exact c3
  · exact g0
  · exact g1
  · unfold upd
    split
    · exact hv
    · exact g2
  · exact g3
theorem Owned.set3 {w : World} {b n : Nat} {T A O Q : Nat → Int} (h : Owned w b n T A O Q) {k : Nat} (hk : k < n) {v : Int} (hv : St.I64 v) : Owned (w.setCell ⟨b, k * 4 + 3, none⟩ (.int .i64 v)) b n T A O (upd Q k v) := by
  refine Owned.mk' h.row.1 (by have := h.lt; simpa [World.setCell] using this) (there_set h.there _ _) (fun i hi => ?_)
  obtain ⟨c0, c1, c2, c3, g0, g1, g2, g3⟩ := h.cells hi
  refine ⟨?_, ?_, ?_, ?_, ?_, ?_, ?_, ?_⟩
  · rw [cell_set_ne _ _ _ _ _ (by omega)]; exact c0
  · rw [cell_set_ne _ _ _ _ _ (by omega)]; exact c1
  · rw [cell_set_ne _ _ _ _ _ (by omega)]; exact c2
  · by_cases e : i = k
    · subst e; rw [cell_set_same _ _ _ _ c3]; simp [upd]
    · rw [cell_set_ne _ _ _ _ _ (by omega), c3]; simp [upd, e]
  · exact g0
  · exact g1
  · exact g2
  · unfold upd
    split
    · exact hv
    · exact g3
theorem Owned.drew {w : World} {b n : Nat} {T A O Q : Nat → Int} (h : Owned w b n T A O Q) : Owned w.drew b n T A O Q := ⟨h.row, h.there, h.lt⟩
/-- Behind k swaps. -/
def sw (n k : Nat) (F : Nat → Int) (i : Nat) : Int := if i < k ∨ n ≤ i + k then F (n - 1 - i) else F i
theorem sw_zero {n : Nat} {F : Nat → Int} {i : Nat} (hi : i < n) : F i = sw n 0 F i := by unfold sw; rw [if_neg (by omega)]
theorem sw_step {n k j : Nat} {F : Nat → Int} {i : Nat} (hi : i < n) (hj : j + k + 1 = n) (hkj : k < j) : upd (upd (sw n k F) k (sw n k F j)) j (sw n k F k) i = sw n (k + 1) F i := by
  have e1 : sw n k F j = F j := by unfold sw; rw [if_neg (by omega)]
  have e2 : sw n k F k = F k := by unfold sw; rw [if_neg (by omega)]
  rw [e1, e2]
  unfold upd
  by_cases h1 : i = j
  · subst h1
    rw [if_pos rfl]
    unfold sw
    rw [if_pos (by omega)]
    congr 1; omega
  · rw [if_neg h1]
    by_cases h2 : i = k
    · subst h2
      rw [if_pos rfl]
      unfold sw
      rw [if_pos (by omega)]
      congr 1; omega
    · rw [if_neg h2]
      unfold sw
      by_cases h3 : i < k ∨ n ≤ i + k
      · rw [if_pos h3, if_pos (by omega)]
      · rw [if_neg h3, if_neg (by omega)]
theorem sw_end {n k : Nat} {F : Nat → Int} {i : Nat} (hi : i < n) (hk : n ≤ k + k + 1) : sw n k F i = F (n - 1 - i) := by
  unfold sw
  by_cases h : i < k ∨ n ≤ i + k
  · rw [if_pos h]
  · rw [if_neg h]
    congr 1; omega
theorem grown_set {w W : World} {b : Nat} (h : w.grownBy W (some b)) (o : Nat) (u : Value) : w.grownBy (W.setCell ⟨b, o, none⟩ u) (some b) := grown_setCells b [u] o W h
theorem grown_drew2 {a b : World} {row : Option Nat} (h : a.grownBy b row) : a.grownBy b.drew row := ⟨h.os, h.tape, h.output, h.size, h.block⟩
set_option maxRecDepth 20000 in
set_option maxHeartbeats 8000000 in
theorem reverse_any {w : World} {b n : Nat} {T A O Q : Nat → Int} (hO : Owned w b n T A O Q) (hn : n ≤ 100) (cap : Nat) : Calls Try.prog 28 #[.slice (some ⟨b, 0, none⟩) n cap] w fun x w' => x = .returned (.tuple #[]) ∧ Owned w' b n (fun i => T (n - 1 - i)) (fun i => A (n - 1 - i)) (fun i => O (n - 1 - i)) (fun i => Q (n - 1 - i)) ∧ w.grownBy w' (some b) := by
  have e0 : wrap64 ((n : Int) - 1) = (n : Int) - 1 := by unfold wrap64; omega
  have H0 := Kp.mk hO
  have HN := Kp.mk hn
  clear hO hn
  go_enter Try.func28, Try.ntmps28
  go_wp2_with fail
  go_loopw [2, 3] (fun iv jv wr => ∃ k : Nat, k ≤ n ∧ iv = .int .i64 k ∧ jv = .int .i64 ((n : Int) - 1 - k) ∧ Owned wr b n (sw n k T) (sw n k A) (sw n k O) (sw n k Q) ∧ w.grownBy wr (some b)) (fun iv _ _ => n - (intOf iv).toNat)
  case atStart => exact ⟨0, Nat.zero_le _, rfl, by simp [e0], H0.out.congr (fun i hi => ⟨sw_zero hi, sw_zero hi, sw_zero hi, sw_zero hi⟩), World.grownBy.refl _ _⟩
  case round =>
    obtain ⟨k, hk, rfl, rfl, hO, hG⟩ := hrel
    have hn := HN.out
    by_cases hlt : (k : Int) < (n : Int) - 1 - k
    · obtain ⟨j, hj⟩ : ∃ j : Nat, (n : Int) - 1 - k = j := ⟨((n : Int) - 1 - k).toNat, by omega⟩
      rw [hj]
      have hkj : k < j := by omega
      have hjn : j + k + 1 = n := by omega
      have kz : (0 : Int) ≤ (k : Int) := by omega
      have jz : (0 : Int) ≤ (j : Int) := by omega
      have kl : (k : Int) < (n : Int) := by omega
      have jl : (j : Int) < (n : Int) := by omega
      have t1 : decide ((k : Int) < (j : Int)) = true := by simp; omega
      have n00 : ¬ k * 4 = j * 4 := by omega
      have m00 : ¬ j * 4 = k * 4 := by omega
      have n01 : ¬ k * 4 = j * 4 + 1 := by omega
      have m01 : ¬ j * 4 = k * 4 + 1 := by omega
      have n02 : ¬ k * 4 = j * 4 + 2 := by omega
      have m02 : ¬ j * 4 = k * 4 + 2 := by omega
      have n03 : ¬ k * 4 = j * 4 + 3 := by omega
      have m03 : ¬ j * 4 = k * 4 + 3 := by omega
      have n10 : ¬ k * 4 + 1 = j * 4 := by omega
      have m10 : ¬ j * 4 + 1 = k * 4 := by omega
      have n11 : ¬ k * 4 + 1 = j * 4 + 1 := by omega
      have m11 : ¬ j * 4 + 1 = k * 4 + 1 := by omega
      have n12 : ¬ k * 4 + 1 = j * 4 + 2 := by omega
      have m12 : ¬ j * 4 + 1 = k * 4 + 2 := by omega
      have n13 : ¬ k * 4 + 1 = j * 4 + 3 := by omega
      have m13 : ¬ j * 4 + 1 = k * 4 + 3 := by omega
      have n20 : ¬ k * 4 + 2 = j * 4 := by omega
      have m20 : ¬ j * 4 + 2 = k * 4 := by omega
      have n21 : ¬ k * 4 + 2 = j * 4 + 1 := by omega
      have m21 : ¬ j * 4 + 2 = k * 4 + 1 := by omega
      have n22 : ¬ k * 4 + 2 = j * 4 + 2 := by omega
      have m22 : ¬ j * 4 + 2 = k * 4 + 2 := by omega
      have n23 : ¬ k * 4 + 2 = j * 4 + 3 := by omega
      have m23 : ¬ j * 4 + 2 = k * 4 + 3 := by omega
      have n30 : ¬ k * 4 + 3 = j * 4 := by omega
      have m30 : ¬ j * 4 + 3 = k * 4 := by omega
      have n31 : ¬ k * 4 + 3 = j * 4 + 1 := by omega
      have m31 : ¬ j * 4 + 3 = k * 4 + 1 := by omega
      have n32 : ¬ k * 4 + 3 = j * 4 + 2 := by omega
      have m32 : ¬ j * 4 + 3 = k * 4 + 2 := by omega
      have n33 : ¬ k * 4 + 3 = j * 4 + 3 := by omega
      have m33 : ¬ j * 4 + 3 = k * 4 + 3 := by omega
      obtain ⟨c0, c1, c2, c3, hi0, hi1, hi2, hi3⟩ := hO.cells (k := k) (by omega)
      obtain ⟨d0, d1, d2, d3, gi0, gi1, gi2, gi3⟩ := hO.cells (k := j) (by omega)
      have f0 := hO.frz (j := k * 4) (by omega)
      have f1 := hO.frz (j := k * 4 + 1) (by omega)
      have f2 := hO.frz (j := k * 4 + 2) (by omega)
      have f3 := hO.frz (j := k * 4 + 3) (by omega)
      have g0 := hO.frz (j := j * 4) (by omega)
      have g1 := hO.frz (j := j * 4 + 1) (by omega)
      have g2 := hO.frz (j := j * 4 + 2) (by omega)
      have g3 := hO.frz (j := j * 4 + 3) (by omega)
      have ej : wrap64 ((j : Int) - 1) = (n : Int) - 1 - (k + 1 : Nat) := by unfold wrap64; omega
      have HH := Kp.mk (And.intro hO (And.intro hG (And.intro hjn (And.intro (And.intro hi0 (And.intro hi1 (And.intro hi2 hi3))) (And.intro gi0 (And.intro gi1 (And.intro gi2 gi3)))))))
      clear hO hG hi0 hi1 hi2 hi3 gi0 gi1 gi2 gi3
      have HE := Kp.mk (show True from trivial)
      obtain ⟨t0, ht0⟩ : ∃ v, sw n k T k = v := ⟨_, rfl⟩
      obtain ⟨t1, ht1⟩ : ∃ v, sw n k T j = v := ⟨_, rfl⟩
      obtain ⟨a0, ha0⟩ : ∃ v, sw n k A k = v := ⟨_, rfl⟩
      obtain ⟨a1, ha1⟩ : ∃ v, sw n k A j = v := ⟨_, rfl⟩
      obtain ⟨o0, ho0⟩ : ∃ v, sw n k O k = v := ⟨_, rfl⟩
      obtain ⟨o1, ho1⟩ : ∃ v, sw n k O j = v := ⟨_, rfl⟩
      obtain ⟨q0, hq0⟩ : ∃ v, sw n k Q k = v := ⟨_, rfl⟩
      obtain ⟨q1, hq1⟩ : ∃ v, sw n k Q j = v := ⟨_, rfl⟩
      rw [ht0] at c0
      rw [ha0] at c1
      rw [ho0] at c2
      rw [hq0] at c3
      rw [ht1] at d0
      rw [ha1] at d1
      rw [ho1] at d2
      rw [hq1] at d3
      have HV := Kp.mk (And.intro (And.intro ht0 ht1) (And.intro (And.intro ha0 ha1) (And.intro (And.intro ho0 ho1) (And.intro hq0 hq1))))
      clear ht0 ht1 ha0 ha1 ho0 ho1 hq0 hq1 HE
      go_wp2_with fail
      go_region
      obtain ⟨w2, hw2⟩ : ∃ W, W = ((((((((wr.setCell ⟨b, k * 4, none⟩ (.int .i64 t1)).setCell ⟨b, k * 4 + 1, none⟩ (.int .i64 a1)).setCell ⟨b, k * 4 + 2, none⟩ (.int .i64 o1)).setCell ⟨b, k * 4 + 3, none⟩ (.int .i64 q1)).setCell ⟨b, j * 4, none⟩ (.int .i64 t0)).setCell ⟨b, j * 4 + 1, none⟩ (.int .i64 a0)).setCell ⟨b, j * 4 + 2, none⟩ (.int .i64 o0)).setCell ⟨b, j * 4 + 3, none⟩ (.int .i64 q0)).drew := ⟨_, rfl⟩
      rw [← hw2]
      obtain ⟨hO, hG, hjn2, ⟨hi0, hi1, hi2, hi3⟩, gi0, gi1, gi2, gi3⟩ := HH.out
      obtain ⟨⟨ht0, ht1⟩, ⟨ha0, ha1⟩, ⟨ho0, ho1⟩, hq0, hq1⟩ := HV.out
      have kn : k < n := by omega
      have jn : j < n := by omega
      have hO2 : Owned w2 b n (sw n (k + 1) T) (sw n (k + 1) A) (sw n (k + 1) O) (sw n (k + 1) Q) := by
        rw [hw2]
        refine (((((((((hO.set0 kn (ht1 ▸ gi0)).set1 kn (ha1 ▸ gi1)).set2 kn (ho1 ▸ gi2)).set3 kn (hq1 ▸ gi3)).set0 jn (ht0 ▸ hi0)).set1 jn (ha0 ▸ hi1)).set2 jn (ho0 ▸ hi2)).set3 jn (hq0 ▸ hi3)).drew).congr (fun i hi => ?_)
        rw [← ht0, ← ht1, ← ha0, ← ha1, ← ho0, ← ho1, ← hq0, ← hq1]
        exact ⟨sw_step hi hjn2 hkj, sw_step hi hjn2 hkj, sw_step hi hjn2 hkj, sw_step hi hjn2 hkj⟩
      have hG2 : w.grownBy w2 (some b) := by
        rw [hw2]
        exact grown_drew2 (grown_set (grown_set (grown_set (grown_set (grown_set (grown_set (grown_set (grown_set hG _ _) _ _) _ _) _ _) _ _) _ _) _ _) _ _)
      have HR := Kp.mk (And.intro hO2 hG2)
      clear hw2 hO hG hO2 hG2 hi0 hi1 hi2 hi3 gi0 gi1 gi2 gi3 ht0 ht1 ha0 ha1 ho0 ho1 hq0 hq1 c0 c1 c2 c3 d0 d1 d2 d3 f0 f1 f2 f3 g0 g1 g2 g3 HH HV n00 m00 n01 m01 n02 m02 n03 m03 n10 m10 n11 m11 n12 m12 n13 m13 n20 m20 n21 m21 n22 m22 n23 m23 n30 m30 n31 m31 n32 m32 n33 m33
      go_wp2_with fail
      go_roundw
      case rel => exact ⟨k + 1, by omega, by go_num, by go_num, HR.out.1, HR.out.2⟩
      case measure => simp [intOf]; omega
    · have t1 : decide ((k : Int) < (n : Int) - 1 - k) = false := by simp; omega
      have HR := Kp.mk (And.intro (hO.congr (fun i hi => ⟨sw_end hi (by omega), sw_end hi (by omega), sw_end hi (by omega), sw_end hi (by omega)⟩)) hG)
      clear hO hG
      go_wp2_with fail
      exact bodyPost_end (results_none rfl _ _ _) rfl ⟨rfl, HR.out.1, HR.out.2⟩
end Go.Proofs.Ytfpepiabpadjdaa
