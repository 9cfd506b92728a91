/-
  Paths of good elements: what their corrections sum up to, whatever the order.
-/
import Derived.Test.YtfpepiabpadjdaaRevA
import Derived.Test.YtfpepiabpadjdaaExaR
set_option linter.unusedSimpArgs false
set_option linter.unusedVariables false
namespace Go.Proofs.Ytfpepiabpadjdaa
open Go.RowKit
def sumF (f : Nat → Int) : Nat → Int
  | 0 => 0
  | n + 1 => sumF f n + f n
theorem sumF_shift (f : Nat → Int) : ∀ n, sumF f (n + 1) = f 0 + sumF (fun i => f (i + 1)) n
  | 0 => by simp [sumF]
  | n + 1 => by
    have ih := sumF_shift f n
    show sumF f (n + 1) + f (n + 1) = f 0 + (sumF (fun i => f (i + 1)) n + f (n + 1))
    omega
theorem sumF_congr {f g : Nat → Int} : ∀ n, (∀ i, i < n → f i = g i) → sumF f n = sumF g n
  | 0, _ => rfl
  | n + 1, h => by
    show sumF f n + f n = sumF g n + g n
    rw [sumF_congr n (fun i hi => h i (by omega)), h n (by omega)]
theorem sumF_rev : ∀ (n : Nat) (f : Nat → Int), sumF (fun i => f (n - 1 - i)) n = sumF f n
  | 0, _ => rfl
  | n + 1, f => by
    rw [sumF_shift f n, ← sumF_rev n (fun i => f (i + 1))]
    show sumF (fun i => f (n + 1 - 1 - i)) n + f (n + 1 - 1 - n) = _
    have e1 : f (n + 1 - 1 - n) = f 0 := by congr 1; omega
    have e2 : sumF (fun i => f (n + 1 - 1 - i)) n = sumF (fun i => f (n - 1 - i + 1)) n := sumF_congr n (fun i hi => by congr 1; omega)
    rw [e1, e2]
    omega
structure VE (t a o q : Int) : Prop where
  start : -2147483648 ≤ t ∧ t ≤ 2147483647
  long : 0 ≤ a - t ∧ a - t ≤ 4294967295
  rate : -500000 ≤ o ∧ o ≤ 500000
  link : 0 ≤ q ∧ q ≤ 4294967295
def stN (t a o : Int) : Int := (a - t) * 1000000000 / (1000000000 + o)
theorem stay_ve {t a o q : Int} (h : VE t a o q) : stayF t a o = (stN t a o, 0) ∧ 0 ≤ stN t a o ∧ stN t a o ≤ 8589934590 := by
  obtain ⟨ht, ha, ho, hq⟩ := h
  refine ⟨stayF_ok (by omega) (by omega) (by omega) (by omega) ho.1 ho.2, Int.ediv_nonneg (by omega) (by omega), ?_⟩
  unfold stN
  refine Int.ediv_le_of_le_mul (by omega) ?_
  have h1 : (a - t) * 1000000000 ≤ 4294967295 * 1000000000 := Int.mul_le_mul_of_nonneg_right ha.2 (by omega)
  omega
theorem add_ve {p : PM} (hp : okP p = true) (hk : p.kind ≠ 11) {s l : Int} (hs : 0 ≤ s ∧ s ≤ 8589934590) (hl : 0 ≤ l ∧ l ≤ 4294967295) (hc : -2305843009213693952 ≤ p.corr) (hc2 : p.corr ≤ 2305843009213693952) : addPF p s l = ({ p with corr := p.corr + 65536 * (s + l) }, 0) := by
  unfold addPF
  have e1 : inB s 0 1125899906842624 = true := by simp [inB]; omega
  have e2 : inB l 0 1125899906842624 = true := by simp [inB]; omega
  rw [if_neg (by simp [hp]), if_neg hk, if_neg (by simp [e1, e2])]
  have u : unitsF (s + l) = ((s + l) * 65536, true) := by unfold unitsF; rw [if_pos (by omega)]
  have a : addF p.corr ((s + l) * 65536) = (p.corr + (s + l) * 65536, true) := by unfold addF; rw [if_pos (by omega)]
  unfold corrF
  rw [u, a]
  simp only [Bool.and_self, if_true]
  rw [Int.mul_comm 65536]
section
variable {T A O Q : Nat → Int}
theorem path_ve : ∀ (m k : Nat) (p : PM), (∀ i, k ≤ i → i < k + m → VE (T i) (A i) (O i) (Q i)) → okP p = true → p.kind ≠ 11 → -2251799813685248 ≤ p.corr → p.corr + m * 1125899906842624 ≤ 1152921504606846976 →
    pathF T A O Q m k p = ({ p with corr := p.corr + 65536 * sumF (fun i => stN (T (k + i)) (A (k + i)) (O (k + i)) + Q (k + i)) m }, 0)
  | 0, k, p, _, _, _, _, _ => by
    unfold pathF sumF
    simp
  | m + 1, k, p, hv, hp, hk, hc, hc2 => by
    have hv0 := hv k (Nat.le_refl _) (by omega)
    obtain ⟨hs, hs0, hs1⟩ := stay_ve hv0
    have hq := hv0.link
    have ha := add_ve hp hk ⟨hs0, hs1⟩ hq (by omega) (by omega)
    unfold pathF
    rw [hs]
    simp only
    rw [ha]
    simp only [if_true]
    rw [path_ve m (k + 1) _ (fun i h1 h2 => hv i (by omega) (by omega)) (by exact hp) (by exact hk) (by show _ ≤ p.corr + 65536 * _; omega) (by show p.corr + 65536 * _ + _ ≤ _; omega)]
    rw [sumF_shift]
    have e : sumF (fun i => stN (T (k + (i + 1))) (A (k + (i + 1))) (O (k + (i + 1))) + Q (k + (i + 1))) m = sumF (fun i => stN (T (k + 1 + i)) (A (k + 1 + i)) (O (k + 1 + i)) + Q (k + 1 + i)) m := sumF_congr m (fun i _ => by rw [show k + (i + 1) = k + 1 + i by omega])
    rw [e]
    simp only [Nat.add_zero]
    congr 2
    omega
theorem path_bad {m k : Nat} {p : PM} (hv : VE (T k) (A k) (O k) (Q k)) (hp : okP p = false) : pathF T A O Q (m + 1) k p = (PM.zero, 2) := by
  obtain ⟨hs, _⟩ := stay_ve hv
  unfold pathF
  rw [hs]
  simp only
  have ha : addPF p (stN (T k) (A k) (O k)) (Q k) = (PM.zero, 2) := by unfold addPF; rw [if_pos hp]
  rw [ha]
  simp
theorem path_ann {m k : Nat} {p : PM} (hv : VE (T k) (A k) (O k) (Q k)) (hp : okP p = true) (hk : p.kind = 11) : pathF T A O Q (m + 1) k p = (PM.zero, 8) := by
  obtain ⟨hs, _⟩ := stay_ve hv
  unfold pathF
  rw [hs]
  simp only
  have ha : addPF p (stN (T k) (A k) (O k)) (Q k) = (PM.zero, 8) := by unfold addPF; rw [if_neg (by simp [hp]), if_pos hk]
  rw [ha]
  simp
theorem sums_law {n : Nat} (hn : n ≤ 100) {p : PM} (hc : -1125899906842624 ≤ p.corr ∧ p.corr ≤ 1125899906842624) (hv : ∀ i, i < n → VE (T i) (A i) (O i) (Q i)) :
    pathF (fun i => T (n - 1 - i)) (fun i => A (n - 1 - i)) (fun i => O (n - 1 - i)) (fun i => Q (n - 1 - i)) n 0 p = pathF T A O Q n 0 p ∧
    (pathF T A O Q n 0 p = ({ p with corr := p.corr + 65536 * sumF (fun i => stN (T i) (A i) (O i) + Q i) n }, 0) ∨ pathF T A O Q n 0 p = (PM.zero, 2) ∨ pathF T A O Q n 0 p = (PM.zero, 8)) := by
  have hvr : ∀ i, i < n → VE (T (n - 1 - i)) (A (n - 1 - i)) (O (n - 1 - i)) (Q (n - 1 - i)) := fun i hi => hv _ (by omega)
  cases n with
  | zero => exact ⟨rfl, .inl (by unfold pathF sumF; simp)⟩
  | succ m =>
    cases hp : okP p with
    | false =>
      have e1 := path_bad (T := T) (A := A) (O := O) (Q := Q) (m := m) (k := 0) (hv 0 (by omega)) hp
      have e2 := path_bad (T := fun i => T (m + 1 - 1 - i)) (A := fun i => A (m + 1 - 1 - i)) (O := fun i => O (m + 1 - 1 - i)) (Q := fun i => Q (m + 1 - 1 - i)) (m := m) (k := 0) (hvr 0 (by omega)) hp
      exact ⟨e2.trans e1.symm, .inr (.inl e1)⟩
    | true =>
      by_cases hk : p.kind = 11
      · have e1 := path_ann (T := T) (A := A) (O := O) (Q := Q) (m := m) (k := 0) (hv 0 (by omega)) hp hk
        have e2 := path_ann (T := fun i => T (m + 1 - 1 - i)) (A := fun i => A (m + 1 - 1 - i)) (O := fun i => O (m + 1 - 1 - i)) (Q := fun i => Q (m + 1 - 1 - i)) (m := m) (k := 0) (hvr 0 (by omega)) hp hk
        exact ⟨e2.trans e1.symm, .inr (.inr e1)⟩
      · have e1 := path_ve (T := T) (A := A) (O := O) (Q := Q) (m + 1) 0 p (fun i _ h => hv i (by omega)) hp hk (by omega) (by omega)
        have e2 := path_ve (T := fun i => T (m + 1 - 1 - i)) (A := fun i => A (m + 1 - 1 - i)) (O := fun i => O (m + 1 - 1 - i)) (Q := fun i => Q (m + 1 - 1 - i)) (m + 1) 0 p (fun i _ h => hvr i (by omega)) hp hk (by omega) (by omega)
        simp only [Nat.zero_add] at e1 e2
        have e3 := sumF_rev (m + 1) (fun i => stN (T i) (A i) (O i) + Q i)
        try simp only at e3
        rw [e3] at e2
        exact ⟨e2.trans e1.symm, .inl e1⟩
end
end Go.Proofs.Ytfpepiabpadjdaa
