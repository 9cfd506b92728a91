/-
  Paths that are nil or owned: Clone, Reverse; Stay as a quiet call.
-/
import Derived.Test.YtfpepiabpadjdaaSumB
set_option linter.unusedSimpArgs false
set_option linter.unusedVariables false
namespace Go.Proofs.Ytfpepiabpadjdaa
open Go.RowKit
set_option maxHeartbeats 2000000 in
theorem stay_quiet (i o ppb : Int) (w : World) : Calls Try.prog 11 #[.int .i64 i, .int .i64 o, .int .i64 ppb] w (fun x w' => x = .returned (.tuple #[.int .i64 (stayF i o ppb).1, .int .i64 (stayF i o ppb).2]) ∧ ∃ m, w' = w.drewN m) := by
  have i1 := fun w => inside_any i w
  have i2 := fun w => inside_any o w
  by_cases hall : inB i (-4503599627370496) 4503599627370496 = true ∧ inB o (-4503599627370496) 4503599627370496 = true ∧ inB ppb (-500000) 500000 = true
  · obtain ⟨h1, h2, h3⟩ := hall
    rw [h1] at i1
    rw [h2] at i2
    unfold stayF
    rw [if_pos (by simp [h1, h2, h3])]
    simp [inB] at h1 h2 h3
    have t1 : decide (ppb < -500000) = false := by simp; omega
    have t2 : decide (500000 < ppb) = false := by simp; omega
    by_cases ho : o < i
    · rw [if_pos ho]
      have t3 : decide (o < i) = true := by simpa using ho
      clear h1 h2 h3 ho
      go_enter Try.func11, Try.ntmps11
      go_wp2_with (first | (go_at_call 29; first | (with_reducible refine (i1 _).mono ?_; rintro e w' ⟨rfl, rfl⟩) | (with_reducible refine (i2 _).mono ?_; rintro e w' ⟨rfl, rfl⟩)) | fail)
      exact bodyPost_ret (v := .tuple #[.int .i64 0, .int .i64 12]) (by simp [results, Try.results11, go_sem]) rfl ⟨rfl, 0, rfl⟩
    · rw [if_neg ho]
      have t3 : decide (o < i) = false := by simp; omega
      have us := fun w => unscale_any (o - i) ppb (by omega) (by omega) h3.1 h3.2 w
      have e1 : wrap64 (o - i) = o - i := by unfold wrap64; omega
      unfold MulPost at us
      generalize mdiv (o - i) 1000000000 (1000000000 + ppb) = r at *
      obtain ⟨r1, r2⟩ := r
      clear h1 h2 h3 ho
      go_enter Try.func11, Try.ntmps11
      go_wp2_with (first | (go_at_call 29; first | (with_reducible refine (i1 _).mono ?_; rintro e w' ⟨rfl, rfl⟩) | (with_reducible refine (i2 _).mono ?_; rintro e w' ⟨rfl, rfl⟩)) | fail)
      simp only [e1]
      with_reducible refine (us _).mono ?_
      rintro e w' ⟨rfl, m, rfl⟩
      go_wp2_with fail
      exact bodyPost_ret (v := .tuple #[.int .i64 r1, .int .i64 0]) (by simp [results, Try.results11, go_sem]) rfl ⟨rfl, m, rfl⟩
  · unfold stayF
    rw [if_neg (by simp only [Bool.and_eq_true]; intro h; exact hall ⟨h.1.1, h.1.2, h.2⟩)]
    have h3 : inB ppb (-500000) 500000 = true ↔ (-500000 ≤ ppb ∧ ppb ≤ 500000) := by simp [inB]
    rw [h3] at hall
    clear h3
    generalize inB i (-4503599627370496) 4503599627370496 = b1 at *
    generalize inB o (-4503599627370496) 4503599627370496 = b2 at *
    cases b1 <;> cases b2
    all_goals
      have HA := Kp.mk hall
      clear hall
      go_enter Try.func11, Try.ntmps11
      go_wp2_with (first | (go_at_call 29; first | (with_reducible refine (i1 _).mono ?_; rintro e w' ⟨rfl, rfl⟩) | (with_reducible refine (i2 _).mono ?_; rintro e w' ⟨rfl, rfl⟩)) | fail)
      all_goals
        first
          | (exfalso; have := HA.out; simp at this; omega)
          | exact bodyPost_ret (v := .tuple #[.int .i64 0, .int .i64 3]) (by simp [results, Try.results11, go_sem]) rfl ⟨rfl, 0, rfl⟩
/-- A path in a block of the call's own, or nil. -/
def OwnedO (w : World) (a : Option Addr) (n : Nat) (T A O Q : Nat → Int) : Prop := match a with
  | none => n = 0
  | some ad => ∃ b, ad = ⟨b, 0, none⟩ ∧ Owned w b n T A O Q
def blk (a : Option Addr) : Option Nat := a.map (·.block)
theorem OwnedO.row {w : World} {a : Option Addr} {n : Nat} {T A O Q : Nat → Int} (h : OwnedO w a n T A O Q) (hn : n ≤ 100) : St.StepRow w a n T A O Q := by
  cases a with
  | none => exact ⟨by omega, fun i hi => by have : n = 0 := h; omega⟩
  | some ad => obtain ⟨b, rfl, h⟩ := h; exact h.row
theorem OwnedO.at {w : World} {a : Option Addr} {n : Nat} {T A O Q : Nat → Int} (h : OwnedO w a n T A O Q) {k : Nat} (hk : k < n) : ∃ b, a = some ⟨b, 0, none⟩ ∧ Owned w b n T A O Q := by
  cases a with
  | none => have : n = 0 := h; omega
  | some ad => obtain ⟨b, rfl, h⟩ := h; exact ⟨b, rfl, h⟩
theorem OwnedO.congr {w : World} {a : Option Addr} {n : Nat} {T A O Q T' A' O' Q' : Nat → Int} (h : OwnedO w a n T A O Q) (e : ∀ i, i < n → T i = T' i ∧ A i = A' i ∧ O i = O' i ∧ Q i = Q' i) : OwnedO w a n T' A' O' Q' := by
  cases a with
  | none => exact h
  | some ad => obtain ⟨b, rfl, h⟩ := h; exact ⟨b, rfl, h.congr e⟩
theorem Owned.below {w W : World} {b n : Nat} {T A O Q : Nat → Int} (h : Owned w b n T A O Q) (hB : Below w.heap.size w W) : Owned W b n T A O Q := by
  refine Owned.mk' h.row.1 (Nat.lt_of_lt_of_le h.lt hB.size) (there_below h.there hB h.lt) (fun k hk => ?_)
  obtain ⟨h0, h1, h2, h3, g⟩ := h.cells hk
  exact ⟨(hB.cell h.lt).trans h0, (hB.cell h.lt).trans h1, (hB.cell h.lt).trans h2, (hB.cell h.lt).trans h3, g⟩
theorem OwnedO.below {w W : World} {a : Option Addr} {n : Nat} {T A O Q : Nat → Int} (h : OwnedO w a n T A O Q) (hB : Below w.heap.size w W) : OwnedO W a n T A O Q := by
  cases a with
  | none => exact h
  | some ad => obtain ⟨b, rfl, h⟩ := h; exact ⟨b, rfl, h.below hB⟩
theorem clone_none (n cap : Nat) (w : World) : Calls Try.prog 27 #[.slice none n cap] w fun x w' => x = .returned (.slice none 0 0) ∧ w = w' := by
  have heq := fun w => Lib.run_eql_slice_nil (P := Try.prog) w 58 63 none n cap 0 0 Try.underlying58
  go_enter Try.func27, Try.ntmps27
  go_upto_region 3 with fail
  go_ret
  exact ⟨rfl, rfl⟩
set_option maxRecDepth 20000 in
theorem clone_zero (ad : Addr) (cap : Nat) (w : World) : Calls Try.prog 27 #[.slice (some ad) 0 cap] w fun x w' => x = .returned (.slice (some ⟨w.heap.size, 0, none⟩) 0 0) ∧ (∀ T A O Q, Owned w' w.heap.size 0 T A O Q) ∧ Below w.heap.size w w' := by
  obtain ⟨i, hi, hz, hsz, hby⟩ := info63
  have heq := fun w => Lib.run_eql_slice_nil (P := Try.prog) w 58 63 (some ad) 0 cap 0 0 Try.underlying58
  go_enter Try.func27, Try.ntmps27
  go_upto_region 3 with fail
  iterate 7 go_step
  obtain ⟨W1, hW1⟩ : ∃ W, W = w.alloc (.cells #[] 63) := ⟨_, rfl⟩
  rw [← hW1]
  have hX : Below w.heap.size w W1 := by rw [hW1]; exact (Below.refl _ _).alloc (Nat.le_refl _) _
  have hz1 : W1.heap.size = w.heap.size + 1 := by rw [hW1, World.size_alloc]
  have hsrc : Src Try.prog i.size 58 (.slice (some ad) 0 cap) 0 [] W1 := Src.ofSlice W1 Try.underlying58 ad 0 cap _ (by simp) (fun j u hu => by simp at hu) (fun u hu => by cases hu)
  have hrun := fun ty => run_append_room_src W1 58 58 ty 63 i Try.underlying58 hi w.heap.size 0 0 0 (.slice (some ad) 0 cap) 0 [] hsrc (by omega) (fun j hj => by simp at hj) (fun j hj => by simp at hj)
  refine wpList_append_run rfl _ _ _ _ rfl _ _ rfl rfl _ _ (hrun _) ?_
  have hO : ∀ T A O Q, Owned W1 w.heap.size 0 T A O Q := fun T A O Q => ⟨⟨by omega, fun i hi => absurd hi (by omega)⟩, fun j hj => absurd hj (by omega), by omega⟩
  have HK := Kp.mk (And.intro hO hX)
  clear hrun hsrc hO hX heq
  go_frame
  show wpList _ _ _ _ _ W1
  go_wp2_with fail
  exact bodyPost_ret (v := .slice (some ⟨w.heap.size, 0, none⟩) 0 0) (by simp [results, Try.results27, go_sem]) rfl ⟨rfl, HK.out.1, HK.out.2⟩
/-- Clone of a path of at most 100 elements. -/
theorem clone_o {w : World} {a : Option Addr} {n cap : Nat} (hn : n ≤ 100) {T A O Q : Nat → Int} (hs : St.StepRow w a n T A O Q) :
    Calls Try.prog 27 #[.slice a n cap] w fun x w' => ∃ a' cap', x = .returned (.slice a' n cap') ∧ OwnedO w' a' n T A O Q ∧ Below w.heap.size w w' ∧ ∀ b, blk a' = some b → w.heap.size ≤ b ∧ b < w'.heap.size := by
  rcases Nat.eq_zero_or_pos n with h0 | hpos
  · subst h0
    cases a with
    | none =>
      refine (clone_none 0 cap w).mono ?_
      rintro x w' ⟨rfl, rfl⟩
      exact ⟨none, 0, rfl, rfl, Below.refl _ _, fun b h => by cases h⟩
    | some ad =>
      refine (clone_zero ad cap w).mono ?_
      rintro x w' ⟨rfl, hO, hB⟩
      exact ⟨some ⟨w.heap.size, 0, none⟩, 0, rfl, ⟨_, rfl, hO _ _ _ _⟩, hB, fun b h => by simp [blk] at h; subst h; exact ⟨Nat.le_refl _, (hO (fun _ => 0) (fun _ => 0) (fun _ => 0) (fun _ => 0)).lt⟩⟩
  · obtain ⟨b, off, rfl, _⟩ := hs.2 0 hpos
    refine (clone_any b off n cap hn T A O Q w hs).mono ?_
    rintro x w' ⟨b', cap', rfl, hle, hO, hB⟩
    exact ⟨some ⟨b', 0, none⟩, cap', rfl, ⟨_, rfl, hO⟩, hB, fun b h => by simp [blk] at h; subst h; exact ⟨hle, hO.lt⟩⟩
set_option maxRecDepth 20000 in
theorem reverse_none (cap : Nat) (w : World) : Calls Try.prog 28 #[.slice none 0 cap] w fun x w' => x = .returned (.tuple #[]) ∧ w = w' := by
  go_enter Try.func28, Try.ntmps28
  go_wp2_with fail
  go_loopw [2, 3] (fun iv jv wr => iv = .int .i64 0 ∧ jv = .int .i64 (-1) ∧ w = wr) (fun iv _ _ => (intOf iv).toNat)
  case atStart => exact ⟨rfl, rfl, rfl⟩
  case round =>
    obtain ⟨rfl, rfl, rfl⟩ := hrel
    go_wp2_with fail
    exact bodyPost_end (results_none rfl _ _ _) rfl ⟨rfl, rfl⟩
theorem reverse_o {w : World} {a : Option Addr} {n : Nat} {T A O Q : Nat → Int} (hO : OwnedO w a n T A O Q) (hn : n ≤ 100) (cap : Nat) :
    Calls Try.prog 28 #[.slice a n cap] w fun x w' => x = .returned (.tuple #[]) ∧ OwnedO w' a n (fun i => T (n - 1 - i)) (fun i => A (n - 1 - i)) (fun i => O (n - 1 - i)) (fun i => Q (n - 1 - i)) ∧ w.grownBy w' (blk a) := by
  cases a with
  | none =>
    obtain rfl : n = 0 := hO
    refine (reverse_none cap w).mono ?_
    rintro x w' ⟨rfl, rfl⟩
    exact ⟨rfl, rfl, World.grownBy.refl _ _⟩
  | some ad =>
    obtain ⟨b, rfl, hO⟩ := hO
    refine (reverse_any hO hn cap).mono ?_
    rintro x w' ⟨rfl, h1, h2⟩
    exact ⟨rfl, ⟨b, rfl, h1⟩, h2⟩
end Go.Proofs.Ytfpepiabpadjdaa
