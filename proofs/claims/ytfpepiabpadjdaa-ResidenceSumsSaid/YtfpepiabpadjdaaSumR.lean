/-
  ResidenceSums' walk.
-/
import Derived.Test.YtfpepiabpadjdaaSumC
import Derived.Test.YtfpepiabpadjdaaPathA
set_option linter.unusedSimpArgs false
set_option linter.unusedVariables false
namespace Go.Proofs.Ytfpepiabpadjdaa
open Go.RowKit Go.Maps
theorem Owned.grown {w W : World} {b n : Nat} {row : Option Nat} {T A O Q : Nat → Int} (h : Owned w b n T A O Q) (hg : w.grownBy W row) (hne : row ≠ some b) : Owned W b n T A O Q := by
  refine Owned.mk' h.row.1 (Nat.lt_of_lt_of_le h.lt hg.size) (there_grown h.there h.lt hg hne.symm) (fun k hk => ?_)
  obtain ⟨h0, h1, h2, h3, g⟩ := h.cells hk
  exact ⟨hg.cell h0 hne.symm, hg.cell h1 hne.symm, hg.cell h2 hne.symm, hg.cell h3 hne.symm, g⟩
theorem OwnedO.grown {w W : World} {a : Option Addr} {n : Nat} {row : Option Nat} {T A O Q : Nat → Int} (h : OwnedO w a n T A O Q) (hg : w.grownBy W row) (hne : ∀ b, blk a = some b → row ≠ some b) : OwnedO W a n T A O Q := by
  cases a with
  | none => exact h
  | some ad => obtain ⟨b, rfl, h⟩ := h; exact ⟨b, rfl, h.grown hg (hne b rfl)⟩
theorem OwnedO.blt {w : World} {a : Option Addr} {n : Nat} {T A O Q : Nat → Int} (h : OwnedO w a n T A O Q) {b : Nat} (hb : blk a = some b) : b < w.heap.size := by
  cases a with
  | none => cases hb
  | some ad => obtain ⟨b', rfl, h⟩ := h; simp [blk] at hb; subst hb; exact h.lt
def mx (k : Nat) (F' F : Nat → Int) (i : Nat) : Int := if i < k then F' i else F i
theorem mx_at (k : Nat) (F' F : Nat → Int) : mx k F' F k = F k := by simp [mx]
theorem mx_step (k : Nat) (F' F : Nat → Int) (i : Nat) : upd (mx k F' F) k (F' k) i = mx (k + 1) F' F i := by
  unfold upd mx
  by_cases h : i = k
  · subst h; simp
  · rw [if_neg h]
    by_cases h2 : i < k
    · rw [if_pos h2, if_pos (by omega)]
    · rw [if_neg h2, if_neg (by omega)]
def cT (T : Nat → Int) (i : Nat) : Int := IntKind.i32.wrap (T i)
def cA (T A : Nat → Int) (i : Nat) : Int := IntKind.i32.wrap (T i) + IntKind.u32.wrap (A i)
def cO (O : Nat → Int) (i : Nat) : Int := (O i).tmod 500001
def cQ (Q : Nat → Int) (i : Nat) : Int := IntKind.u32.wrap (Q i)
theorem w_i32 (a : Int) : -2147483648 ≤ IntKind.i32.wrap a ∧ IntKind.i32.wrap a ≤ 2147483647 := by rw [IntKind.wrap_i32]; omega
theorem w_u32 (a : Int) : 0 ≤ IntKind.u32.wrap a ∧ IntKind.u32.wrap a ≤ 4294967295 := by rw [IntKind.wrap_u32]; omega
theorem cVE (T A O Q : Nat → Int) (i : Nat) : VE (cT T i) (cA T A i) (cO O i) (cQ Q i) := by
  have h1 := w_i32 (T i)
  have h2 := w_u32 (A i)
  exact ⟨h1, by unfold cA cT; omega, tmod_bd (O i), w_u32 (Q i)⟩
theorem tmod_c (a : Int) : -1125899906842624 ≤ a.tmod 1125899906842624 ∧ a.tmod 1125899906842624 ≤ 1125899906842624 := by
  rcases Int.le_total 0 a with h | h
  · have := Int.tmod_eq_emod_of_nonneg h (b := 1125899906842624)
    rw [this]; omega
  · have h2 : 0 ≤ -a := by omega
    have := Int.tmod_eq_emod_of_nonneg h2 (b := 1125899906842624)
    rw [Int.neg_tmod] at this
    omega
theorem sumF_bd {f : Nat → Int} (h : ∀ i, 0 ≤ f i ∧ f i ≤ 12884901885) : ∀ n : Nat, 0 ≤ sumF f n ∧ sumF f n ≤ n * 12884901885
  | 0 => by simp [sumF]
  | n + 1 => by
    have ih := sumF_bd h n
    have := h n
    unfold sumF
    omega
set_option maxRecDepth 20000 in
set_option maxHeartbeats 8000000 in
theorem sums_any (p : PM) (a : Option Addr) (len cap : Nat) (T A O Q : Nat → Int) (w : World) (hp : p.Wf) (hlc : len ≤ cap) (hs : St.StepRow w a len T A O Q) :
    Calls Try.prog 10 #[.agg p.vals, .slice a len cap] w fun x w' => x = .returned (.bool true) ∧ Below w.heap.size w w' := by
  have hlen := hs.1
  obtain ⟨n, hn, hnl, hn100⟩ : ∃ n : Nat, min (len : Int) 100 = n ∧ n ≤ len ∧ n ≤ 100 := ⟨min len 100, by omega, by omega, by omega⟩
  have hs2 : St.StepRow w a n T A O Q := ⟨Nat.le_trans hnl hs.1, fun i hi => hs.2 i (Nat.lt_of_lt_of_le hi hnl)⟩
  have aw := fun w => awake_any w
  have hm := PBox.made w p 33
  have hX : Below w.heap.size w (w.alloc (.cells p.vals 33)) := (Below.refl _ _).alloc (Nat.le_refl _) _
  have hfr : (w.alloc (.cells p.vals 33)).frozen? ⟨w.heap.size, 3, none⟩ = false := World.frozen?_alloc_at _ _ _ _ rfl
  have hWs : (w.alloc (.cells p.vals 33)).heap.size = w.heap.size + 1 := World.size_alloc _ _
  obtain ⟨W, hW⟩ : ∃ W, W = w.alloc (.cells p.vals 33) := ⟨_, rfl⟩
  rw [← hW] at hm hX hfr hWs
  have hsW : St.StepRow W a n T A O Q := ⟨hs2.1, fun i hi => by
    obtain ⟨b, off, ha, hb, ⟨h0, g0⟩, ⟨h1, g1⟩, ⟨h2, g2⟩, h3, g3⟩ := hs2.2 i hi
    exact ⟨b, off, ha, Nat.lt_of_lt_of_le hb hX.size, ⟨(hX.cell hb).trans h0, g0⟩, ⟨(hX.cell hb).trans h1, g1⟩, ⟨(hX.cell hb).trans h2, g2⟩, (hX.cell hb).trans h3, g3⟩⟩
  have H := Kp.mk (And.intro hm (And.intro hX (And.intro hsW (And.intro hfr hWs))))
  have HP := Kp.mk hp
  have HN := Kp.mk hn100
  obtain ⟨cc, hcc⟩ : ∃ x, p.corr.tmod 1125899906842624 = x := ⟨_, rfl⟩
  have hcb := tmod_c p.corr
  rw [hcc] at hcb
  have ecc : wrap64 (p.corr.tmod 1125899906842624) = cc := by unfold wrap64; omega
  have ecc2 : wrap64 cc = cc := by unfold wrap64; omega
  have HC := Kp.mk hcb
  clear hm hX hp hs hs2 hsW hfr hWs hnl hn100 hcb
  unfold PM.vals at hW ⊢
  go_enter Try.func10, Try.ntmps10
  go_upto_region 1 with fail
  rw [← hW]
  clear hW
  go_wp2_with fail
  refine (clone_o HN.out H.out.2.2.1).mono ?_
  rintro x w1 ⟨a', cap', rfl, hO, hX, hbl⟩
  obtain ⟨hm, hB, _, hfr, hWs⟩ := H.out
  have hfr : w1.frozen? ⟨w.heap.size, 3, none⟩ = false := (hX.frozen (p := ⟨w.heap.size, 3, none⟩) hm.lt).trans hfr
  have hm := hm.below hX hm.lt
  have hB := Below.then hB hB.size hX
  have hbl : ∀ b, blk a' = some b → w.heap.size < b := fun b hb => by have := (hbl b hb).1; omega
  have c3 := hm.c3
  have H1 := Kp.mk (And.intro hm (And.intro hB (And.intro hO hbl)))
  clear hm hB hO hbl hX H hWs
  go_upto_region 3 with fail
  obtain ⟨w2, hw2⟩ : ∃ W, W = w1.setCell ⟨w.heap.size, 3, none⟩ (.int .i64 cc) := ⟨_, rfl⟩
  rw [← hw2]
  obtain ⟨hm, hB, hO, hbl⟩ := H1.out
  have hG : w1.grownBy w2 (some w.heap.size) := by rw [hw2]; exact grown_setCells w.heap.size [.int .i64 cc] 3 w1 (World.grownBy.refl _ _)
  have hm2 : PBox w2 w.heap.size { p with corr := cc } := by rw [hw2]; exact hm.set3 cc
  have hO2 := hO.grown hG (fun b hb e => by have := hbl b hb; simp at e; omega)
  have hB2 : Below w.heap.size w w2 := by rw [hw2]; exact hB.setCell (Nat.le_refl _) _
  clear hw2 hm hB hO hG c3 hfr H1 ecc hcc
  have hpk : POk { p with corr := cc } := ⟨HP.out.kind, by have := HC.out; exact ⟨by show _ ≤ cc; omega, by show cc ≤ _; omega⟩⟩
  obtain ⟨p', hp'⟩ : ∃ q, ({ p with corr := cc } : PM) = q := ⟨_, rfl⟩
  have hcorr : p'.corr = cc := by rw [← hp']
  rw [hp'] at hm2 hpk
  obtain ⟨f, hf⟩ : ∃ f : Nat → Int, f = fun i => stN (cT T i) (cA T A i) (cO O i) + cQ Q i := ⟨_, rfl⟩
  have hfb : ∀ i, 0 ≤ f i ∧ f i ≤ 12884901885 := fun i => by
    have h1 := (stay_ve (cVE T A O Q i)).2
    have h2 := (cVE T A O Q i).link
    rw [hf]
    show 0 ≤ _ + _ ∧ _ + _ ≤ _
    omega
  have hsb := sumF_bd hfb
  have H2 := Kp.mk (And.intro hm2 (And.intro hB2 (And.intro hO2 (And.intro hbl (And.intro hpk hcorr)))))
  have HF := Kp.mk (And.intro hf hsb)
  clear hm2 hB2 hO2 hbl hpk hcorr hp' hf hsb hfb
  go_wp2_with fail
  go_loopw [5, 27] (fun sv iv wr => ∃ k : Nat, k ≤ n ∧ iv = .int .i64 k ∧ sv = .int .i64 (sumF f k) ∧ OwnedO wr a' n (mx k (cT T) T) (mx k (cA T A) A) (mx k (cO O) O) (mx k (cQ Q) Q) ∧ w2.grownBy wr (blk a')) (fun _ iv _ => n - (intOf iv).toNat)
  case atStart => exact ⟨0, Nat.zero_le _, rfl, rfl, H2.out.2.2.1.congr (fun i _ => ⟨by simp [mx], by simp [mx], by simp [mx], by simp [mx]⟩), World.grownBy.refl _ _⟩
  case round =>
    obtain ⟨k, hk, rfl, rfl, hO, hG⟩ := hrel
    have hn100 := HN.out
    by_cases hlt : k < n
    · have t1 : decide ((k : Int) < (n : Int)) = true := by simp; omega
      have kz : (0 : Int) ≤ (k : Int) := by omega
      have kl : (k : Int) < (n : Int) := by omega
      obtain ⟨b, rfl, hOw⟩ := hO.at hlt
      clear hO
      have hO := hOw
      clear hOw
      obtain ⟨c0, c1, c2, c3, _, _, _, _⟩ := hO.cells hlt
      rw [mx_at] at c0 c1 c2 c3
      have f0 := hO.frz (j := k * 4) (by omega)
      have f1 := hO.frz (j := k * 4 + 1) (by omega)
      have f2 := hO.frz (j := k * 4 + 2) (by omega)
      have f3 := hO.frz (j := k * 4 + 3) (by omega)
      have hve := cVE T A O Q k
      obtain ⟨hst, hs0, hs1⟩ := stay_ve hve
      have st := fun w => stay_quiet (cT T k) (cA T A k) (cO O k) w
      rw [hst] at st
      have hfk : f k = stN (cT T k) (cA T A k) (cO O k) + cQ Q k := by rw [HF.out.1]
      have hs := HF.out.2 k
      have hs' := HF.out.2 (k + 1)
      have hsn : sumF f (k + 1) = sumF f k + f k := rfl
      rw [hsn] at hs'
      obtain ⟨ua, hua⟩ : ∃ x, IntKind.u32.wrap (A k) = x := ⟨_, rfl⟩
      have hub := w_u32 (A k)
      rw [hua] at hub
      obtain ⟨t', ht'⟩ : ∃ x, cT T k = x := ⟨_, rfl⟩
      obtain ⟨a2, ha2⟩ : ∃ x, cA T A k = x := ⟨_, rfl⟩
      obtain ⟨o', ho'⟩ : ∃ x, cO O k = x := ⟨_, rfl⟩
      obtain ⟨q', hq'⟩ : ∃ x, cQ Q k = x := ⟨_, rfl⟩
      obtain ⟨sn, hsn'⟩ : ∃ x, stN (cT T k) (cA T A k) (cO O k) = x := ⟨_, rfl⟩
      rw [ht', ha2, ho', hq'] at hve
      rw [hsn'] at st hs0 hs1 hfk
      rw [ht', ha2, ho'] at st
      rw [hq'] at hfk
      have et : IntKind.i32.wrap (T k) = t' := ht'
      have eo0 : (O k).tmod 500001 = o' := ho'
      have eq0 : IntKind.u32.wrap (Q k) = q' := hq'
      have ea0 : t' + ua = a2 := by rw [← et, ← hua]; exact ha2
      have et2 : wrap64 t' = t' := by have := hve.start; unfold wrap64; omega
      have eu2 : wrap64 ua = ua := by unfold wrap64; omega
      have ea : wrap64 (t' + ua) = a2 := by have := hve.start; rw [← ea0]; unfold wrap64; omega
      have ea3 : wrap64 a2 = a2 := by have := hve.start; rw [← ea0]; unfold wrap64; omega
      have eo : wrap64 ((O k).tmod 500001) = o' := by have := hve.rate; rw [eo0]; unfold wrap64; omega
      have eo2 : wrap64 o' = o' := by have := hve.rate; unfold wrap64; omega
      have eq2 : wrap64 q' = q' := by have := hve.link; unfold wrap64; omega
      have es1 : wrap64 (sn + q') = sn + q' := by have := hve.link; unfold wrap64; omega
      have es2 : wrap64 (sumF f k + (sn + q')) = sumF f (k + 1) := by rw [hsn, hfk]; unfold wrap64; omega
      have t2 : decide (sn < 0) = false := by simp; omega
      have HO := Kp.mk (And.intro hO (And.intro hG (And.intro (And.intro ht' (And.intro ha2 (And.intro ho' hq'))) hve)))
      clear hO hG hve hst hs0 hs1 hfk hs hs' hsn hub hsn' ht' ha2 ho' hq'
      go_upto_region 9 with fail
      go_region
      go_upto_region 12 with fail
      obtain ⟨w3, hw3⟩ : ∃ W, W = ((((wr.setCell ⟨b, k * 4, none⟩ (.int .i64 t')).setCell ⟨b, k * 4 + 1, none⟩ (.int .i64 a2)).setCell ⟨b, k * 4 + 2, none⟩ (.int .i64 o')).setCell ⟨b, k * 4 + 3, none⟩ (.int .i64 q')).drew := ⟨_, rfl⟩
      rw [← hw3]
      obtain ⟨hO, hG, ⟨ht', ha2, ho', hq'⟩, hve⟩ := HO.out
      have hi64 : ∀ x : Int, -9223372036854775808 ≤ x → x ≤ 9223372036854775807 → St.I64 x := fun x h1 h2 => ⟨h1, h2⟩
      have hO3 : Owned w3 b n (mx (k + 1) (cT T) T) (mx (k + 1) (cA T A) A) (mx (k + 1) (cO O) O) (mx (k + 1) (cQ Q) Q) := by
        rw [hw3]
        obtain ⟨v1, v2, v3, v4⟩ := hve
        refine (((((hO.set0 hlt (hi64 t' (by omega) (by omega))).set1 hlt (hi64 a2 (by omega) (by omega))).set2 hlt (hi64 o' (by omega) (by omega))).set3 hlt (hi64 q' (by omega) (by omega))).drew).congr (fun i hi => ?_)
        rw [← ht', ← ha2, ← ho', ← hq']
        exact ⟨mx_step _ _ _ _, mx_step _ _ _ _, mx_step _ _ _ _, mx_step _ _ _ _⟩
      have hG3 : w2.grownBy w3 (some b) := by
        rw [hw3]
        exact grown_drew2 (grown_set (grown_set (grown_set (grown_set hG _ _) _ _) _ _) _ _)
      have mx1 : ∀ F' F : Nat → Int, mx (k + 1) F' F k = F' k := fun F' F => by simp [mx]
      obtain ⟨e0, e1, e2, e3, _, _, _, _⟩ := hO3.cells hlt
      rw [mx1] at e0 e1 e2 e3
      rw [ht'] at e0
      rw [ha2] at e1
      rw [ho'] at e2
      rw [hq'] at e3
      have HR := Kp.mk (And.intro hO3 hG3)
      clear hw3 hO hG ht' ha2 ho' hq' hve hi64 hO3 hG3 mx1 c0 c1 c2 c3 f0 f1 f2 f3 HO et eo0 eq0 ea0
      go_quiet ((go_at_call 11; exact qd (st _)))
      obtain ⟨w4, hw4⟩ : ∃ W, W = w3.drewN nq := ⟨_, rfl⟩
      rw [← hw4]
      have hX : Below w3.heap.size w3 w4 := by rw [hw4]; exact Below.of_drewN _ _
      have e3 : w4.cell? ⟨b, k * 4 + 3, none⟩ = some (.int .i64 q') := by rw [hw4]; exact e3
      clear hw4 e0 e1 e2 st
      have HR := Kp.mk (And.intro (HR.out.1.below hX) (HR.out.2.trans (Below.grownBy hX (some b))))
      clear hX
      go_wp2_with fail
      go_roundw
      case rel => exact ⟨k + 1, by omega, by go_num, congrArg (Value.int IntKind.i64) es2, ⟨b, rfl, HR.out.1⟩, HR.out.2⟩
      case measure => simp [intOf]; omega
    · obtain rfl : k = n := by omega
      have t1 : decide ((k : Int) < (k : Int)) = false := by simp
      obtain ⟨hm, hB, hO2, hbl, hpk, hcorr⟩ := H2.out
      have hO : OwnedO wr a' k (cT T) (cA T A) (cO O) (cQ Q) := hO.congr (fun i hi => ⟨by simp [mx, hi], by simp [mx, hi], by simp [mx, hi], by simp [mx, hi]⟩)
      have hm := hm.grown hG (fun e => by have := hbl _ e.symm; omega)
      have hB := hB.grown hG hB.size (fun b hb => Nat.le_of_lt (hbl b hb))
      have hlaw := sums_law (T := cT T) (A := cA T A) (O := cO O) (Q := cQ Q) hn100 (p := p') (by rw [hcorr]; exact HC.out) (fun i _ => cVE T A O Q i)
      have hc1 := fun (w : World) h => path_any p' hpk a' k cap' (cT T) (cA T A) (cO O) (cQ Q) w h
      have hc2 := fun (w : World) h => path_any p' hpk a' k cap' (fun i => cT T (k - 1 - i)) (fun i => cA T A (k - 1 - i)) (fun i => cO O (k - 1 - i)) (fun i => cQ Q (k - 1 - i)) w h
      rw [hlaw.1] at hc2
      have hlaw := hlaw.2
      have hf1 : sumF (fun i => stN (cT T i) (cA T A i) (cO O i) + cQ Q i) k = sumF f k := by rw [HF.out.1]
      rw [hf1] at hlaw
      have hsb := HF.out.2 k
      obtain ⟨S, hS⟩ : ∃ x, sumF f k = x := ⟨_, rfl⟩
      rw [hS] at hlaw hsb
      rw [hS]
      generalize pathF (cT T) (cA T A) (cO O) (cQ Q) k 0 p' = r at *
      obtain ⟨q, e⟩ := r
      unfold MPost at hc1 hc2
      simp only at hc1 hc2
      have HL := Kp.mk (And.intro hlaw (And.intro hsb (And.intro hcorr hbl)))
      have H := Kp.mk (And.intro hm (And.intro hB hO))
      clear hm hB hO hO2 hbl hpk hcorr hlaw hf1 hS hsb hG H2 HF hlt hk
      go_wp2_with (first | ((with_reducible show wpList _ _ _ ({ dst := _, op := Op.load 33 (Operand.tmp 2), type := _, pos := _, after := _, guard := _ } :: _) _ _); refine wpList_load_ptp _ rfl (w.heap.size) (p') (H.out.1) rfl (by kernel_rfl) ?_) | fail)
      refine (hc1 _ (H.out.2.2.row hn100)).mono ?_
      rintro x w5 ⟨rfl, hX⟩
      clear hc1
      have hm := H.out.1.below hX H.out.1.lt
      have hB := Below.then H.out.2.1 H.out.2.1.size hX
      have hO := H.out.2.2.below hX
      clear hX H
      have H := Kp.mk (And.intro hm (And.intro hB hO))
      clear hm hB hO
      have hth := there_new w5 #[.int .i64 0, .int .i64 0, .int .i64 0, .int .i64 0, .int .u64 0, .int .i64 0, .int .i64 0, .int .i64 0, .int .i64 0, .int .i64 0, .int .u64 0, .int .i64 0, .int .i64 0, .int .i64 0, .int .i64 0, .int .i64 0, .int .i64 0, .int .i64 0, .int .u64 0, .int .i64 0, .int .i64 0] 33
      go_upto_region 18 with (first | ((with_reducible show wpList _ _ _ ({ dst := _, op := Op.store _ _ _, type := _, pos := _, after := _, guard := _ } :: _) _ _); refine wpList_store_mid rfl 33 _ _ rfl w5.heap.size 0 (q).vals rfl rfl hth (by kernel_rfl) (by kernel_rfl) ?_; obtain ⟨w6, hn⟩ : ∃ W, W = (w5.alloc (.cells #[.int .i64 0, .int .i64 0, .int .i64 0, .int .i64 0, .int .u64 0, .int .i64 0, .int .i64 0, .int .i64 0, .int .i64 0, .int .i64 0, .int .u64 0, .int .i64 0, .int .i64 0, .int .i64 0, .int .i64 0, .int .i64 0, .int .i64 0, .int .i64 0, .int .u64 0, .int .i64 0, .int .i64 0] 33)).setCells w5.heap.size 0 (q).vals.toList := ⟨_, rfl⟩; rw [← hn]; have hX := Below.setCells w5.heap.size (Nat.le_refl _) (q).vals.toList 0 _ ((Below.refl w5.heap.size w5).alloc (Nat.le_refl _) (.cells #[.int .i64 0, .int .i64 0, .int .i64 0, .int .i64 0, .int .u64 0, .int .i64 0, .int .i64 0, .int .i64 0, .int .i64 0, .int .i64 0, .int .u64 0, .int .i64 0, .int .i64 0, .int .i64 0, .int .i64 0, .int .i64 0, .int .i64 0, .int .i64 0, .int .u64 0, .int .i64 0, .int .i64 0] 33)); have hq := PBox.stored (q) (by simp) hth; rw [← hn] at hX hq; clear hn hth) | fail)
      have hm := H.out.1.below hX H.out.1.lt
      have hB := Below.then H.out.2.1 H.out.2.1.size hX
      have hO6 := H.out.2.2.below hX
      have hn5 : some w5.heap.size ≠ blk a' := fun e => by have := H.out.2.2.blt e.symm; omega
      clear hX H
      have H := Kp.mk (And.intro hm (And.intro hB (And.intro hq hn5)))
      clear hm hB hq hn5
      go_wp2_with fail
      refine (reverse_o hO6 hn100 cap').mono ?_
      rintro x w7 ⟨rfl, hO7, hG⟩
      clear hO6
      obtain ⟨hm, hB, hq, hn5⟩ := H.out
      have hbl := HL.out.2.2.2
      have hm := hm.grown hG (fun e => by have := hbl _ e.symm; omega)
      have hB := hB.grown hG hB.size (fun b hb => Nat.le_of_lt (hbl b hb))
      have hq := hq.grown hG hn5
      clear H hbl hn5 hG
      have H := Kp.mk (And.intro hm (And.intro hB hq))
      clear hm hB hq
      go_wp2_with (first | ((with_reducible show wpList _ _ _ ({ dst := _, op := Op.load 33 (Operand.tmp 2), type := _, pos := _, after := _, guard := _ } :: _) _ _); refine wpList_load_ptp _ rfl (w.heap.size) (p') (H.out.1) rfl (by kernel_rfl) ?_) | fail)
      refine (hc2 _ (hO7.row hn100)).mono ?_
      rintro x w8 ⟨rfl, hX⟩
      clear hc2 hO7
      have hm := H.out.1.below hX H.out.1.lt
      have hB := Below.then H.out.2.1 H.out.2.1.size hX
      have hq := H.out.2.2.below hX H.out.2.2.lt
      clear hX H
      have H := Kp.mk (And.intro hm (And.intro hB hq))
      clear hm hB hq
      have hth := there_new w8 #[.int .i64 0, .int .i64 0, .int .i64 0, .int .i64 0, .int .u64 0, .int .i64 0, .int .i64 0, .int .i64 0, .int .i64 0, .int .i64 0, .int .u64 0, .int .i64 0, .int .i64 0, .int .i64 0, .int .i64 0, .int .i64 0, .int .i64 0, .int .i64 0, .int .u64 0, .int .i64 0, .int .i64 0] 33
      go_upto_region 20 with (first | ((with_reducible show wpList _ _ _ ({ dst := _, op := Op.store _ _ _, type := _, pos := _, after := _, guard := _ } :: _) _ _); refine wpList_store_mid rfl 33 _ _ rfl w8.heap.size 0 (q).vals rfl rfl hth (by kernel_rfl) (by kernel_rfl) ?_; obtain ⟨w9, hn⟩ : ∃ W, W = (w8.alloc (.cells #[.int .i64 0, .int .i64 0, .int .i64 0, .int .i64 0, .int .u64 0, .int .i64 0, .int .i64 0, .int .i64 0, .int .i64 0, .int .i64 0, .int .u64 0, .int .i64 0, .int .i64 0, .int .i64 0, .int .i64 0, .int .i64 0, .int .i64 0, .int .i64 0, .int .u64 0, .int .i64 0, .int .i64 0] 33)).setCells w8.heap.size 0 (q).vals.toList := ⟨_, rfl⟩; rw [← hn]; have hX := Below.setCells w8.heap.size (Nat.le_refl _) (q).vals.toList 0 _ ((Below.refl w8.heap.size w8).alloc (Nat.le_refl _) (.cells #[.int .i64 0, .int .i64 0, .int .i64 0, .int .i64 0, .int .u64 0, .int .i64 0, .int .i64 0, .int .i64 0, .int .i64 0, .int .i64 0, .int .u64 0, .int .i64 0, .int .i64 0, .int .i64 0, .int .i64 0, .int .i64 0, .int .i64 0, .int .i64 0, .int .u64 0, .int .i64 0, .int .i64 0] 33)); have hq2 := PBox.stored (q) (by simp) hth; rw [← hn] at hX hq2; clear hn hth) | fail)
      have hm := H.out.1.below hX H.out.1.lt
      have hB := Below.then H.out.2.1 H.out.2.1.size hX
      have hq := H.out.2.2.below hX H.out.2.2.lt
      clear hX H
      obtain ⟨hlaw, hsb, hcorr, _⟩ := HL.out
      have hcb := HC.out
      clear HL HC HN HP
      rcases hlaw with hl | hl | hl
      · as_aux_lemma =>
        simp only [Prod.mk.injEq] at hl
        obtain ⟨hq', rfl⟩ := hl
        have em : wrap64 (65536 * S) = 65536 * S := by unfold wrap64; omega
        have ea : wrap64 (cc + 65536 * S) = cc + 65536 * S := by unfold wrap64; omega
        have H := Kp.mk (And.intro hB hq)
        clear hB hcb hsb
        go_upto_region 24 with (first | ((with_reducible show wpList _ _ _ ({ dst := _, op := Op.load 33 (Operand.tmp 10), type := _, pos := _, after := _, guard := _ } :: _) _ _); refine wpList_load_ptp _ rfl (w5.heap.size) (q) (hq) rfl (by kernel_rfl) ?_) | ((with_reducible show wpList _ _ _ ({ dst := _, op := Op.load 33 (Operand.tmp 12), type := _, pos := _, after := _, guard := _ } :: _) _ _); refine wpList_load_ptp _ rfl (w8.heap.size) (q) (hq2) rfl (by kernel_rfl) ?_) | ((with_reducible show wpList _ _ _ ({ dst := _, op := Op.binOp BinOp.neq 33 (Operand.tmp 117) (Operand.tmp 118) _, type := _, pos := _, after := _, guard := _ } :: _) _ _); refine wpList_ne_ptp _ _ rfl (q) rfl rfl (by kernel_rfl) ?_) | fail)
        clear hq hq2
        have hth := there_new w9 #[.int .i64 0, .int .i64 0, .int .i64 0, .int .i64 0, .int .u64 0, .int .i64 0, .int .i64 0, .int .i64 0, .int .i64 0, .int .i64 0, .int .u64 0, .int .i64 0, .int .i64 0, .int .i64 0, .int .i64 0, .int .i64 0, .int .i64 0, .int .i64 0, .int .u64 0, .int .i64 0, .int .i64 0] 33
        go_upto_region 25 with (first | ((with_reducible show wpList _ _ _ ({ dst := _, op := Op.load 33 (Operand.tmp 2), type := _, pos := _, after := _, guard := _ } :: _) _ _); refine wpList_load_ptp _ rfl (w.heap.size) (p') (hm) rfl (by kernel_rfl) ?_) | ((with_reducible show wpList _ _ _ ({ dst := _, op := Op.store _ _ _, type := _, pos := _, after := _, guard := _ } :: _) _ _); refine wpList_store_mid rfl 33 _ _ rfl w9.heap.size 0 (p').vals rfl rfl hth (by kernel_rfl) (by kernel_rfl) ?_; obtain ⟨w10, hn⟩ : ∃ W, W = (w9.alloc (.cells #[.int .i64 0, .int .i64 0, .int .i64 0, .int .i64 0, .int .u64 0, .int .i64 0, .int .i64 0, .int .i64 0, .int .i64 0, .int .i64 0, .int .u64 0, .int .i64 0, .int .i64 0, .int .i64 0, .int .i64 0, .int .i64 0, .int .i64 0, .int .i64 0, .int .u64 0, .int .i64 0, .int .i64 0] 33)).setCells w9.heap.size 0 (p').vals.toList := ⟨_, rfl⟩; rw [← hn]; have hX := Below.setCells w9.heap.size (Nat.le_refl _) (p').vals.toList 0 _ ((Below.refl w9.heap.size w9).alloc (Nat.le_refl _) (.cells #[.int .i64 0, .int .i64 0, .int .i64 0, .int .i64 0, .int .u64 0, .int .i64 0, .int .i64 0, .int .i64 0, .int .i64 0, .int .i64 0, .int .u64 0, .int .i64 0, .int .i64 0, .int .i64 0, .int .i64 0, .int .i64 0, .int .i64 0, .int .i64 0, .int .u64 0, .int .i64 0, .int .i64 0] 33)); have hcp := PBox.stored (p') (by simp) hth; have hct := World.there_setCells hth w9.heap.size 0 (p').vals.toList; rw [← hn] at hX hcp hct; clear hn hth) | fail)
        have hB := Below.then H.out.1 H.out.1.size hX
        have hq := H.out.2.below hX H.out.2.lt
        have hlt9 : w5.heap.size < w9.heap.size := H.out.2.lt
        have hle9 : w.heap.size ≤ w9.heap.size := H.out.1.size
        clear H hX hm
        have c3 : w10.cell? ⟨w9.heap.size, 3, none⟩ = some (.int .i64 cc) := by have := hcp.c3; rw [hcorr] at this; exact this
        have f3 : w10.frozen? ⟨w9.heap.size, 3, none⟩ = false := (hct 3 (by decide)).2
        have H := Kp.mk (And.intro hB (And.intro hq hcp))
        clear hB hq hcp hct
        go_upto_region 26 with fail
        obtain ⟨w11, hw11⟩ : ∃ W, W = w10.setCell ⟨w9.heap.size, 3, none⟩ (.int .i64 (cc + 65536 * S)) := ⟨_, rfl⟩
        rw [← hw11]
        have G1 : w10.grownBy w11 (some w9.heap.size) := by rw [hw11]; exact grown_setCells w9.heap.size [.int .i64 (cc + 65536 * S)] 3 w10 (World.grownBy.refl _ _)
        have hq11 := H.out.2.1.grown G1 (by intro e; simp at e; omega)
        have hcp11 : PBox w11 w9.heap.size q := by
          have := H.out.2.2.set3 (cc + 65536 * S)
          rw [hw11, hq', hcorr]
          exact this
        have hB11 := H.out.1.grown G1 H.out.1.size (fun b hb => by simp at hb; omega)
        clear hw11 G1 H c3 f3
        go_wp2_with (first | ((with_reducible show wpList _ _ _ ({ dst := _, op := Op.load 33 (Operand.tmp 10), type := _, pos := _, after := _, guard := _ } :: _) _ _); refine wpList_load_ptp _ rfl (w5.heap.size) (q) (hq11) rfl (by kernel_rfl) ?_) | ((with_reducible show wpList _ _ _ ({ dst := _, op := Op.load 33 (Operand.tmp 14), type := _, pos := _, after := _, guard := _ } :: _) _ _); refine wpList_load_ptp _ rfl (w9.heap.size) (q) (hcp11) rfl (by kernel_rfl) ?_) | ((with_reducible show wpList _ _ _ ({ dst := _, op := Op.binOp BinOp.eql 33 (Operand.tmp 148) (Operand.tmp 149) _, type := _, pos := _, after := _, guard := _ } :: _) _ _); refine wpList_eq_ptp _ _ rfl (q) rfl rfl (by kernel_rfl) ?_) | fail)
        refine (aw _).mono ?_
        rintro x w12 ⟨rfl, hX⟩
        have HB := Below.then hB11 hB11.size hX
        clear hX hB11 hq11 hcp11
        go_wp2_with fail
        go_ret
        exact ⟨rfl, HB⟩
      · as_aux_lemma =>
        simp only [Prod.mk.injEq] at hl
        obtain ⟨rfl, rfl⟩ := hl
        clear hm hcb hsb
        go_wp2_with (first | ((with_reducible show wpList _ _ _ ({ dst := _, op := Op.load 33 (Operand.tmp 10), type := _, pos := _, after := _, guard := _ } :: _) _ _); refine wpList_load_ptp _ rfl (w5.heap.size) (PM.zero) (hq) rfl (by kernel_rfl) ?_) | ((with_reducible show wpList _ _ _ ({ dst := _, op := Op.load 33 (Operand.tmp 12), type := _, pos := _, after := _, guard := _ } :: _) _ _); refine wpList_load_ptp _ rfl (w8.heap.size) (PM.zero) (hq2) rfl (by kernel_rfl) ?_) | ((with_reducible show wpList _ _ _ ({ dst := _, op := Op.binOp BinOp.neq 33 (Operand.tmp 117) (Operand.tmp 118) _, type := _, pos := _, after := _, guard := _ } :: _) _ _); refine wpList_ne_ptp _ _ rfl (PM.zero) rfl rfl (by kernel_rfl) ?_) | ((with_reducible show wpList _ _ _ ({ dst := _, op := Op.binOp BinOp.eql 33 (Operand.tmp 134) (Operand.tmp 135) _, type := _, pos := _, after := _, guard := _ } :: _) _ _); refine wpList_eq_ptp _ _ rfl (PM.zero) rfl rfl (by kernel_rfl) ?_) | fail)
        refine (aw _).mono ?_
        rintro x w12 ⟨rfl, hX⟩
        have HB := Below.then hB hB.size hX
        clear hX hB hq hq2
        go_wp2_with fail
        go_ret
        exact ⟨rfl, HB⟩
      · as_aux_lemma =>
        simp only [Prod.mk.injEq] at hl
        obtain ⟨rfl, rfl⟩ := hl
        clear hm hcb hsb
        go_wp2_with (first | ((with_reducible show wpList _ _ _ ({ dst := _, op := Op.load 33 (Operand.tmp 10), type := _, pos := _, after := _, guard := _ } :: _) _ _); refine wpList_load_ptp _ rfl (w5.heap.size) (PM.zero) (hq) rfl (by kernel_rfl) ?_) | ((with_reducible show wpList _ _ _ ({ dst := _, op := Op.load 33 (Operand.tmp 12), type := _, pos := _, after := _, guard := _ } :: _) _ _); refine wpList_load_ptp _ rfl (w8.heap.size) (PM.zero) (hq2) rfl (by kernel_rfl) ?_) | ((with_reducible show wpList _ _ _ ({ dst := _, op := Op.binOp BinOp.neq 33 (Operand.tmp 117) (Operand.tmp 118) _, type := _, pos := _, after := _, guard := _ } :: _) _ _); refine wpList_ne_ptp _ _ rfl (PM.zero) rfl rfl (by kernel_rfl) ?_) | ((with_reducible show wpList _ _ _ ({ dst := _, op := Op.binOp BinOp.eql 33 (Operand.tmp 134) (Operand.tmp 135) _, type := _, pos := _, after := _, guard := _ } :: _) _ _); refine wpList_eq_ptp _ _ rfl (PM.zero) rfl rfl (by kernel_rfl) ?_) | fail)
        refine (aw _).mono ?_
        rintro x w12 ⟨rfl, hX⟩
        have HB := Below.then hB hB.size hX
        clear hX hB hq hq2
        go_wp2_with fail
        go_ret
        exact ⟨rfl, HB⟩
theorem sums_row (p : PM) (a : Option Addr) (len cap : Nat) (T A O Q : Nat → Int) (w : World) (hp : p.Wf) (hlc : len ≤ cap) (hs : St.StepRow w a len T A O Q) :
    Calls Try.prog 10 #[.agg p.vals, .slice a len cap] w fun x w' => x = .returned (.bool true) ∧ Below w.heap.size w w' := sums_any p a len cap T A O Q w hp hlc hs
theorem slice_caps {H : Type} {enc : TypeId × Value → H} {w : World} {base : Nat} {spare : Nat → Bool} {held : Bool} {t e : TypeId} {a : Option Addr} {len cap : Nat} {d : DataW H} {p : List MemPlace} (hu : Try.prog.underlying t = some (.slice e))
    (h : DataW.Trod enc Try.prog w base spare held t (.slice a len cap) d p) : len ≤ cap := by
  obtain ⟨fuel, hf⟩ := h
  rcases Go.Deep.open_slice hu hf with ⟨hcs, _⟩ | ⟨x, l, c, m, n, D, Pl, hcs, _, hl, _⟩
  · simp [Value.cells] at hcs
    omega
  · simp [Value.cells] at hcs
    omega
end Go.Proofs.Ytfpepiabpadjdaa
