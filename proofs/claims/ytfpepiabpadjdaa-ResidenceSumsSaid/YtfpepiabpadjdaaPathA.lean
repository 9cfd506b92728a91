/-
  The contract of package residence's Path.
-/
import Derived.Test.YtfpepiabpadjdaaResL
import Derived.Test.YtfpepiabpadjdaaStepsP
set_option linter.unusedSimpArgs false
set_option linter.unusedVariables false
namespace Go.Proofs.Ytfpepiabpadjdaa
open Go.RowKit
section
variable (T A O Q : Nat → Int)
/-- A message corrected by n elements of a path from the k-th on, and the error. -/
def pathF : Nat → Nat → PM → PM × Int
  | 0, _, p => (p, 0)
  | n + 1, k, p => if (stayF (T k) (A k) (O k)).2 = 0 then (if (addPF p (stayF (T k) (A k) (O k)).1 (Q k)).2 = 0 then pathF n (k + 1) (addPF p (stayF (T k) (A k) (O k)).1 (Q k)).1 else (PM.zero, (addPF p (stayF (T k) (A k) (O k)).1 (Q k)).2)) else (PM.zero, (stayF (T k) (A k) (O k)).2)
end
/-- What Add asks of a message. -/
structure POk (p : PM) : Prop where
  kind : (Lit.int .i64 p.kind).wf = true
  corr : -9223372036854775808 ≤ p.corr ∧ p.corr ≤ 9223372036854775807
theorem addF_range (a b : Int) : -9223372036854775808 ≤ (addF a b).1 ∧ (addF a b).1 ≤ 9223372036854775807 := by unfold addF; split <;> simp <;> omega
theorem zero_ok : POk PM.zero := ⟨by decide, by decide⟩
theorem corrF_pok {p : PM} (h : POk p) (t : Int) : POk (corrF p t).1 := by
  unfold corrF
  split
  · exact ⟨h.kind, addF_range _ _⟩
  · exact zero_ok
theorem addPF_pok {p : PM} (h : POk p) (s l : Int) : POk (addPF p s l).1 := by
  unfold addPF
  repeat' split
  · exact zero_ok
  · exact zero_ok
  · exact zero_ok
  · exact corrF_pok h _
theorem stayF_range (i o ppb : Int) : -9223372036854775808 ≤ (stayF i o ppb).1 ∧ (stayF i o ppb).1 ≤ 9223372036854775807 := by
  unfold stayF mdiv
  repeat' split
  all_goals simp <;> omega
theorem steprow_at {w wr : World} {a : Option Addr} {len : Nat} {T A O Q : Nat → Int} (h : St.StepRow w a len T A O Q) (hB : Below w.heap.size w wr) {k : Nat} (hk : k < len) : ∃ b off, a = some ⟨b, off, none⟩ ∧ b < w.heap.size ∧
    wr.cell? ⟨b, off + k * 4, none⟩ = some (.int .i64 (T k)) ∧ wr.cell? ⟨b, off + k * 4 + 1, none⟩ = some (.int .i64 (A k)) ∧ wr.cell? ⟨b, off + k * 4 + 2, none⟩ = some (.int .i64 (O k)) ∧ wr.cell? ⟨b, off + k * 4 + 3, none⟩ = some (.int .i64 (Q k)) := by
  obtain ⟨b, off, ha, hb, ⟨h0, _⟩, ⟨h1, _⟩, ⟨h2, _⟩, h3, _⟩ := h.2 k hk
  exact ⟨b, off, ha, hb, (hB.cell hb).trans h0, (hB.cell hb).trans h1, (hB.cell hb).trans h2, (hB.cell hb).trans h3⟩
set_option maxRecDepth 10000 in
set_option maxHeartbeats 8000000 in
theorem path_any (p : PM) (hp : POk p) (a : Option Addr) (len cap : Nat) (T A O Q : Nat → Int) (w : World) (hs : St.StepRow w a len T A O Q) :
    Calls Try.prog 25 #[.agg p.vals, .slice a len cap] w (MPost (pathF T A O Q len 0 p).1 (pathF T A O Q len 0 p).2 w) := by
  obtain ⟨r, hr⟩ : ∃ r, pathF T A O Q len 0 p = r := ⟨_, rfl⟩
  rw [hr]
  have hX2 : Below w.heap.size w ((w.alloc (.cells p.vals 33)).alloc (.cells #[.int .i64 0, .int .i64 0, .int .i64 0, .int .i64 0, .int .u64 0, .int .i64 0, .int .i64 0, .int .i64 0, .int .i64 0, .int .i64 0, .int .u64 0, .int .i64 0, .int .i64 0, .int .i64 0, .int .i64 0, .int .i64 0, .int .i64 0, .int .i64 0, .int .u64 0, .int .i64 0, .int .i64 0] 33)) := ((Below.refl _ _).alloc (Nat.le_refl _) _).alloc (by simp) _
  have hth0 : (w.alloc (.cells p.vals 33)).there w.heap.size 0 21 := there_new w p.vals 33
  have hth := there_new (w.alloc (.cells p.vals 33)) #[.int .i64 0, .int .i64 0, .int .i64 0, .int .i64 0, .int .u64 0, .int .i64 0, .int .i64 0, .int .i64 0, .int .i64 0, .int .i64 0, .int .u64 0, .int .i64 0, .int .i64 0, .int .i64 0, .int .i64 0, .int .i64 0, .int .i64 0, .int .i64 0, .int .u64 0, .int .i64 0, .int .i64 0] 33
  rw [World.size_alloc] at hth
  have hBn : Below (w.alloc (.cells p.vals 33)).heap.size (w.alloc (.cells p.vals 33)) ((w.alloc (.cells p.vals 33)).alloc (.cells #[.int .i64 0, .int .i64 0, .int .i64 0, .int .i64 0, .int .u64 0, .int .i64 0, .int .i64 0, .int .i64 0, .int .i64 0, .int .i64 0, .int .u64 0, .int .i64 0, .int .i64 0, .int .i64 0, .int .i64 0, .int .i64 0, .int .i64 0, .int .i64 0, .int .u64 0, .int .i64 0, .int .i64 0] 33)) := (Below.refl _ _).alloc (Nat.le_refl _) _
  have hm := (PBox.made w p 33).below hBn (by simp)
  have hth0 := there_below hth0 hBn (by simp)
  have hsz : ((w.alloc (.cells p.vals 33)).alloc (.cells #[.int .i64 0, .int .i64 0, .int .i64 0, .int .i64 0, .int .u64 0, .int .i64 0, .int .i64 0, .int .i64 0, .int .i64 0, .int .i64 0, .int .u64 0, .int .i64 0, .int .i64 0, .int .i64 0, .int .i64 0, .int .i64 0, .int .i64 0, .int .i64 0, .int .u64 0, .int .i64 0, .int .i64 0] 33)).heap.size = w.heap.size + 2 := by rw [World.size_alloc, World.size_alloc]
  obtain ⟨W, hW⟩ : ∃ W, W = (w.alloc (.cells p.vals 33)).alloc (.cells #[.int .i64 0, .int .i64 0, .int .i64 0, .int .i64 0, .int .u64 0, .int .i64 0, .int .i64 0, .int .i64 0, .int .i64 0, .int .i64 0, .int .u64 0, .int .i64 0, .int .i64 0, .int .i64 0, .int .i64 0, .int .i64 0, .int .i64 0, .int .i64 0, .int .u64 0, .int .i64 0, .int .i64 0] 33) := ⟨_, rfl⟩
  rw [← hW] at hX2 hm hth hth0 hsz
  clear hBn
  have H0 := Kp.mk (And.intro hm (And.intro hth0 (And.intro hth (And.intro hX2 hsz))))
  have HS := Kp.mk hs
  have HP := Kp.mk (And.intro hp hr)
  have hlen := hs.1
  clear hm hth0 hth hX2 hsz hs hp hr
  simp only [PM.vals] at hW
  unfold PM.vals
  go_enter Try.func25, Try.ntmps25
  go_upto_region 1 with fail
  rw [← hW]
  clear hW
  go_wp2_with fail
  go_loopw [12] (fun i wr => ∃ (k : Nat) (q : PM), k ≤ len ∧ i = .int .i64 k ∧ POk q ∧ pathF T A O Q (len - k) k q = r ∧ PBox wr w.heap.size q ∧ wr.there w.heap.size 0 21 ∧ wr.there (w.heap.size + 1) 0 21 ∧ Below w.heap.size w wr ∧ w.heap.size + 2 ≤ wr.heap.size) (fun i _ => len - (intOf i).toNat)
  case atStart => exact ⟨0, p, Nat.zero_le _, rfl, HP.out.1, HP.out.2, H0.out.1, H0.out.2.1, H0.out.2.2.1, H0.out.2.2.2.1, Nat.le_of_eq H0.out.2.2.2.2.symm⟩
  case round =>
    obtain ⟨k, q, hk, rfl, hq, hrem, hm, ht0, ht1, hB, hz⟩ := hrel
    by_cases hlt : k < len
    · have t1 : decide ((k : Int) < (len : Int)) = true := by simp; omega
      have kz : (0 : Int) ≤ (k : Int) := by omega
      have kl : (k : Int) < (len : Int) := by omega
      obtain ⟨b, off, rfl, hb, l0, l1, l2, l3⟩ := steprow_at HS.out hB hlt
      have hrem : pathF T A O Q (len - (k + 1) + 1) k q = r := by rw [← hrem]; congr 1; omega
      unfold pathF at hrem
      have H := Kp.mk (And.intro hm (And.intro ht0 (And.intro ht1 (And.intro hB hz))))
      clear hm ht0 ht1 hB hz
      go_upto_region 4 with fail
      obtain ⟨w4, hw4⟩ : ∃ W, W = wr.alloc (.cells #[.int .i64 (T k), .int .i64 (A k), .int .i64 (O k), .int .i64 (Q k)] 63) := ⟨_, rfl⟩
      rw [← hw4]
      have hX : Below wr.heap.size wr w4 := by rw [hw4]; exact (Below.refl _ _).alloc (Nat.le_refl _) _
      have e0 : w4.cell? ⟨wr.heap.size, 0, none⟩ = some (.int .i64 (T k)) := by rw [hw4, World.cell?_alloc_at _ _ _ _ rfl]; rfl
      have e1 : w4.cell? ⟨wr.heap.size, 1, none⟩ = some (.int .i64 (A k)) := by rw [hw4, World.cell?_alloc_at _ _ _ _ rfl]; rfl
      have e2 : w4.cell? ⟨wr.heap.size, 2, none⟩ = some (.int .i64 (O k)) := by rw [hw4, World.cell?_alloc_at _ _ _ _ rfl]; rfl
      have e3 : w4.cell? ⟨wr.heap.size, 3, none⟩ = some (.int .i64 (Q k)) := by rw [hw4, World.cell?_alloc_at _ _ _ _ rfl]; rfl
      have hs4 : w4.heap.size = wr.heap.size + 1 := by rw [hw4, World.size_alloc]
      clear hw4 l0 l1 l2 l3
      obtain ⟨hm, ht0, ht1, hB, hz⟩ := H.out
      have hm := hm.below hX hm.lt
      have ht0 := there_below ht0 hX (by omega)
      have ht1 := there_below ht1 hX (by omega)
      have hB := Below.then hB hB.size hX
      clear H hX
      have H := Kp.mk (And.intro hm (And.intro ht0 (And.intro ht1 hB)))
      clear hm ht0 ht1 hB
      have st := fun w => stay_any (T k) (A k) (O k) w
      have sr := stayF_range (T k) (A k) (O k)
      generalize stayF (T k) (A k) (O k) = s at *
      obtain ⟨sn, se⟩ := s
      unfold SPost at st
      simp only at st hrem sr
      go_wp2_with fail
      refine (st _).mono ?_
      rintro x w5 ⟨rfl, hX⟩
      have e3 := (hX.cell (p := ⟨wr.heap.size, 3, none⟩) (by show wr.heap.size < _; omega)).trans e3
      obtain ⟨hm, ht0, ht1, hB⟩ := H.out
      have hm := hm.below hX (by omega)
      have ht0 := there_below ht0 hX (by omega)
      have ht1 := there_below ht1 hX (by omega)
      have hB := Below.then hB hB.size hX
      have hs5 : w.heap.size + 1 < w5.heap.size := by have := hX.size; omega
      clear H hX e0 e1 e2 st hs4
      have H := Kp.mk (And.intro hm (And.intro ht0 hB))
      clear hm ht0
      rcases Bool.eq_false_or_eq_true (se != 0) with hse | hse
      · as_aux_lemma =>
        rw [if_neg (by simpa using hse)] at hrem
        subst hrem
        clear H
        go_wp2_with (first | ((with_reducible show wpList _ _ _ ({ dst := _, op := Op.store 33 _ _, type := _, pos := _, after := _, guard := _ } :: _) _ _); refine wpList_store_mid rfl 33 _ _ rfl (w.heap.size + 1) 0 (PM.zero).vals rfl rfl ht1 (by kernel_rfl) (by kernel_rfl) ?_) | fail)
        exact bodyPost_ret (v := .tuple #[.agg (PM.zero).vals, .int .i64 se]) (res_msg Try.results25 _ _ (w.heap.size + 1) (PM.zero) se rfl rfl (PBox.stored (PM.zero) hs5 ht1)) rfl ⟨rfl, Below.setCells _ (by omega) _ _ _ hB⟩
      have hse0 : se = 0 := by simpa using hse
      subst hse0
      rw [if_pos rfl] at hrem
      have ad := fun w => add_any q hq.kind hq.corr sn (Q k) w
      have hq' := addPF_pok hq sn (Q k)
      generalize addPF q sn (Q k) = g at *
      obtain ⟨q', e⟩ := g
      unfold MPost at ad
      simp only at ad hrem hq'
      simp only [PM.vals] at ad
      have HH := Kp.mk (And.intro hrem hq')
      clear hrem hq' hq hse sr
      have hmm := H.out.1.row
      go_wp2_with (first | ((with_reducible show wpList _ _ _ ({ dst := _, op := Op.load 33 _, type := _, pos := _, after := _, guard := _ } :: _) _ _); refine wpList_load_mid rfl 33 _ rfl w.heap.size 0 rfl _ _ hmm Try.underlying33 rfl (by kernel_rfl) ?_) | fail)
      refine (ad _).mono ?_
      rintro x w6 ⟨rfl, hX⟩
      have ht0 := there_below H.out.2.1 hX (by omega)
      have ht1 := there_below ht1 hX hs5
      have hB := Below.then hB hB.size hX
      have hs6 : w.heap.size + 1 < w6.heap.size := Nat.lt_of_lt_of_le hs5 hX.size
      clear H hX e3 ad hmm hs5
      go_upto_region 8 with (first | ((with_reducible show wpList _ _ _ ({ dst := _, op := Op.store 33 _ _, type := _, pos := _, after := _, guard := _ } :: _) _ _); refine wpList_store_mid rfl 33 _ _ rfl w.heap.size 0 (q').vals rfl rfl ht0 (by kernel_rfl) (by kernel_rfl) ?_) | fail)
      obtain ⟨w7, hw7⟩ : ∃ W, W = w6.setCells w.heap.size 0 q'.vals.toList := ⟨_, rfl⟩
      rw [← hw7]
      have hm7 : PBox w7 w.heap.size q' := by rw [hw7]; exact PBox.stored q' (by omega) ht0
      have ht07 : w7.there w.heap.size 0 21 := by rw [hw7]; exact World.there_setCells ht0 _ _ _
      have ht17 : w7.there (w.heap.size + 1) 0 21 := by rw [hw7]; exact World.there_setCells ht1 _ _ _
      have hB7 : Below w.heap.size w w7 := by rw [hw7]; exact Below.setCells _ (Nat.le_refl _) _ _ _ hB
      have hs7 : w.heap.size + 1 < w7.heap.size := by rw [hw7]; exact Nat.lt_of_lt_of_le hs6 (Below.setCells (B := 0) w.heap.size (Nat.zero_le _) q'.vals.toList 0 w6 ⟨rfl, rfl, rfl, Nat.le_refl _, fun _ _ => rfl⟩).size
      clear hw7 ht0 ht1 hB hs6
      rcases Bool.eq_false_or_eq_true (e != 0) with hse | hse
      · as_aux_lemma =>
        have hrem := HH.out.1
        rw [if_neg (by simpa using hse)] at hrem
        subst hrem
        clear HH
        go_wp2_with (first | ((with_reducible show wpList _ _ _ ({ dst := _, op := Op.store 33 _ _, type := _, pos := _, after := _, guard := _ } :: _) _ _); refine wpList_store_mid rfl 33 _ _ rfl (w.heap.size + 1) 0 (PM.zero).vals rfl rfl ht17 (by kernel_rfl) (by kernel_rfl) ?_) | fail)
        exact bodyPost_ret (v := .tuple #[.agg (PM.zero).vals, .int .i64 e]) (res_msg Try.results25 _ _ (w.heap.size + 1) (PM.zero) e rfl rfl (PBox.stored (PM.zero) hs7 ht17)) rfl ⟨rfl, Below.setCells _ (by omega) _ _ _ hB7⟩
      have hse0 : e = 0 := by simpa using hse
      subst hse0
      have hrem := HH.out.1
      rw [if_pos rfl] at hrem
      have HR := Kp.mk (And.intro hrem (And.intro HH.out.2 (And.intro hm7 (And.intro ht07 (And.intro ht17 (And.intro hB7 hs7))))))
      clear hrem HH hm7 ht07 ht17 hB7
      go_wp2_with fail
      go_roundw
      case rel => exact ⟨k + 1, q', by omega, by go_num, HR.out.2.1, HR.out.1, HR.out.2.2.1, HR.out.2.2.2.1, HR.out.2.2.2.2.1, HR.out.2.2.2.2.2.1, HR.out.2.2.2.2.2.2⟩
      case measure => simp [intOf]; omega
    · obtain rfl : k = len := by omega
      have t1 : decide ((k : Int) < (k : Int)) = false := by simp
      rw [Nat.sub_self] at hrem
      unfold pathF at hrem
      subst hrem
      have hmm := hm.row
      have hzz : w.heap.size + 1 < wr.heap.size := by omega
      clear HP H0
      go_wp2_with (first | ((with_reducible show wpList _ _ _ ({ dst := _, op := Op.load 33 _, type := _, pos := _, after := _, guard := _ } :: _) _ _); refine wpList_load_mid rfl 33 _ rfl w.heap.size 0 rfl _ _ hmm Try.underlying33 rfl (by kernel_rfl) ?_) | ((with_reducible show wpList _ _ _ ({ dst := _, op := Op.store 33 _ _, type := _, pos := _, after := _, guard := _ } :: _) _ _); refine wpList_store_mid rfl 33 _ _ rfl (w.heap.size + 1) 0 (q).vals rfl rfl ht1 (by kernel_rfl) (by kernel_rfl) ?_) | fail)
      exact bodyPost_ret (v := .tuple #[.agg (q).vals, .int .i64 0]) (res_msg Try.results25 _ _ (w.heap.size + 1) (q) 0 rfl rfl (PBox.stored (q) hzz ht1)) rfl ⟨rfl, Below.setCells _ (by omega) _ _ _ hB⟩
end Go.Proofs.Ytfpepiabpadjdaa
