/-
  ResidencePaths' walk.
-/
import Derived.Test.YtfpepiabpadjdaaPathB
set_option linter.unusedSimpArgs false
set_option linter.unusedVariables false
namespace Go.Proofs.Ytfpepiabpadjdaa
open Go.RowKit Go.Maps
theorem steprow_less {w : World} {a : Option Addr} {len l2 : Nat} {T A O Q : Nat → Int} (h : St.StepRow w a len T A O Q) (hl : l2 ≤ len) : St.StepRow w a l2 T A O Q :=
  ⟨Nat.le_trans hl h.1, fun i hi => h.2 i (Nat.lt_of_lt_of_le hi hl)⟩
theorem steprow_below {w W : World} {a : Option Addr} {len : Nat} {T A O Q : Nat → Int} (h : St.StepRow w a len T A O Q) (hB : Below w.heap.size w W) : St.StepRow W a len T A O Q :=
  ⟨h.1, fun i hi => by
    obtain ⟨b, off, ha, hb, ⟨h0, g0⟩, ⟨h1, g1⟩, ⟨h2, g2⟩, h3, g3⟩ := h.2 i hi
    exact ⟨b, off, ha, Nat.lt_of_lt_of_le hb hB.size, ⟨(hB.cell hb).trans h0, g0⟩, ⟨(hB.cell hb).trans h1, g1⟩, ⟨(hB.cell hb).trans h2, g2⟩, (hB.cell hb).trans h3, g3⟩⟩
set_option maxRecDepth 10000 in
set_option maxHeartbeats 8000000 in
theorem paths_any (p : PM) (a : Option Addr) (len cap : Nat) (T A O Q : Nat → Int) (hp : p.Wf) (w : World) (hlc : len ≤ cap) (hs : St.StepRow w a len T A O Q) :
    Calls Try.prog 9 #[.agg p.vals, .slice a len cap] w fun x w' => x = .returned (.bool true) ∧ Below w.heap.size w w' := by
  have hlen := hs.1
  obtain ⟨n, hn, hnl⟩ : ∃ n : Nat, min (len : Int) 300 = n ∧ n ≤ len := ⟨min len 300, by omega, by omega⟩
  have hs2 := steprow_less hs hnl
  have aw := fun w => awake_any w
  have hm := PBox.made w p 33
  have hX : Below w.heap.size w (w.alloc (.cells p.vals 33)) := (Below.refl _ _).alloc (Nat.le_refl _) _
  obtain ⟨W, hW⟩ : ∃ W, W = w.alloc (.cells p.vals 33) := ⟨_, rfl⟩
  rw [← hW] at hm hX
  have H := Kp.mk (And.intro hm (And.intro hX (steprow_below hs2 hX)))
  have HP := Kp.mk (show POk p from ⟨hp.kind, wf_i64 hp.corr⟩)
  clear hm hX hp hs hs2
  unfold PM.vals at hW ⊢
  go_enter Try.func9, Try.ntmps9
  go_upto_region 1 with fail
  rw [← hW]
  clear hW
  go_wp2_with (first | ((with_reducible show wpList _ _ _ ({ dst := _, op := Op.load 33 (Operand.tmp 2), type := _, pos := _, after := _, guard := _ } :: _) _ _); refine wpList_load_ptp _ rfl (w.heap.size) (p) (H.out.1) rfl (by kernel_rfl) ?_) | fail)
  have c1 := path_any p HP.out a n cap T A O Q W H.out.2.2
  obtain ⟨r, hr⟩ : ∃ r, pathF T A O Q n 0 p = r := ⟨_, rfl⟩
  rw [hr] at c1
  obtain ⟨q, e⟩ := r
  unfold MPost at c1
  simp only at c1
  refine c1.mono ?_
  rintro x w1 ⟨rfl, hX⟩
  clear c1
  have hm := H.out.1.below hX H.out.1.lt
  have hs := steprow_below H.out.2.2 hX
  have hB := Below.then H.out.2.1 H.out.2.1.size hX
  clear hX H
  have H := Kp.mk (And.intro hm (And.intro hB hs))
  clear hm hB hs
  have hth := there_new w1 #[.int .i64 0, .int .i64 0, .int .i64 0, .int .i64 0, .int .u64 0, .int .i64 0, .int .i64 0, .int .i64 0, .int .i64 0, .int .i64 0, .int .u64 0, .int .i64 0, .int .i64 0, .int .i64 0, .int .i64 0, .int .i64 0, .int .i64 0, .int .i64 0, .int .u64 0, .int .i64 0, .int .i64 0] 33
  go_upto_region 3 with (first | ((with_reducible show wpList _ _ _ ({ dst := _, op := Op.store _ _ _, type := _, pos := _, after := _, guard := _ } :: _) _ _); refine wpList_store_mid rfl 33 _ _ rfl w1.heap.size 0 (q).vals rfl rfl hth (by kernel_rfl) (by kernel_rfl) ?_; obtain ⟨w2, hn⟩ : ∃ W, W = (w1.alloc (.cells #[.int .i64 0, .int .i64 0, .int .i64 0, .int .i64 0, .int .u64 0, .int .i64 0, .int .i64 0, .int .i64 0, .int .i64 0, .int .i64 0, .int .u64 0, .int .i64 0, .int .i64 0, .int .i64 0, .int .i64 0, .int .i64 0, .int .i64 0, .int .i64 0, .int .u64 0, .int .i64 0, .int .i64 0] 33)).setCells w1.heap.size 0 (q).vals.toList := ⟨_, rfl⟩; rw [← hn]; have hX := Below.setCells w1.heap.size (Nat.le_refl _) (q).vals.toList 0 _ ((Below.refl w1.heap.size w1).alloc (Nat.le_refl _) (.cells #[.int .i64 0, .int .i64 0, .int .i64 0, .int .i64 0, .int .u64 0, .int .i64 0, .int .i64 0, .int .i64 0, .int .i64 0, .int .i64 0, .int .u64 0, .int .i64 0, .int .i64 0, .int .i64 0, .int .i64 0, .int .i64 0, .int .i64 0, .int .i64 0, .int .u64 0, .int .i64 0, .int .i64 0] 33)); have hq := PBox.stored (q) (by simp) hth; rw [← hn] at hX hq; clear hn hth) | fail)
  have hm := H.out.1.below hX H.out.1.lt
  have hs := steprow_below H.out.2.2 hX
  have hB := Below.then H.out.2.1 H.out.2.1.size hX
  clear hX H
  have H := Kp.mk (And.intro hm (And.intro hB (And.intro hs hq)))
  clear hm hB hq hs
  go_wp2_with (first | ((with_reducible show wpList _ _ _ ({ dst := _, op := Op.load 33 (Operand.tmp 2), type := _, pos := _, after := _, guard := _ } :: _) _ _); refine wpList_load_ptp _ rfl (w.heap.size) (p) (H.out.1) rfl (by kernel_rfl) ?_) | fail)
  have c2 := rpath_any p HP.out a n cap T A O Q w2 H.out.2.2.1
  rw [hr] at c2
  unfold MPost at c2
  simp only at c2
  refine c2.mono ?_
  rintro x w3 ⟨rfl, hX⟩
  clear c2
  have hB := Below.then H.out.2.1 H.out.2.1.size hX
  have hq := H.out.2.2.2.below hX H.out.2.2.2.lt
  clear hX H
  have H := Kp.mk (And.intro hB hq)
  clear hB hq
  have hth := there_new w3 #[.int .i64 0, .int .i64 0, .int .i64 0, .int .i64 0, .int .u64 0, .int .i64 0, .int .i64 0, .int .i64 0, .int .i64 0, .int .i64 0, .int .u64 0, .int .i64 0, .int .i64 0, .int .i64 0, .int .i64 0, .int .i64 0, .int .i64 0, .int .i64 0, .int .u64 0, .int .i64 0, .int .i64 0] 33
  go_upto_region 4 with (first | ((with_reducible show wpList _ _ _ ({ dst := _, op := Op.store _ _ _, type := _, pos := _, after := _, guard := _ } :: _) _ _); refine wpList_store_mid rfl 33 _ _ rfl w3.heap.size 0 (q).vals rfl rfl hth (by kernel_rfl) (by kernel_rfl) ?_; obtain ⟨w4, hn⟩ : ∃ W, W = (w3.alloc (.cells #[.int .i64 0, .int .i64 0, .int .i64 0, .int .i64 0, .int .u64 0, .int .i64 0, .int .i64 0, .int .i64 0, .int .i64 0, .int .i64 0, .int .u64 0, .int .i64 0, .int .i64 0, .int .i64 0, .int .i64 0, .int .i64 0, .int .i64 0, .int .i64 0, .int .u64 0, .int .i64 0, .int .i64 0] 33)).setCells w3.heap.size 0 (q).vals.toList := ⟨_, rfl⟩; rw [← hn]; have hX := Below.setCells w3.heap.size (Nat.le_refl _) (q).vals.toList 0 _ ((Below.refl w3.heap.size w3).alloc (Nat.le_refl _) (.cells #[.int .i64 0, .int .i64 0, .int .i64 0, .int .i64 0, .int .u64 0, .int .i64 0, .int .i64 0, .int .i64 0, .int .i64 0, .int .i64 0, .int .u64 0, .int .i64 0, .int .i64 0, .int .i64 0, .int .i64 0, .int .i64 0, .int .i64 0, .int .i64 0, .int .u64 0, .int .i64 0, .int .i64 0] 33)); have hq2 := PBox.stored (q) (by simp) hth; rw [← hn] at hX hq2; clear hn hth) | fail)
  have hB := Below.then H.out.1 H.out.1.size hX
  have hq := H.out.2.below hX H.out.2.lt
  clear hX H
  go_wp2_with (first | ((with_reducible show wpList _ _ _ ({ dst := _, op := Op.load 33 (Operand.tmp 5), type := _, pos := _, after := _, guard := _ } :: _) _ _); refine wpList_load_ptp _ rfl (w1.heap.size) (q) (hq) rfl (by kernel_rfl) ?_) | ((with_reducible show wpList _ _ _ ({ dst := _, op := Op.load 33 (Operand.tmp 7), type := _, pos := _, after := _, guard := _ } :: _) _ _); refine wpList_load_ptp _ rfl (w3.heap.size) (q) (hq2) rfl (by kernel_rfl) ?_) | ((with_reducible show wpList _ _ _ ({ dst := _, op := Op.binOp BinOp.eql 33 (Operand.tmp 26) (Operand.tmp 27) _, type := _, pos := _, after := _, guard := _ } :: _) _ _); refine wpList_eq_ptp _ _ rfl (q) rfl rfl (by kernel_rfl) ?_) | fail)
  refine (aw _).mono ?_
  rintro x w5 ⟨rfl, hX⟩
  have HB := Below.then hB hB.size hX
  clear hX hB hq hq2
  go_wp2_with fail
  go_ret
  exact ⟨rfl, HB⟩
theorem slice_caps {H : Type} {enc : TypeId × Value → H} {w : World} {base : Nat} {spare : Nat → Bool} {held : Bool} {t e : TypeId} {a : Option Addr} {len cap : Nat} {d : DataW H} {p : List MemPlace} (hu : Try.prog.underlying t = some (.slice e))
    (h : DataW.Trod enc Try.prog w base spare held t (.slice a len cap) d p) : len ≤ cap := by
  obtain ⟨fuel, hf⟩ := h
  rcases Go.Deep.open_slice hu hf with ⟨hcs, _⟩ | ⟨x, l, c, m, n, D, Pl, hcs, _, hl, _⟩
  · simp [Value.cells] at hcs
    omega
  · simp [Value.cells] at hcs
    omega
theorem paths_row (p : PM) (a : Option Addr) (len cap : Nat) (T A O Q : Nat → Int) (w : World) (hp : p.Wf) (hlc : len ≤ cap) (hs : St.StepRow w a len T A O Q) :
    Calls Try.prog 9 #[.agg p.vals, .slice a len cap] w fun x w' => x = .returned (.bool true) ∧ Below w.heap.size w w' := paths_any p a len cap T A O Q hp w hlc hs
end Go.Proofs.Ytfpepiabpadjdaa
