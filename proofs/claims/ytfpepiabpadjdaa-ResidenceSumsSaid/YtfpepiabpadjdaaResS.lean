/-
  Arguments opened to numbers: a message by value.
-/
import Derived.Test.YtfpepiabpadjdaaResB
import Derived.WalkKit
import Derived.ProofKit
import Derived.OpenShut
import Derived.Lib.SmallJoins
import Derived.Deep.Slices
import Derived.Deep.Fields
import Derived.ChangeSame
set_option linter.unusedVariables false
set_option linter.unusedSimpArgs false
namespace Go.Proofs.Ytfpepiabpadjdaa
open Go.Joins Go.ChangeShapes Go.WideShapes Go.RowKit Go.Deep
structure PM.Wf (p : PM) : Prop where
  kind : (Lit.int .i64 p.kind).wf = true
  domain : (Lit.int .i64 p.domain).wf = true
  flags : (Lit.int .i64 p.flags).wf = true
  corr : (Lit.int .i64 p.corr).wf = true
  clock : (Lit.int .u64 p.clock).wf = true
  port : (Lit.int .i64 p.port).wf = true
  seq : (Lit.int .i64 p.seq).wf = true
  logint : (Lit.int .i64 p.logint).wf = true
  sec : (Lit.int .i64 p.sec).wf = true
  nano : (Lit.int .i64 p.nano).wf = true
  reqclock : (Lit.int .u64 p.reqclock).wf = true
  reqport : (Lit.int .i64 p.reqport).wf = true
  utc : (Lit.int .i64 p.utc).wf = true
  p1 : (Lit.int .i64 p.p1).wf = true
  cls : (Lit.int .i64 p.cls).wf = true
  acc : (Lit.int .i64 p.acc).wf = true
  vr : (Lit.int .i64 p.vr).wf = true
  p2 : (Lit.int .i64 p.p2).wf = true
  gm : (Lit.int .u64 p.gm).wf = true
  steps : (Lit.int .i64 p.steps).wf = true
  src : (Lit.int .i64 p.src).wf = true
theorem wfr {k : IntKind} {n : Int} (h : (Lit.int k n).wf = true) : k.min ≤ n ∧ n ≤ k.max := by simpa [Lit.wf] using h
theorem wf_i64 {n : Int} (h : (Lit.int .i64 n).wf = true) : -9223372036854775808 ≤ n ∧ n ≤ 9223372036854775807 := by
  have := wfr h
  have a : IntKind.i64.min = -9223372036854775808 := by decide
  have b : IntKind.i64.max = 9223372036854775807 := by decide
  omega
theorem wf_u64 {n : Int} (h : (Lit.int .u64 n).wf = true) : 0 ≤ n ∧ n ≤ 18446744073709551615 := by
  have := wfr h
  have a : IntKind.u64.min = 0 := by decide
  have b : IntKind.u64.max = 18446744073709551615 := by decide
  omega
theorem wf_i32 {n : Int} (h : (Lit.int .i32 n).wf = true) : -2147483648 ≤ n ∧ n ≤ 2147483647 := by
  have := wfr h
  have a : IntKind.i32.min = -2147483648 := by decide
  have b : IntKind.i32.max = 2147483647 := by decide
  omega
theorem wf_u32 {n : Int} (h : (Lit.int .u32 n).wf = true) : 0 ≤ n ∧ n ≤ 4294967295 := by
  have := wfr h
  have a : IntKind.u32.min = 0 := by decide
  have b : IntKind.u32.max = 4294967295 := by decide
  omega
theorem wf_u16 {n : Int} (h : (Lit.int .u16 n).wf = true) : 0 ≤ n ∧ n ≤ 65535 := by
  have := wfr h
  have a : IntKind.u16.min = 0 := by decide
  have b : IntKind.u16.max = 65535 := by decide
  omega
section
variable {H : Type} {enc : TypeId × Value → H} {w : World} {base : Nat} {spare : Nat → Bool} {held : Bool}
theorem cellsP : Try.prog.cellsOf 33 = 21 := by kernel_rfl
theorem cellsI' : Try.prog.cellsOf 3 = 1 := by kernel_rfl
theorem cellsU' : Try.prog.cellsOf 27 = 1 := by kernel_rfl
theorem cellsS' : Try.prog.cellsOf 29 = 2 := by kernel_rfl
theorem cellsA' : Try.prog.cellsOf 31 = 9 := by kernel_rfl
theorem leaf {k : IntKind} {t : TypeId} {n : Nat} {c : Value} {y : DataW H × List MemPlace} (hi : Try.prog.underlying t = some (.int k)) (h : DataW.trod enc Try.prog w base spare held n t [c] = some y) : ∃ a, c = .int k a ∧ (Lit.int k a).wf = true := by
  obtain ⟨a, e, _, wf⟩ := DataW.trod_int hi h
  simp at e
  exact ⟨a, e, wf⟩
theorem trod_ptp {n : Nat} {cs : List Value} {x : DataW H × List MemPlace} (h : DataW.trod enc Try.prog w base spare held n 33 cs = some x) : ∃ q : PM, cs = q.vals.toList ∧ q.Wf := by
  obtain ⟨xs, n', _, hx, hcl, hlen, hg⟩ := DataW.trod_struct Try.underlying33 h
  have hsz := hcl.trans cellsP
  match cs, hsz with
  | [c0, c1, c2, c3, c4, c5, c6, c7, c8, c9, c10, c11, c12, c13, c14, c15, c16, c17, c18, c19, c20], _ =>
    have g0 := hg 0 _ rfl
    obtain ⟨y0, hy0⟩ : ∃ y, xs[0]? = some y := ⟨xs[0]'(by rw [hlen]; decide), List.getElem?_eq_getElem _⟩
    rw [hy0] at g0
    obtain ⟨a0, rfl, w0⟩ := leaf (c := c0) Try.underlying3 (by simpa [cellsI'] using g0)
    have g1 := hg 1 _ rfl
    obtain ⟨y1, hy1⟩ : ∃ y, xs[1]? = some y := ⟨xs[1]'(by rw [hlen]; decide), List.getElem?_eq_getElem _⟩
    rw [hy1] at g1
    obtain ⟨a1, rfl, w1⟩ := leaf (c := c1) Try.underlying3 (by simpa [cellsI'] using g1)
    have g2 := hg 2 _ rfl
    obtain ⟨y2, hy2⟩ : ∃ y, xs[2]? = some y := ⟨xs[2]'(by rw [hlen]; decide), List.getElem?_eq_getElem _⟩
    rw [hy2] at g2
    obtain ⟨a2, rfl, w2⟩ := leaf (c := c2) Try.underlying3 (by simpa [cellsI'] using g2)
    have g3 := hg 3 _ rfl
    obtain ⟨y3, hy3⟩ : ∃ y, xs[3]? = some y := ⟨xs[3]'(by rw [hlen]; decide), List.getElem?_eq_getElem _⟩
    rw [hy3] at g3
    obtain ⟨a3, rfl, w3⟩ := leaf (c := c3) Try.underlying3 (by simpa [cellsI'] using g3)
    have g4 := hg 4 _ rfl
    obtain ⟨y4, hy4⟩ : ∃ y, xs[4]? = some y := ⟨xs[4]'(by rw [hlen]; decide), List.getElem?_eq_getElem _⟩
    rw [hy4] at g4
    obtain ⟨a4, rfl, w4⟩ := leaf (c := c4) Try.underlying27 (by simpa [cellsU'] using g4)
    have g5 := hg 5 _ rfl
    obtain ⟨y5, hy5⟩ : ∃ y, xs[5]? = some y := ⟨xs[5]'(by rw [hlen]; decide), List.getElem?_eq_getElem _⟩
    rw [hy5] at g5
    obtain ⟨a5, rfl, w5⟩ := leaf (c := c5) Try.underlying3 (by simpa [cellsI'] using g5)
    have g6 := hg 6 _ rfl
    obtain ⟨y6, hy6⟩ : ∃ y, xs[6]? = some y := ⟨xs[6]'(by rw [hlen]; decide), List.getElem?_eq_getElem _⟩
    rw [hy6] at g6
    obtain ⟨a6, rfl, w6⟩ := leaf (c := c6) Try.underlying3 (by simpa [cellsI'] using g6)
    have g7 := hg 7 _ rfl
    obtain ⟨y7, hy7⟩ : ∃ y, xs[7]? = some y := ⟨xs[7]'(by rw [hlen]; decide), List.getElem?_eq_getElem _⟩
    rw [hy7] at g7
    obtain ⟨a7, rfl, w7⟩ := leaf (c := c7) Try.underlying3 (by simpa [cellsI'] using g7)
    have g8 := hg 8 _ rfl
    obtain ⟨y8, hy8⟩ : ∃ y, xs[8]? = some y := ⟨xs[8]'(by rw [hlen]; decide), List.getElem?_eq_getElem _⟩
    rw [hy8] at g8
    have g8 : DataW.trod enc Try.prog w base spare held n' 29 [c8, c9] = some y8 := by simpa [cellsS'] using g8
    obtain ⟨xs8, n8, _, hx8, hcl8, hlen8, hg8⟩ := DataW.trod_struct Try.underlying29 g8
    have g8_0 := hg8 0 _ rfl
    obtain ⟨y8_0, hy8_0⟩ : ∃ y, xs8[0]? = some y := ⟨xs8[0]'(by rw [hlen8]; decide), List.getElem?_eq_getElem _⟩
    rw [hy8_0] at g8_0
    obtain ⟨a8, rfl, w8⟩ := leaf (c := c8) Try.underlying3 (by simpa [cellsI'] using g8_0)
    have g8_1 := hg8 1 _ rfl
    obtain ⟨y8_1, hy8_1⟩ : ∃ y, xs8[1]? = some y := ⟨xs8[1]'(by rw [hlen8]; decide), List.getElem?_eq_getElem _⟩
    rw [hy8_1] at g8_1
    obtain ⟨a9, rfl, w9⟩ := leaf (c := c9) Try.underlying3 (by simpa [cellsI'] using g8_1)
    have g9 := hg 9 _ rfl
    obtain ⟨y9, hy9⟩ : ∃ y, xs[9]? = some y := ⟨xs[9]'(by rw [hlen]; decide), List.getElem?_eq_getElem _⟩
    rw [hy9] at g9
    obtain ⟨a10, rfl, w10⟩ := leaf (c := c10) Try.underlying27 (by simpa [cellsU'] using g9)
    have g10 := hg 10 _ rfl
    obtain ⟨y10, hy10⟩ : ∃ y, xs[10]? = some y := ⟨xs[10]'(by rw [hlen]; decide), List.getElem?_eq_getElem _⟩
    rw [hy10] at g10
    obtain ⟨a11, rfl, w11⟩ := leaf (c := c11) Try.underlying3 (by simpa [cellsI'] using g10)
    have g11 := hg 11 _ rfl
    obtain ⟨y11, hy11⟩ : ∃ y, xs[11]? = some y := ⟨xs[11]'(by rw [hlen]; decide), List.getElem?_eq_getElem _⟩
    rw [hy11] at g11
    have g11 : DataW.trod enc Try.prog w base spare held n' 31 [c12, c13, c14, c15, c16, c17, c18, c19, c20] = some y11 := by simpa [cellsA'] using g11
    obtain ⟨xs11, n11, _, hx11, hcl11, hlen11, hg11⟩ := DataW.trod_struct Try.underlying31 g11
    have g11_0 := hg11 0 _ rfl
    obtain ⟨y11_0, hy11_0⟩ : ∃ y, xs11[0]? = some y := ⟨xs11[0]'(by rw [hlen11]; decide), List.getElem?_eq_getElem _⟩
    rw [hy11_0] at g11_0
    obtain ⟨a12, rfl, w12⟩ := leaf (c := c12) Try.underlying3 (by simpa [cellsI'] using g11_0)
    have g11_1 := hg11 1 _ rfl
    obtain ⟨y11_1, hy11_1⟩ : ∃ y, xs11[1]? = some y := ⟨xs11[1]'(by rw [hlen11]; decide), List.getElem?_eq_getElem _⟩
    rw [hy11_1] at g11_1
    obtain ⟨a13, rfl, w13⟩ := leaf (c := c13) Try.underlying3 (by simpa [cellsI'] using g11_1)
    have g11_2 := hg11 2 _ rfl
    obtain ⟨y11_2, hy11_2⟩ : ∃ y, xs11[2]? = some y := ⟨xs11[2]'(by rw [hlen11]; decide), List.getElem?_eq_getElem _⟩
    rw [hy11_2] at g11_2
    obtain ⟨a14, rfl, w14⟩ := leaf (c := c14) Try.underlying3 (by simpa [cellsI'] using g11_2)
    have g11_3 := hg11 3 _ rfl
    obtain ⟨y11_3, hy11_3⟩ : ∃ y, xs11[3]? = some y := ⟨xs11[3]'(by rw [hlen11]; decide), List.getElem?_eq_getElem _⟩
    rw [hy11_3] at g11_3
    obtain ⟨a15, rfl, w15⟩ := leaf (c := c15) Try.underlying3 (by simpa [cellsI'] using g11_3)
    have g11_4 := hg11 4 _ rfl
    obtain ⟨y11_4, hy11_4⟩ : ∃ y, xs11[4]? = some y := ⟨xs11[4]'(by rw [hlen11]; decide), List.getElem?_eq_getElem _⟩
    rw [hy11_4] at g11_4
    obtain ⟨a16, rfl, w16⟩ := leaf (c := c16) Try.underlying3 (by simpa [cellsI'] using g11_4)
    have g11_5 := hg11 5 _ rfl
    obtain ⟨y11_5, hy11_5⟩ : ∃ y, xs11[5]? = some y := ⟨xs11[5]'(by rw [hlen11]; decide), List.getElem?_eq_getElem _⟩
    rw [hy11_5] at g11_5
    obtain ⟨a17, rfl, w17⟩ := leaf (c := c17) Try.underlying3 (by simpa [cellsI'] using g11_5)
    have g11_6 := hg11 6 _ rfl
    obtain ⟨y11_6, hy11_6⟩ : ∃ y, xs11[6]? = some y := ⟨xs11[6]'(by rw [hlen11]; decide), List.getElem?_eq_getElem _⟩
    rw [hy11_6] at g11_6
    obtain ⟨a18, rfl, w18⟩ := leaf (c := c18) Try.underlying27 (by simpa [cellsU'] using g11_6)
    have g11_7 := hg11 7 _ rfl
    obtain ⟨y11_7, hy11_7⟩ : ∃ y, xs11[7]? = some y := ⟨xs11[7]'(by rw [hlen11]; decide), List.getElem?_eq_getElem _⟩
    rw [hy11_7] at g11_7
    obtain ⟨a19, rfl, w19⟩ := leaf (c := c19) Try.underlying3 (by simpa [cellsI'] using g11_7)
    have g11_8 := hg11 8 _ rfl
    obtain ⟨y11_8, hy11_8⟩ : ∃ y, xs11[8]? = some y := ⟨xs11[8]'(by rw [hlen11]; decide), List.getElem?_eq_getElem _⟩
    rw [hy11_8] at g11_8
    obtain ⟨a20, rfl, w20⟩ := leaf (c := c20) Try.underlying3 (by simpa [cellsI'] using g11_8)
    exact ⟨⟨a0, a1, a2, a3, a4, a5, a6, a7, a8, a9, a10, a11, a12, a13, a14, a15, a16, a17, a18, a19, a20⟩, rfl, ⟨w0, w1, w2, w3, w4, w5, w6, w7, w8, w9, w10, w11, w12, w13, w14, w15, w16, w17, w18, w19, w20⟩⟩
theorem open_ptp {r : Reach} {b0 : Nat} {v : Value} {d : DataW H} {p : List MemPlace} (hv : Value.okWide Try.prog w r b0 33 v) (h : DataW.Trod enc Try.prog w base spare held 33 v d p) : ∃ q : PM, v = .agg q.vals ∧ q.Wf := by
  obtain ⟨cs, rfl, hsz⟩ := okWide_struct Try.underlying33 hv
  obtain ⟨n, hn⟩ := h
  obtain ⟨q, e, hw⟩ := trod_ptp hn
  refine ⟨q, ?_, hw⟩
  simp [Value.cells] at e
  rw [e]
end
end Go.Proofs.Ytfpepiabpadjdaa
