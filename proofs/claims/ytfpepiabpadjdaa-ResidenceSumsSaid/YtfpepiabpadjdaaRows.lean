/-
  No cell of these rows narrows 'for every input' (looked for: loops, veiled, ifaces, maps, wideKeys, modest, calm, conditions, laid).
  DERIVED. THE GIVEN ROWS OF THIS SEAT. 8 by the template 'for every input the law returns true; each argument reads behind the call as it read before'; 0 by the template 'total and deterministic' (their statements: YtfpepiabpadjdaaTotals.lean).
  GIVEN WITH THE SEED: the statements are not yours to turn. If you find one false, say at which input.
  Laid BY PROGRAM, IN A SANDBOX (cutbox-rows.mjs): the forced cells as the released guide's own fill.sh prints them over the translation 063640c04ea32aae… (all of the seat's roots in one cut). By AI agents, Wed Nov 11 2026. No macro, syntax, notation, axiom, sorry.
-/
import Derived.Test.YtfpepiabpadjdaaChecked
import GoSem.Claim
import GoSem.ClaimJoined
import GoSem.ClaimMapViews
import Derived.JoinedTies
import Derived.KernelRfl
namespace Go.Proofs.Ytfpepiabpadjdaa
/- THE CELL 'sum', in the pinned program and in every row, IS THE sha256 OF THE DUMP (.gsa) THAT YtfpepiabpadjdaaProg.lean LOADS. Nothing in Lean hashes anything: it is a label: what it is worth is what the hold of that sum in a sandbox is worth. -/
noncomputable def Try.pinned : Pinned := { name := "ytfpepiabpadjdaa", sum := "063640c04ea32aae8199aa86476b7f70855054360de1dda9762006368f2218ce", checked := Try.checked }
namespace Rows
def none {H : Type} : Left H := { results := [], args := [] }

/-- 'timesynclaw40.ResidenceStays': WHATEVER THE INPUT: true; the input reads as it did. -/
def residenceStaysSpec : ChangeSpec := { name := "residenceStays", fn := fun _ => fun
  | [d1, d2, d3] => { results := [.lit (.bool true)], args := [d1, d2, d3] }
  | _ => none }
def residenceStaysRow : OpenClaim := { program := "ytfpepiabpadjdaa", sum := "063640c04ea32aae8199aa86476b7f70855054360de1dda9762006368f2218ce", func := "timesync/timesynclaw40.ResidenceStays", spec := "residenceStays", named := ["math/bits.divideError", "math/bits.overflowError"], plainKeys := false, apart := false }
def ResidenceStaysSaid : Prop := residenceStaysRow.holds Try.pinned (OpenSpec.ofChange residenceStaysSpec)

/-- ITS FALSE NEIGHBOUR: 'it returns false'. Refute it at one input. -/
def residenceStaysWrong : ChangeSpec := { name := "residenceStays", fn := fun _ => fun
  | [d1, d2, d3] => { results := [.lit (.bool false)], args := [d1, d2, d3] }
  | _ => none }
def ResidenceStaysWrongFalsely : Prop := residenceStaysRow.holds Try.pinned (OpenSpec.ofChange residenceStaysWrong)

/-- 'timesynclaw40.ResidenceAdds': WHATEVER THE INPUT: true; the input reads as it did. -/
def residenceAddsSpec : ChangeSpec := { name := "residenceAdds", fn := fun _ => fun
  | [d1, d2, d3] => { results := [.lit (.bool true)], args := [d1, d2, d3] }
  | _ => none }
def residenceAddsRow : OpenClaim := { program := "ytfpepiabpadjdaa", sum := "063640c04ea32aae8199aa86476b7f70855054360de1dda9762006368f2218ce", func := "timesync/timesynclaw40.ResidenceAdds", spec := "residenceAdds", named := ["math/bits.divideError", "math/bits.overflowError"], plainKeys := false, apart := false }
def ResidenceAddsSaid : Prop := residenceAddsRow.holds Try.pinned (OpenSpec.ofChange residenceAddsSpec)

/-- ITS FALSE NEIGHBOUR: 'it returns false'. Refute it at one input. -/
def residenceAddsWrong : ChangeSpec := { name := "residenceAdds", fn := fun _ => fun
  | [d1, d2, d3] => { results := [.lit (.bool false)], args := [d1, d2, d3] }
  | _ => none }
def ResidenceAddsWrongFalsely : Prop := residenceAddsRow.holds Try.pinned (OpenSpec.ofChange residenceAddsWrong)

/-- 'timesynclaw40.ResidencePlays': WHATEVER THE INPUT: true; the input reads as it did. -/
def residencePlaysSpec : ChangeSpec := { name := "residencePlays", fn := fun _ => fun
  | [d1, d2] => { results := [.lit (.bool true)], args := [d1, d2] }
  | _ => none }
def residencePlaysRow : OpenClaim := { program := "ytfpepiabpadjdaa", sum := "063640c04ea32aae8199aa86476b7f70855054360de1dda9762006368f2218ce", func := "timesync/timesynclaw40.ResidencePlays", spec := "residencePlays", named := ["math/bits.divideError", "math/bits.overflowError"], plainKeys := false, apart := false }
def ResidencePlaysSaid : Prop := residencePlaysRow.holds Try.pinned (OpenSpec.ofChange residencePlaysSpec)

/-- ITS FALSE NEIGHBOUR: 'it returns false'. Refute it at one input. -/
def residencePlaysWrong : ChangeSpec := { name := "residencePlays", fn := fun _ => fun
  | [d1, d2] => { results := [.lit (.bool false)], args := [d1, d2] }
  | _ => none }
def ResidencePlaysWrongFalsely : Prop := residencePlaysRow.holds Try.pinned (OpenSpec.ofChange residencePlaysWrong)

/-- 'timesynclaw40.ResidenceOneStep': WHATEVER THE INPUT: true; the input reads as it did. -/
def residenceOneStepSpec : ChangeSpec := { name := "residenceOneStep", fn := fun _ => fun
  | [d1, d2, d3, d4, d5] => { results := [.lit (.bool true)], args := [d1, d2, d3, d4, d5] }
  | _ => none }
def residenceOneStepRow : OpenClaim := { program := "ytfpepiabpadjdaa", sum := "063640c04ea32aae8199aa86476b7f70855054360de1dda9762006368f2218ce", func := "timesync/timesynclaw40.ResidenceOneStep", spec := "residenceOneStep", named := ["math/bits.divideError", "math/bits.overflowError"], plainKeys := false, apart := false }
def ResidenceOneStepSaid : Prop := residenceOneStepRow.holds Try.pinned (OpenSpec.ofChange residenceOneStepSpec)

/-- ITS FALSE NEIGHBOUR: 'it returns false'. Refute it at one input. -/
def residenceOneStepWrong : ChangeSpec := { name := "residenceOneStep", fn := fun _ => fun
  | [d1, d2, d3, d4, d5] => { results := [.lit (.bool false)], args := [d1, d2, d3, d4, d5] }
  | _ => none }
def ResidenceOneStepWrongFalsely : Prop := residenceOneStepRow.holds Try.pinned (OpenSpec.ofChange residenceOneStepWrong)

/-- 'timesynclaw40.ResidenceExact': WHATEVER THE INPUT: true; the input reads as it did. -/
def residenceExactSpec : ChangeSpec := { name := "residenceExact", fn := fun _ => fun
  | [d1, d2, d3, d4, d5] => { results := [.lit (.bool true)], args := [d1, d2, d3, d4, d5] }
  | _ => none }
def residenceExactRow : OpenClaim := { program := "ytfpepiabpadjdaa", sum := "063640c04ea32aae8199aa86476b7f70855054360de1dda9762006368f2218ce", func := "timesync/timesynclaw40.ResidenceExact", spec := "residenceExact", named := ["math/bits.divideError", "math/bits.overflowError"], plainKeys := false, apart := false }
def ResidenceExactSaid : Prop := residenceExactRow.holds Try.pinned (OpenSpec.ofChange residenceExactSpec)

/-- ITS FALSE NEIGHBOUR: 'it returns false'. Refute it at one input. -/
def residenceExactWrong : ChangeSpec := { name := "residenceExact", fn := fun _ => fun
  | [d1, d2, d3, d4, d5] => { results := [.lit (.bool false)], args := [d1, d2, d3, d4, d5] }
  | _ => none }
def ResidenceExactWrongFalsely : Prop := residenceExactRow.holds Try.pinned (OpenSpec.ofChange residenceExactWrong)

/-- 'timesynclaw40.ResidenceNobody': WHATEVER THE INPUT: true; the input reads as it did. -/
def residenceNobodySpec : ChangeSpec := { name := "residenceNobody", fn := fun _ => fun
  | [d1, d2, d3] => { results := [.lit (.bool true)], args := [d1, d2, d3] }
  | _ => none }
def residenceNobodyRow : OpenClaim := { program := "ytfpepiabpadjdaa", sum := "063640c04ea32aae8199aa86476b7f70855054360de1dda9762006368f2218ce", func := "timesync/timesynclaw40.ResidenceNobody", spec := "residenceNobody", named := ["math/bits.divideError", "math/bits.overflowError"], plainKeys := false, apart := false }
def ResidenceNobodySaid : Prop := residenceNobodyRow.holds Try.pinned (OpenSpec.ofChange residenceNobodySpec)

/-- ITS FALSE NEIGHBOUR: 'it returns false'. Refute it at one input. -/
def residenceNobodyWrong : ChangeSpec := { name := "residenceNobody", fn := fun _ => fun
  | [d1, d2, d3] => { results := [.lit (.bool false)], args := [d1, d2, d3] }
  | _ => none }
def ResidenceNobodyWrongFalsely : Prop := residenceNobodyRow.holds Try.pinned (OpenSpec.ofChange residenceNobodyWrong)

/-- 'timesynclaw40.ResidencePaths': WHATEVER THE INPUT: true; the input reads as it did. -/
def residencePathsSpec : ChangeSpec := { name := "residencePaths", fn := fun _ => fun
  | [d1, d2] => { results := [.lit (.bool true)], args := [d1, d2] }
  | _ => none }
def residencePathsRow : OpenClaim := { program := "ytfpepiabpadjdaa", sum := "063640c04ea32aae8199aa86476b7f70855054360de1dda9762006368f2218ce", func := "timesync/timesynclaw40.ResidencePaths", spec := "residencePaths", named := ["math/bits.divideError", "math/bits.overflowError"], plainKeys := false, apart := false }
def ResidencePathsSaid : Prop := residencePathsRow.holds Try.pinned (OpenSpec.ofChange residencePathsSpec)

/-- ITS FALSE NEIGHBOUR: 'it returns false'. Refute it at one input. -/
def residencePathsWrong : ChangeSpec := { name := "residencePaths", fn := fun _ => fun
  | [d1, d2] => { results := [.lit (.bool false)], args := [d1, d2] }
  | _ => none }
def ResidencePathsWrongFalsely : Prop := residencePathsRow.holds Try.pinned (OpenSpec.ofChange residencePathsWrong)

/-- 'timesynclaw40.ResidenceSums': WHATEVER THE INPUT: true; the input reads as it did. -/
def residenceSumsSpec : ChangeSpec := { name := "residenceSums", fn := fun _ => fun
  | [d1, d2] => { results := [.lit (.bool true)], args := [d1, d2] }
  | _ => none }
def residenceSumsRow : OpenClaim := { program := "ytfpepiabpadjdaa", sum := "063640c04ea32aae8199aa86476b7f70855054360de1dda9762006368f2218ce", func := "timesync/timesynclaw40.ResidenceSums", spec := "residenceSums", named := ["math/bits.divideError", "math/bits.overflowError"], plainKeys := false, apart := false }
def ResidenceSumsSaid : Prop := residenceSumsRow.holds Try.pinned (OpenSpec.ofChange residenceSumsSpec)

/-- ITS FALSE NEIGHBOUR: 'it returns false'. Refute it at one input. -/
def residenceSumsWrong : ChangeSpec := { name := "residenceSums", fn := fun _ => fun
  | [d1, d2] => { results := [.lit (.bool false)], args := [d1, d2] }
  | _ => none }
def ResidenceSumsWrongFalsely : Prop := residenceSumsRow.holds Try.pinned (OpenSpec.ofChange residenceSumsWrong)

/- THE SECOND FORM. 'bulk': how many values and letters a reading holds, each counted each time it is reached (what is shared counts as often as it is met; a slice's spare places count too). A statement '..UptoSaid' is the law's where the arguments, and the package variables that the reading takes, are together of bulk at most 1048576: NARROWER than '..Said'. Prove '..Said' where nothing that the law and all that it calls make is longer than what came in: it says more and counts as full. Else prove '..UptoSaid'. A law counts once. -/
mutual
def uptoBulk {H : Type} : DataW H → Nat
  | .lit (.string bytes) => bytes.length + 1
  | .lit _ => 1
  | .nil => 1
  | .ptr d => uptoBulk d + 1
  | .slice elems spare => uptoBulkAll elems + uptoBulkAll spare + 1
  | .agg parts => uptoBulkAll parts + 1
  | .iface _ d => uptoBulk d + 1
  | .map entries => uptoBulkEntries entries + 1
  | .held _ => 1
def uptoBulkAll {H : Type} : List (DataW H) → Nat
  | [] => 0
  | d :: r => uptoBulk d + uptoBulkAll r
def uptoBulkEntries {H : Type} : List (Lit × DataW H) → Nat
  | [] => 0
  | x :: r => uptoBulkEntry x + uptoBulkEntries r
def uptoBulkEntry {H : Type} : Lit × DataW H → Nat
  | (.string bytes, d) => bytes.length + uptoBulk d + 1
  | (_, d) => uptoBulk d + 1
 end
def uptoSmall : (H : Type) → List (DataW H) → Bool := fun _ ds => decide (uptoBulkAll ds ≤ 1048576)
def OpenSpec.upto (s : _root_.Go.ChangeSpec) : _root_.Go.OpenSpec := { _root_.Go.OpenSpec.ofChange s with cond := some uptoSmall }

/-- 'timesynclaw40.ResidenceStays', WHERE WHAT IT READS IS OF BULK AT MOST 1048576: true; the input reads as it did. -/
def residenceStaysUptoRow : OpenClaim := { program := "ytfpepiabpadjdaa", sum := "063640c04ea32aae8199aa86476b7f70855054360de1dda9762006368f2218ce", func := "timesync/timesynclaw40.ResidenceStays", spec := "residenceStays", named := ["math/bits.divideError", "math/bits.overflowError"], plainKeys := false, apart := false, narrowed := true }
def ResidenceStaysUptoSaid : Prop := residenceStaysUptoRow.holds Try.pinned (OpenSpec.upto residenceStaysSpec)

/-- 'timesynclaw40.ResidenceAdds', WHERE WHAT IT READS IS OF BULK AT MOST 1048576: true; the input reads as it did. -/
def residenceAddsUptoRow : OpenClaim := { program := "ytfpepiabpadjdaa", sum := "063640c04ea32aae8199aa86476b7f70855054360de1dda9762006368f2218ce", func := "timesync/timesynclaw40.ResidenceAdds", spec := "residenceAdds", named := ["math/bits.divideError", "math/bits.overflowError"], plainKeys := false, apart := false, narrowed := true }
def ResidenceAddsUptoSaid : Prop := residenceAddsUptoRow.holds Try.pinned (OpenSpec.upto residenceAddsSpec)

/-- 'timesynclaw40.ResidencePlays', WHERE WHAT IT READS IS OF BULK AT MOST 1048576: true; the input reads as it did. -/
def residencePlaysUptoRow : OpenClaim := { program := "ytfpepiabpadjdaa", sum := "063640c04ea32aae8199aa86476b7f70855054360de1dda9762006368f2218ce", func := "timesync/timesynclaw40.ResidencePlays", spec := "residencePlays", named := ["math/bits.divideError", "math/bits.overflowError"], plainKeys := false, apart := false, narrowed := true }
def ResidencePlaysUptoSaid : Prop := residencePlaysUptoRow.holds Try.pinned (OpenSpec.upto residencePlaysSpec)

/-- 'timesynclaw40.ResidenceOneStep', WHERE WHAT IT READS IS OF BULK AT MOST 1048576: true; the input reads as it did. -/
def residenceOneStepUptoRow : OpenClaim := { program := "ytfpepiabpadjdaa", sum := "063640c04ea32aae8199aa86476b7f70855054360de1dda9762006368f2218ce", func := "timesync/timesynclaw40.ResidenceOneStep", spec := "residenceOneStep", named := ["math/bits.divideError", "math/bits.overflowError"], plainKeys := false, apart := false, narrowed := true }
def ResidenceOneStepUptoSaid : Prop := residenceOneStepUptoRow.holds Try.pinned (OpenSpec.upto residenceOneStepSpec)

/-- 'timesynclaw40.ResidenceExact', WHERE WHAT IT READS IS OF BULK AT MOST 1048576: true; the input reads as it did. -/
def residenceExactUptoRow : OpenClaim := { program := "ytfpepiabpadjdaa", sum := "063640c04ea32aae8199aa86476b7f70855054360de1dda9762006368f2218ce", func := "timesync/timesynclaw40.ResidenceExact", spec := "residenceExact", named := ["math/bits.divideError", "math/bits.overflowError"], plainKeys := false, apart := false, narrowed := true }
def ResidenceExactUptoSaid : Prop := residenceExactUptoRow.holds Try.pinned (OpenSpec.upto residenceExactSpec)

/-- 'timesynclaw40.ResidenceNobody', WHERE WHAT IT READS IS OF BULK AT MOST 1048576: true; the input reads as it did. -/
def residenceNobodyUptoRow : OpenClaim := { program := "ytfpepiabpadjdaa", sum := "063640c04ea32aae8199aa86476b7f70855054360de1dda9762006368f2218ce", func := "timesync/timesynclaw40.ResidenceNobody", spec := "residenceNobody", named := ["math/bits.divideError", "math/bits.overflowError"], plainKeys := false, apart := false, narrowed := true }
def ResidenceNobodyUptoSaid : Prop := residenceNobodyUptoRow.holds Try.pinned (OpenSpec.upto residenceNobodySpec)

/-- 'timesynclaw40.ResidencePaths', WHERE WHAT IT READS IS OF BULK AT MOST 1048576: true; the input reads as it did. -/
def residencePathsUptoRow : OpenClaim := { program := "ytfpepiabpadjdaa", sum := "063640c04ea32aae8199aa86476b7f70855054360de1dda9762006368f2218ce", func := "timesync/timesynclaw40.ResidencePaths", spec := "residencePaths", named := ["math/bits.divideError", "math/bits.overflowError"], plainKeys := false, apart := false, narrowed := true }
def ResidencePathsUptoSaid : Prop := residencePathsUptoRow.holds Try.pinned (OpenSpec.upto residencePathsSpec)

/-- 'timesynclaw40.ResidenceSums', WHERE WHAT IT READS IS OF BULK AT MOST 1048576: true; the input reads as it did. -/
def residenceSumsUptoRow : OpenClaim := { program := "ytfpepiabpadjdaa", sum := "063640c04ea32aae8199aa86476b7f70855054360de1dda9762006368f2218ce", func := "timesync/timesynclaw40.ResidenceSums", spec := "residenceSums", named := ["math/bits.divideError", "math/bits.overflowError"], plainKeys := false, apart := false, narrowed := true }
def ResidenceSumsUptoSaid : Prop := residenceSumsUptoRow.holds Try.pinned (OpenSpec.upto residenceSumsSpec)

end Rows
end Go.Proofs.Ytfpepiabpadjdaa
