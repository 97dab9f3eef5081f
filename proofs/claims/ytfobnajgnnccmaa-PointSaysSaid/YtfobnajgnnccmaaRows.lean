/-
  No cell of these rows narrows 'for every input' (looked for: loops, veiled, ifaces, maps, wideKeys, modest, calm, conditions, laid).
  DERIVED. THE GIVEN ROWS OF THIS SEAT. 8 by the template 'for every input the law returns true; each argument reads behind the call as it read before'; 0 by the template 'total and deterministic' (their statements: YtfobnajgnnccmaaTotals.lean).
  GIVEN WITH THE SEED: the statements are not yours to turn. If you find one false, say at which input.
  Laid BY PROGRAM, IN A SANDBOX (cutbox-rows.mjs): the forced cells as the released guide's own fill.sh prints them over the translation 2dc660d1d5b0aa7e… (all of the seat's roots in one cut). By AI agents, Wed Nov 11 2026. No macro, syntax, notation, axiom, sorry.
-/
import Derived.Test.YtfobnajgnnccmaaChecked
import GoSem.Claim
import GoSem.ClaimJoined
import GoSem.ClaimMapViews
import Derived.JoinedTies
import Derived.KernelRfl
namespace Go.Proofs.Ytfobnajgnnccmaa
/- THE CELL 'sum', in the pinned program and in every row, IS THE sha256 OF THE DUMP (.gsa) THAT YtfobnajgnnccmaaProg.lean LOADS. Nothing in Lean hashes anything: it is a label: what it is worth is what the hold of that sum in a sandbox is worth. -/
noncomputable def Try.pinned : Pinned := { name := "ytfobnajgnnccmaa", sum := "2dc660d1d5b0aa7e5676f5e067647ba2fccee2f9af06aacb4c54d3fe13f49a94", checked := Try.checked }
namespace Rows
def none {H : Type} : Left H := { results := [], args := [] }

/-- 'bandboxlaw9.PointStep': WHATEVER THE INPUT: true; the input reads as it did. -/
def pointStepSpec : ChangeSpec := { name := "pointStep", fn := fun _ => fun
  | [d] => { results := [.lit (.bool true)], args := [d] }
  | _ => none }
def pointStepRow : OpenClaim := { program := "ytfobnajgnnccmaa", sum := "2dc660d1d5b0aa7e5676f5e067647ba2fccee2f9af06aacb4c54d3fe13f49a94", func := "bandbox/bandboxlaw9.PointStep", spec := "pointStep", inPlace := ["math/bits.Add64", "math/bits.Sub64"], apart := false }
def PointStepSaid : Prop := pointStepRow.holds Try.pinned (OpenSpec.ofChange pointStepSpec)

/-- ITS FALSE NEIGHBOUR: 'it returns false'. Refute it at one input. -/
def pointStepWrong : ChangeSpec := { name := "pointStep", fn := fun _ => fun
  | [d] => { results := [.lit (.bool false)], args := [d] }
  | _ => none }
def PointStepWrongFalsely : Prop := pointStepRow.holds Try.pinned (OpenSpec.ofChange pointStepWrong)

/-- 'bandboxlaw9.PointSays': WHATEVER THE INPUT: true; the input reads as it did. -/
def pointSaysSpec : ChangeSpec := { name := "pointSays", fn := fun _ => fun
  | [d1, d2, d3] => { results := [.lit (.bool true)], args := [d1, d2, d3] }
  | _ => none }
def pointSaysRow : OpenClaim := { program := "ytfobnajgnnccmaa", sum := "2dc660d1d5b0aa7e5676f5e067647ba2fccee2f9af06aacb4c54d3fe13f49a94", func := "bandbox/bandboxlaw9.PointSays", spec := "pointSays", inPlace := ["math/bits.Add64", "math/bits.Sub64"], apart := false }
def PointSaysSaid : Prop := pointSaysRow.holds Try.pinned (OpenSpec.ofChange pointSaysSpec)

/-- ITS FALSE NEIGHBOUR: 'it returns false'. Refute it at one input. -/
def pointSaysWrong : ChangeSpec := { name := "pointSays", fn := fun _ => fun
  | [d1, d2, d3] => { results := [.lit (.bool false)], args := [d1, d2, d3] }
  | _ => none }
def PointSaysWrongFalsely : Prop := pointSaysRow.holds Try.pinned (OpenSpec.ofChange pointSaysWrong)

/-- 'bandboxlaw9.PointCurve': WHATEVER THE INPUT: true; the input reads as it did. -/
def pointCurveSpec : ChangeSpec := { name := "pointCurve", fn := fun _ => fun
  | [d] => { results := [.lit (.bool true)], args := [d] }
  | _ => none }
def pointCurveRow : OpenClaim := { program := "ytfobnajgnnccmaa", sum := "2dc660d1d5b0aa7e5676f5e067647ba2fccee2f9af06aacb4c54d3fe13f49a94", func := "bandbox/bandboxlaw9.PointCurve", spec := "pointCurve", inPlace := ["math/bits.Add64", "math/bits.Sub64"], apart := false }
def PointCurveSaid : Prop := pointCurveRow.holds Try.pinned (OpenSpec.ofChange pointCurveSpec)

/-- ITS FALSE NEIGHBOUR: 'it returns false'. Refute it at one input. -/
def pointCurveWrong : ChangeSpec := { name := "pointCurve", fn := fun _ => fun
  | [d] => { results := [.lit (.bool false)], args := [d] }
  | _ => none }
def PointCurveWrongFalsely : Prop := pointCurveRow.holds Try.pinned (OpenSpec.ofChange pointCurveWrong)

/-- 'bandboxlaw9.PointAdds': WHATEVER THE INPUT: true; the input reads as it did. -/
def pointAddsSpec : ChangeSpec := { name := "pointAdds", fn := fun _ => fun
  | [d1, d2] => { results := [.lit (.bool true)], args := [d1, d2] }
  | _ => none }
def pointAddsRow : OpenClaim := { program := "ytfobnajgnnccmaa", sum := "2dc660d1d5b0aa7e5676f5e067647ba2fccee2f9af06aacb4c54d3fe13f49a94", func := "bandbox/bandboxlaw9.PointAdds", spec := "pointAdds", inPlace := ["math/bits.Add64", "math/bits.Sub64"], apart := false }
def PointAddsSaid : Prop := pointAddsRow.holds Try.pinned (OpenSpec.ofChange pointAddsSpec)

/-- ITS FALSE NEIGHBOUR: 'it returns false'. Refute it at one input. -/
def pointAddsWrong : ChangeSpec := { name := "pointAdds", fn := fun _ => fun
  | [d1, d2] => { results := [.lit (.bool false)], args := [d1, d2] }
  | _ => none }
def PointAddsWrongFalsely : Prop := pointAddsRow.holds Try.pinned (OpenSpec.ofChange pointAddsWrong)

/-- 'bandboxlaw9.PointTimes': WHATEVER THE INPUT: true; the input reads as it did. -/
def pointTimesSpec : ChangeSpec := { name := "pointTimes", fn := fun _ => fun
  | [d1, d2] => { results := [.lit (.bool true)], args := [d1, d2] }
  | _ => none }
def pointTimesRow : OpenClaim := { program := "ytfobnajgnnccmaa", sum := "2dc660d1d5b0aa7e5676f5e067647ba2fccee2f9af06aacb4c54d3fe13f49a94", func := "bandbox/bandboxlaw9.PointTimes", spec := "pointTimes", inPlace := ["math/bits.Add64", "math/bits.Sub64"], apart := false }
def PointTimesSaid : Prop := pointTimesRow.holds Try.pinned (OpenSpec.ofChange pointTimesSpec)

/-- ITS FALSE NEIGHBOUR: 'it returns false'. Refute it at one input. -/
def pointTimesWrong : ChangeSpec := { name := "pointTimes", fn := fun _ => fun
  | [d1, d2] => { results := [.lit (.bool false)], args := [d1, d2] }
  | _ => none }
def PointTimesWrongFalsely : Prop := pointTimesRow.holds Try.pinned (OpenSpec.ofChange pointTimesWrong)

/-- 'bandboxlaw10.SigSecond': WHATEVER THE INPUT: true; the input reads as it did. -/
def sigSecondSpec : ChangeSpec := { name := "sigSecond", fn := fun _ => fun
  | [d1, d2, d3] => { results := [.lit (.bool true)], args := [d1, d2, d3] }
  | _ => none }
def sigSecondRow : OpenClaim := { program := "ytfobnajgnnccmaa", sum := "2dc660d1d5b0aa7e5676f5e067647ba2fccee2f9af06aacb4c54d3fe13f49a94", func := "bandbox/bandboxlaw10.SigSecond", spec := "sigSecond", inPlace := ["math/bits.Add64", "math/bits.Sub64"], apart := false }
def SigSecondSaid : Prop := sigSecondRow.holds Try.pinned (OpenSpec.ofChange sigSecondSpec)

/-- ITS FALSE NEIGHBOUR: 'it returns false'. Refute it at one input. -/
def sigSecondWrong : ChangeSpec := { name := "sigSecond", fn := fun _ => fun
  | [d1, d2, d3] => { results := [.lit (.bool false)], args := [d1, d2, d3] }
  | _ => none }
def SigSecondWrongFalsely : Prop := sigSecondRow.holds Try.pinned (OpenSpec.ofChange sigSecondWrong)

/-- 'bandboxlaw10.SigParts': WHATEVER THE INPUT: true; the input reads as it did. -/
def sigPartsSpec : ChangeSpec := { name := "sigParts", fn := fun _ => fun
  | [d1, d2, d3] => { results := [.lit (.bool true)], args := [d1, d2, d3] }
  | _ => none }
def sigPartsRow : OpenClaim := { program := "ytfobnajgnnccmaa", sum := "2dc660d1d5b0aa7e5676f5e067647ba2fccee2f9af06aacb4c54d3fe13f49a94", func := "bandbox/bandboxlaw10.SigParts", spec := "sigParts", inPlace := ["math/bits.Add64", "math/bits.Sub64"], apart := false }
def SigPartsSaid : Prop := sigPartsRow.holds Try.pinned (OpenSpec.ofChange sigPartsSpec)

/-- ITS FALSE NEIGHBOUR: 'it returns false'. Refute it at one input. -/
def sigPartsWrong : ChangeSpec := { name := "sigParts", fn := fun _ => fun
  | [d1, d2, d3] => { results := [.lit (.bool false)], args := [d1, d2, d3] }
  | _ => none }
def SigPartsWrongFalsely : Prop := sigPartsRow.holds Try.pinned (OpenSpec.ofChange sigPartsWrong)

/-- 'bandboxlaw10.SigAgain': WHATEVER THE INPUT: true; the input reads as it did. -/
def sigAgainSpec : ChangeSpec := { name := "sigAgain", fn := fun _ => fun
  | [d1, d2, d3] => { results := [.lit (.bool true)], args := [d1, d2, d3] }
  | _ => none }
def sigAgainRow : OpenClaim := { program := "ytfobnajgnnccmaa", sum := "2dc660d1d5b0aa7e5676f5e067647ba2fccee2f9af06aacb4c54d3fe13f49a94", func := "bandbox/bandboxlaw10.SigAgain", spec := "sigAgain", inPlace := ["math/bits.Add64", "math/bits.Sub64"], apart := false }
def SigAgainSaid : Prop := sigAgainRow.holds Try.pinned (OpenSpec.ofChange sigAgainSpec)

/-- ITS FALSE NEIGHBOUR: 'it returns false'. Refute it at one input. -/
def sigAgainWrong : ChangeSpec := { name := "sigAgain", fn := fun _ => fun
  | [d1, d2, d3] => { results := [.lit (.bool false)], args := [d1, d2, d3] }
  | _ => none }
def SigAgainWrongFalsely : Prop := sigAgainRow.holds Try.pinned (OpenSpec.ofChange sigAgainWrong)

/- THE SECOND FORM. 'bulk': how many values and letters a reading holds, each counted each time it is reached (what is shared counts as often as it is met; a slice's spare places count too). A statement '..UptoSaid' is the law's where the arguments, and the package variables that the reading takes, are together of bulk at most 1048576: NARROWER than '..Said'. Prove '..Said' where nothing that the law and all that it calls make is longer than what came in: it says more and counts as full. Else prove '..UptoSaid'. A law counts once. -/
mutual
def uptoBulk {H : Type} : DataW H → Nat
  | .lit (.string bytes) => bytes.length + 1
  | .lit _ => 1
  | .nil => 1
  | .ptr d => uptoBulk d + 1
  | .slice elems spare => uptoBulkAll elems + uptoBulkAll spare + 1
  | .agg parts => uptoBulkAll parts + 1
  | .iface _ d => uptoBulk d + 1
  | .map entries => uptoBulkEntries entries + 1
  | .held _ => 1
def uptoBulkAll {H : Type} : List (DataW H) → Nat
  | [] => 0
  | d :: r => uptoBulk d + uptoBulkAll r
def uptoBulkEntries {H : Type} : List (Lit × DataW H) → Nat
  | [] => 0
  | x :: r => uptoBulkEntry x + uptoBulkEntries r
def uptoBulkEntry {H : Type} : Lit × DataW H → Nat
  | (.string bytes, d) => bytes.length + uptoBulk d + 1
  | (_, d) => uptoBulk d + 1
 end
def uptoSmall : (H : Type) → List (DataW H) → Bool := fun _ ds => decide (uptoBulkAll ds ≤ 1048576)
def OpenSpec.upto (s : _root_.Go.ChangeSpec) : _root_.Go.OpenSpec := { _root_.Go.OpenSpec.ofChange s with cond := some uptoSmall }

/-- 'bandboxlaw9.PointStep', WHERE WHAT IT READS IS OF BULK AT MOST 1048576: true; the input reads as it did. -/
def pointStepUptoRow : OpenClaim := { program := "ytfobnajgnnccmaa", sum := "2dc660d1d5b0aa7e5676f5e067647ba2fccee2f9af06aacb4c54d3fe13f49a94", func := "bandbox/bandboxlaw9.PointStep", spec := "pointStep", inPlace := ["math/bits.Add64", "math/bits.Sub64"], apart := false, narrowed := true }
def PointStepUptoSaid : Prop := pointStepUptoRow.holds Try.pinned (OpenSpec.upto pointStepSpec)

/-- 'bandboxlaw9.PointSays', WHERE WHAT IT READS IS OF BULK AT MOST 1048576: true; the input reads as it did. -/
def pointSaysUptoRow : OpenClaim := { program := "ytfobnajgnnccmaa", sum := "2dc660d1d5b0aa7e5676f5e067647ba2fccee2f9af06aacb4c54d3fe13f49a94", func := "bandbox/bandboxlaw9.PointSays", spec := "pointSays", inPlace := ["math/bits.Add64", "math/bits.Sub64"], apart := false, narrowed := true }
def PointSaysUptoSaid : Prop := pointSaysUptoRow.holds Try.pinned (OpenSpec.upto pointSaysSpec)

/-- 'bandboxlaw9.PointCurve', WHERE WHAT IT READS IS OF BULK AT MOST 1048576: true; the input reads as it did. -/
def pointCurveUptoRow : OpenClaim := { program := "ytfobnajgnnccmaa", sum := "2dc660d1d5b0aa7e5676f5e067647ba2fccee2f9af06aacb4c54d3fe13f49a94", func := "bandbox/bandboxlaw9.PointCurve", spec := "pointCurve", inPlace := ["math/bits.Add64", "math/bits.Sub64"], apart := false, narrowed := true }
def PointCurveUptoSaid : Prop := pointCurveUptoRow.holds Try.pinned (OpenSpec.upto pointCurveSpec)

/-- 'bandboxlaw9.PointAdds', WHERE WHAT IT READS IS OF BULK AT MOST 1048576: true; the input reads as it did. -/
def pointAddsUptoRow : OpenClaim := { program := "ytfobnajgnnccmaa", sum := "2dc660d1d5b0aa7e5676f5e067647ba2fccee2f9af06aacb4c54d3fe13f49a94", func := "bandbox/bandboxlaw9.PointAdds", spec := "pointAdds", inPlace := ["math/bits.Add64", "math/bits.Sub64"], apart := false, narrowed := true }
def PointAddsUptoSaid : Prop := pointAddsUptoRow.holds Try.pinned (OpenSpec.upto pointAddsSpec)

/-- 'bandboxlaw9.PointTimes', WHERE WHAT IT READS IS OF BULK AT MOST 1048576: true; the input reads as it did. -/
def pointTimesUptoRow : OpenClaim := { program := "ytfobnajgnnccmaa", sum := "2dc660d1d5b0aa7e5676f5e067647ba2fccee2f9af06aacb4c54d3fe13f49a94", func := "bandbox/bandboxlaw9.PointTimes", spec := "pointTimes", inPlace := ["math/bits.Add64", "math/bits.Sub64"], apart := false, narrowed := true }
def PointTimesUptoSaid : Prop := pointTimesUptoRow.holds Try.pinned (OpenSpec.upto pointTimesSpec)

/-- 'bandboxlaw10.SigSecond', WHERE WHAT IT READS IS OF BULK AT MOST 1048576: true; the input reads as it did. -/
def sigSecondUptoRow : OpenClaim := { program := "ytfobnajgnnccmaa", sum := "2dc660d1d5b0aa7e5676f5e067647ba2fccee2f9af06aacb4c54d3fe13f49a94", func := "bandbox/bandboxlaw10.SigSecond", spec := "sigSecond", inPlace := ["math/bits.Add64", "math/bits.Sub64"], apart := false, narrowed := true }
def SigSecondUptoSaid : Prop := sigSecondUptoRow.holds Try.pinned (OpenSpec.upto sigSecondSpec)

/-- 'bandboxlaw10.SigParts', WHERE WHAT IT READS IS OF BULK AT MOST 1048576: true; the input reads as it did. -/
def sigPartsUptoRow : OpenClaim := { program := "ytfobnajgnnccmaa", sum := "2dc660d1d5b0aa7e5676f5e067647ba2fccee2f9af06aacb4c54d3fe13f49a94", func := "bandbox/bandboxlaw10.SigParts", spec := "sigParts", inPlace := ["math/bits.Add64", "math/bits.Sub64"], apart := false, narrowed := true }
def SigPartsUptoSaid : Prop := sigPartsUptoRow.holds Try.pinned (OpenSpec.upto sigPartsSpec)

/-- 'bandboxlaw10.SigAgain', WHERE WHAT IT READS IS OF BULK AT MOST 1048576: true; the input reads as it did. -/
def sigAgainUptoRow : OpenClaim := { program := "ytfobnajgnnccmaa", sum := "2dc660d1d5b0aa7e5676f5e067647ba2fccee2f9af06aacb4c54d3fe13f49a94", func := "bandbox/bandboxlaw10.SigAgain", spec := "sigAgain", inPlace := ["math/bits.Add64", "math/bits.Sub64"], apart := false, narrowed := true }
def SigAgainUptoSaid : Prop := sigAgainUptoRow.holds Try.pinned (OpenSpec.upto sigAgainSpec)

end Rows
end Go.Proofs.Ytfobnajgnnccmaa
