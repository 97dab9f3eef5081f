/-
  No cell of these rows narrows 'for every input' (looked for: loops, veiled, ifaces, maps, wideKeys, modest, calm, conditions, laid).
  DERIVED. THE GIVEN ROWS OF THIS SEAT. 10 by the template 'for every input the law returns true; each argument reads behind the call as it read before'; 0 by the template 'total and deterministic' (their statements: YtokndemdmkaofaaTotals.lean).
  GIVEN WITH THE SEED: the statements are not yours to turn. If you find one false, say at which input.
  Laid BY PROGRAM, IN A SANDBOX (cutbox-rows.mjs): the forced cells as the released guide's own fill.sh prints them over the translation 44fa7c2635a904a5… (all of the seat's roots in one cut). By AI agents, Wed Nov 11 2026. No macro, syntax, notation, axiom, sorry.
-/
import Derived.Test.YtokndemdmkaofaaChecked
import GoSem.Claim
import GoSem.ClaimJoined
import GoSem.ClaimMapViews
import Derived.JoinedTies
import Derived.KernelRfl
namespace Go.Proofs.Ytokndemdmkaofaa
/- THE CELL 'sum', in the pinned program and in every row, IS THE sha256 OF THE DUMP (.gsa) THAT YtokndemdmkaofaaProg.lean LOADS. Nothing in Lean hashes anything: it is a label: what it is worth is what the hold of that sum in a sandbox is worth. -/
noncomputable def Try.pinned : Pinned := { name := "ytokndemdmkaofaa", sum := "44fa7c2635a904a51fbaf77e8f08cd4fc74d8d4c42850e105e5853c5c03308b1", checked := Try.checked }
namespace Rows
def none {H : Type} : Left H := { results := [], args := [] }

/-- 'bandboxlaw4.ChachaQuarter': WHATEVER THE INPUT: true; the input reads as it did. -/
def chachaQuarterSpec : ChangeSpec := { name := "chachaQuarter", fn := fun _ => fun
  | [d1, d2] => { results := [.lit (.bool true)], args := [d1, d2] }
  | _ => none }
def chachaQuarterRow : OpenClaim := { program := "ytokndemdmkaofaa", sum := "44fa7c2635a904a51fbaf77e8f08cd4fc74d8d4c42850e105e5853c5c03308b1", func := "bandbox/bandboxlaw4.ChachaQuarter", spec := "chachaQuarter", apart := false }
def ChachaQuarterSaid : Prop := chachaQuarterRow.holds Try.pinned (OpenSpec.ofChange chachaQuarterSpec)

/-- ITS FALSE NEIGHBOUR: 'it returns false'. Refute it at one input. -/
def chachaQuarterWrong : ChangeSpec := { name := "chachaQuarter", fn := fun _ => fun
  | [d1, d2] => { results := [.lit (.bool false)], args := [d1, d2] }
  | _ => none }
def ChachaQuarterWrongFalsely : Prop := chachaQuarterRow.holds Try.pinned (OpenSpec.ofChange chachaQuarterWrong)

/-- 'bandboxlaw4.ChachaKnown': WHATEVER THE INPUT: true; the input reads as it did. -/
def chachaKnownSpec : ChangeSpec := { name := "chachaKnown", fn := fun _ => fun
  | [] => { results := [.lit (.bool true)], args := [] }
  | _ => none }
def chachaKnownRow : OpenClaim := { program := "ytokndemdmkaofaa", sum := "44fa7c2635a904a51fbaf77e8f08cd4fc74d8d4c42850e105e5853c5c03308b1", func := "bandbox/bandboxlaw4.ChachaKnown", spec := "chachaKnown", apart := false }
def ChachaKnownSaid : Prop := chachaKnownRow.holds Try.pinned (OpenSpec.ofChange chachaKnownSpec)

/-- ITS FALSE NEIGHBOUR: 'it returns false'. Refute it at one input. -/
def chachaKnownWrong : ChangeSpec := { name := "chachaKnown", fn := fun _ => fun
  | [] => { results := [.lit (.bool false)], args := [] }
  | _ => none }
def ChachaKnownWrongFalsely : Prop := chachaKnownRow.holds Try.pinned (OpenSpec.ofChange chachaKnownWrong)

/-- 'bandboxlaw4.ChachaSays': WHATEVER THE INPUT: true; the input reads as it did. -/
def chachaSaysSpec : ChangeSpec := { name := "chachaSays", fn := fun _ => fun
  | [d1, d2, d3, d4, d5] => { results := [.lit (.bool true)], args := [d1, d2, d3, d4, d5] }
  | _ => none }
def chachaSaysRow : OpenClaim := { program := "ytokndemdmkaofaa", sum := "44fa7c2635a904a51fbaf77e8f08cd4fc74d8d4c42850e105e5853c5c03308b1", func := "bandbox/bandboxlaw4.ChachaSays", spec := "chachaSays", apart := false }
def ChachaSaysSaid : Prop := chachaSaysRow.holds Try.pinned (OpenSpec.ofChange chachaSaysSpec)

/-- ITS FALSE NEIGHBOUR: 'it returns false'. Refute it at one input. -/
def chachaSaysWrong : ChangeSpec := { name := "chachaSays", fn := fun _ => fun
  | [d1, d2, d3, d4, d5] => { results := [.lit (.bool false)], args := [d1, d2, d3, d4, d5] }
  | _ => none }
def ChachaSaysWrongFalsely : Prop := chachaSaysRow.holds Try.pinned (OpenSpec.ofChange chachaSaysWrong)

/-- 'bandboxlaw4.ChachaBack': WHATEVER THE INPUT: true; the input reads as it did. -/
def chachaBackSpec : ChangeSpec := { name := "chachaBack", fn := fun _ => fun
  | [d1, d2, d3, d4, d5] => { results := [.lit (.bool true)], args := [d1, d2, d3, d4, d5] }
  | _ => none }
def chachaBackRow : OpenClaim := { program := "ytokndemdmkaofaa", sum := "44fa7c2635a904a51fbaf77e8f08cd4fc74d8d4c42850e105e5853c5c03308b1", func := "bandbox/bandboxlaw4.ChachaBack", spec := "chachaBack", apart := false }
def ChachaBackSaid : Prop := chachaBackRow.holds Try.pinned (OpenSpec.ofChange chachaBackSpec)

/-- ITS FALSE NEIGHBOUR: 'it returns false'. Refute it at one input. -/
def chachaBackWrong : ChangeSpec := { name := "chachaBack", fn := fun _ => fun
  | [d1, d2, d3, d4, d5] => { results := [.lit (.bool false)], args := [d1, d2, d3, d4, d5] }
  | _ => none }
def ChachaBackWrongFalsely : Prop := chachaBackRow.holds Try.pinned (OpenSpec.ofChange chachaBackWrong)

/-- 'bandboxlaw4.ChachaStream': WHATEVER THE INPUT: true; the input reads as it did. -/
def chachaStreamSpec : ChangeSpec := { name := "chachaStream", fn := fun _ => fun
  | [d1, d2, d3, d4] => { results := [.lit (.bool true)], args := [d1, d2, d3, d4] }
  | _ => none }
def chachaStreamRow : OpenClaim := { program := "ytokndemdmkaofaa", sum := "44fa7c2635a904a51fbaf77e8f08cd4fc74d8d4c42850e105e5853c5c03308b1", func := "bandbox/bandboxlaw4.ChachaStream", spec := "chachaStream", apart := false }
def ChachaStreamSaid : Prop := chachaStreamRow.holds Try.pinned (OpenSpec.ofChange chachaStreamSpec)

/-- ITS FALSE NEIGHBOUR: 'it returns false'. Refute it at one input. -/
def chachaStreamWrong : ChangeSpec := { name := "chachaStream", fn := fun _ => fun
  | [d1, d2, d3, d4] => { results := [.lit (.bool false)], args := [d1, d2, d3, d4] }
  | _ => none }
def ChachaStreamWrongFalsely : Prop := chachaStreamRow.holds Try.pinned (OpenSpec.ofChange chachaStreamWrong)

/-- 'bandboxlaw8.ScalarLaws': WHATEVER THE INPUT: true; the input reads as it did. -/
def scalarLawsSpec : ChangeSpec := { name := "scalarLaws", fn := fun _ => fun
  | [d1, d2, d3] => { results := [.lit (.bool true)], args := [d1, d2, d3] }
  | _ => none }
def scalarLawsRow : OpenClaim := { program := "ytokndemdmkaofaa", sum := "44fa7c2635a904a51fbaf77e8f08cd4fc74d8d4c42850e105e5853c5c03308b1", func := "bandbox/bandboxlaw8.ScalarLaws", spec := "scalarLaws", inPlace := ["math/bits.Add64", "math/bits.Sub64"], apart := false }
def ScalarLawsSaid : Prop := scalarLawsRow.holds Try.pinned (OpenSpec.ofChange scalarLawsSpec)

/-- ITS FALSE NEIGHBOUR: 'it returns false'. Refute it at one input. -/
def scalarLawsWrong : ChangeSpec := { name := "scalarLaws", fn := fun _ => fun
  | [d1, d2, d3] => { results := [.lit (.bool false)], args := [d1, d2, d3] }
  | _ => none }
def ScalarLawsWrongFalsely : Prop := scalarLawsRow.holds Try.pinned (OpenSpec.ofChange scalarLawsWrong)

/-- 'bandboxlaw8.ScalarSmall': WHATEVER THE INPUT: true; the input reads as it did. -/
def scalarSmallSpec : ChangeSpec := { name := "scalarSmall", fn := fun _ => fun
  | [d1, d2] => { results := [.lit (.bool true)], args := [d1, d2] }
  | _ => none }
def scalarSmallRow : OpenClaim := { program := "ytokndemdmkaofaa", sum := "44fa7c2635a904a51fbaf77e8f08cd4fc74d8d4c42850e105e5853c5c03308b1", func := "bandbox/bandboxlaw8.ScalarSmall", spec := "scalarSmall", inPlace := ["math/bits.Add64", "math/bits.Sub64"], apart := false }
def ScalarSmallSaid : Prop := scalarSmallRow.holds Try.pinned (OpenSpec.ofChange scalarSmallSpec)

/-- ITS FALSE NEIGHBOUR: 'it returns false'. Refute it at one input. -/
def scalarSmallWrong : ChangeSpec := { name := "scalarSmall", fn := fun _ => fun
  | [d1, d2] => { results := [.lit (.bool false)], args := [d1, d2] }
  | _ => none }
def ScalarSmallWrongFalsely : Prop := scalarSmallRow.holds Try.pinned (OpenSpec.ofChange scalarSmallWrong)

/-- 'bandboxlaw8.ScalarKnown': WHATEVER THE INPUT: true; the input reads as it did. -/
def scalarKnownSpec : ChangeSpec := { name := "scalarKnown", fn := fun _ => fun
  | [] => { results := [.lit (.bool true)], args := [] }
  | _ => none }
def scalarKnownRow : OpenClaim := { program := "ytokndemdmkaofaa", sum := "44fa7c2635a904a51fbaf77e8f08cd4fc74d8d4c42850e105e5853c5c03308b1", func := "bandbox/bandboxlaw8.ScalarKnown", spec := "scalarKnown", inPlace := ["math/bits.Add64", "math/bits.Sub64"], apart := false }
def ScalarKnownSaid : Prop := scalarKnownRow.holds Try.pinned (OpenSpec.ofChange scalarKnownSpec)

/-- ITS FALSE NEIGHBOUR: 'it returns false'. Refute it at one input. -/
def scalarKnownWrong : ChangeSpec := { name := "scalarKnown", fn := fun _ => fun
  | [] => { results := [.lit (.bool false)], args := [] }
  | _ => none }
def ScalarKnownWrongFalsely : Prop := scalarKnownRow.holds Try.pinned (OpenSpec.ofChange scalarKnownWrong)

/-- 'bandboxlaw8.ScalarSays': WHATEVER THE INPUT: true; the input reads as it did. -/
def scalarSaysSpec : ChangeSpec := { name := "scalarSays", fn := fun _ => fun
  | [d1, d2, d3] => { results := [.lit (.bool true)], args := [d1, d2, d3] }
  | _ => none }
def scalarSaysRow : OpenClaim := { program := "ytokndemdmkaofaa", sum := "44fa7c2635a904a51fbaf77e8f08cd4fc74d8d4c42850e105e5853c5c03308b1", func := "bandbox/bandboxlaw8.ScalarSays", spec := "scalarSays", inPlace := ["math/bits.Add64", "math/bits.Sub64"], apart := false }
def ScalarSaysSaid : Prop := scalarSaysRow.holds Try.pinned (OpenSpec.ofChange scalarSaysSpec)

/-- ITS FALSE NEIGHBOUR: 'it returns false'. Refute it at one input. -/
def scalarSaysWrong : ChangeSpec := { name := "scalarSays", fn := fun _ => fun
  | [d1, d2, d3] => { results := [.lit (.bool false)], args := [d1, d2, d3] }
  | _ => none }
def ScalarSaysWrongFalsely : Prop := scalarSaysRow.holds Try.pinned (OpenSpec.ofChange scalarSaysWrong)

/-- 'bandboxlaw8.ScalarLong': WHATEVER THE INPUT: true; the input reads as it did. -/
def scalarLongSpec : ChangeSpec := { name := "scalarLong", fn := fun _ => fun
  | [d1, d2] => { results := [.lit (.bool true)], args := [d1, d2] }
  | _ => none }
def scalarLongRow : OpenClaim := { program := "ytokndemdmkaofaa", sum := "44fa7c2635a904a51fbaf77e8f08cd4fc74d8d4c42850e105e5853c5c03308b1", func := "bandbox/bandboxlaw8.ScalarLong", spec := "scalarLong", inPlace := ["math/bits.Add64", "math/bits.Sub64"], apart := false }
def ScalarLongSaid : Prop := scalarLongRow.holds Try.pinned (OpenSpec.ofChange scalarLongSpec)

/-- ITS FALSE NEIGHBOUR: 'it returns false'. Refute it at one input. -/
def scalarLongWrong : ChangeSpec := { name := "scalarLong", fn := fun _ => fun
  | [d1, d2] => { results := [.lit (.bool false)], args := [d1, d2] }
  | _ => none }
def ScalarLongWrongFalsely : Prop := scalarLongRow.holds Try.pinned (OpenSpec.ofChange scalarLongWrong)

/- THE SECOND FORM. 'bulk': how many values and letters a reading holds, each counted each time it is reached (what is shared counts as often as it is met; a slice's spare places count too). A statement '..UptoSaid' is the law's where the arguments, and the package variables that the reading takes, are together of bulk at most 1048576: NARROWER than '..Said'. Prove '..Said' where nothing that the law and all that it calls make is longer than what came in: it says more and counts as full. Else prove '..UptoSaid'. A law counts once. -/
mutual
def uptoBulk {H : Type} : DataW H → Nat
  | .lit (.string bytes) => bytes.length + 1
  | .lit _ => 1
  | .nil => 1
  | .ptr d => uptoBulk d + 1
  | .slice elems spare => uptoBulkAll elems + uptoBulkAll spare + 1
  | .agg parts => uptoBulkAll parts + 1
  | .iface _ d => uptoBulk d + 1
  | .map entries => uptoBulkEntries entries + 1
  | .held _ => 1
def uptoBulkAll {H : Type} : List (DataW H) → Nat
  | [] => 0
  | d :: r => uptoBulk d + uptoBulkAll r
def uptoBulkEntries {H : Type} : List (Lit × DataW H) → Nat
  | [] => 0
  | x :: r => uptoBulkEntry x + uptoBulkEntries r
def uptoBulkEntry {H : Type} : Lit × DataW H → Nat
  | (.string bytes, d) => bytes.length + uptoBulk d + 1
  | (_, d) => uptoBulk d + 1
 end
def uptoSmall : (H : Type) → List (DataW H) → Bool := fun _ ds => decide (uptoBulkAll ds ≤ 1048576)
def OpenSpec.upto (s : _root_.Go.ChangeSpec) : _root_.Go.OpenSpec := { _root_.Go.OpenSpec.ofChange s with cond := some uptoSmall }

/-- 'bandboxlaw4.ChachaQuarter', WHERE WHAT IT READS IS OF BULK AT MOST 1048576: true; the input reads as it did. -/
def chachaQuarterUptoRow : OpenClaim := { program := "ytokndemdmkaofaa", sum := "44fa7c2635a904a51fbaf77e8f08cd4fc74d8d4c42850e105e5853c5c03308b1", func := "bandbox/bandboxlaw4.ChachaQuarter", spec := "chachaQuarter", apart := false, narrowed := true }
def ChachaQuarterUptoSaid : Prop := chachaQuarterUptoRow.holds Try.pinned (OpenSpec.upto chachaQuarterSpec)

/-- 'bandboxlaw4.ChachaKnown', WHERE WHAT IT READS IS OF BULK AT MOST 1048576: true; the input reads as it did. -/
def chachaKnownUptoRow : OpenClaim := { program := "ytokndemdmkaofaa", sum := "44fa7c2635a904a51fbaf77e8f08cd4fc74d8d4c42850e105e5853c5c03308b1", func := "bandbox/bandboxlaw4.ChachaKnown", spec := "chachaKnown", apart := false, narrowed := true }
def ChachaKnownUptoSaid : Prop := chachaKnownUptoRow.holds Try.pinned (OpenSpec.upto chachaKnownSpec)

/-- 'bandboxlaw4.ChachaSays', WHERE WHAT IT READS IS OF BULK AT MOST 1048576: true; the input reads as it did. -/
def chachaSaysUptoRow : OpenClaim := { program := "ytokndemdmkaofaa", sum := "44fa7c2635a904a51fbaf77e8f08cd4fc74d8d4c42850e105e5853c5c03308b1", func := "bandbox/bandboxlaw4.ChachaSays", spec := "chachaSays", apart := false, narrowed := true }
def ChachaSaysUptoSaid : Prop := chachaSaysUptoRow.holds Try.pinned (OpenSpec.upto chachaSaysSpec)

/-- 'bandboxlaw4.ChachaBack', WHERE WHAT IT READS IS OF BULK AT MOST 1048576: true; the input reads as it did. -/
def chachaBackUptoRow : OpenClaim := { program := "ytokndemdmkaofaa", sum := "44fa7c2635a904a51fbaf77e8f08cd4fc74d8d4c42850e105e5853c5c03308b1", func := "bandbox/bandboxlaw4.ChachaBack", spec := "chachaBack", apart := false, narrowed := true }
def ChachaBackUptoSaid : Prop := chachaBackUptoRow.holds Try.pinned (OpenSpec.upto chachaBackSpec)

/-- 'bandboxlaw4.ChachaStream', WHERE WHAT IT READS IS OF BULK AT MOST 1048576: true; the input reads as it did. -/
def chachaStreamUptoRow : OpenClaim := { program := "ytokndemdmkaofaa", sum := "44fa7c2635a904a51fbaf77e8f08cd4fc74d8d4c42850e105e5853c5c03308b1", func := "bandbox/bandboxlaw4.ChachaStream", spec := "chachaStream", apart := false, narrowed := true }
def ChachaStreamUptoSaid : Prop := chachaStreamUptoRow.holds Try.pinned (OpenSpec.upto chachaStreamSpec)

/-- 'bandboxlaw8.ScalarLaws', WHERE WHAT IT READS IS OF BULK AT MOST 1048576: true; the input reads as it did. -/
def scalarLawsUptoRow : OpenClaim := { program := "ytokndemdmkaofaa", sum := "44fa7c2635a904a51fbaf77e8f08cd4fc74d8d4c42850e105e5853c5c03308b1", func := "bandbox/bandboxlaw8.ScalarLaws", spec := "scalarLaws", inPlace := ["math/bits.Add64", "math/bits.Sub64"], apart := false, narrowed := true }
def ScalarLawsUptoSaid : Prop := scalarLawsUptoRow.holds Try.pinned (OpenSpec.upto scalarLawsSpec)

/-- 'bandboxlaw8.ScalarSmall', WHERE WHAT IT READS IS OF BULK AT MOST 1048576: true; the input reads as it did. -/
def scalarSmallUptoRow : OpenClaim := { program := "ytokndemdmkaofaa", sum := "44fa7c2635a904a51fbaf77e8f08cd4fc74d8d4c42850e105e5853c5c03308b1", func := "bandbox/bandboxlaw8.ScalarSmall", spec := "scalarSmall", inPlace := ["math/bits.Add64", "math/bits.Sub64"], apart := false, narrowed := true }
def ScalarSmallUptoSaid : Prop := scalarSmallUptoRow.holds Try.pinned (OpenSpec.upto scalarSmallSpec)

/-- 'bandboxlaw8.ScalarKnown', WHERE WHAT IT READS IS OF BULK AT MOST 1048576: true; the input reads as it did. -/
def scalarKnownUptoRow : OpenClaim := { program := "ytokndemdmkaofaa", sum := "44fa7c2635a904a51fbaf77e8f08cd4fc74d8d4c42850e105e5853c5c03308b1", func := "bandbox/bandboxlaw8.ScalarKnown", spec := "scalarKnown", inPlace := ["math/bits.Add64", "math/bits.Sub64"], apart := false, narrowed := true }
def ScalarKnownUptoSaid : Prop := scalarKnownUptoRow.holds Try.pinned (OpenSpec.upto scalarKnownSpec)

/-- 'bandboxlaw8.ScalarSays', WHERE WHAT IT READS IS OF BULK AT MOST 1048576: true; the input reads as it did. -/
def scalarSaysUptoRow : OpenClaim := { program := "ytokndemdmkaofaa", sum := "44fa7c2635a904a51fbaf77e8f08cd4fc74d8d4c42850e105e5853c5c03308b1", func := "bandbox/bandboxlaw8.ScalarSays", spec := "scalarSays", inPlace := ["math/bits.Add64", "math/bits.Sub64"], apart := false, narrowed := true }
def ScalarSaysUptoSaid : Prop := scalarSaysUptoRow.holds Try.pinned (OpenSpec.upto scalarSaysSpec)

/-- 'bandboxlaw8.ScalarLong', WHERE WHAT IT READS IS OF BULK AT MOST 1048576: true; the input reads as it did. -/
def scalarLongUptoRow : OpenClaim := { program := "ytokndemdmkaofaa", sum := "44fa7c2635a904a51fbaf77e8f08cd4fc74d8d4c42850e105e5853c5c03308b1", func := "bandbox/bandboxlaw8.ScalarLong", spec := "scalarLong", inPlace := ["math/bits.Add64", "math/bits.Sub64"], apart := false, narrowed := true }
def ScalarLongUptoSaid : Prop := scalarLongUptoRow.holds Try.pinned (OpenSpec.upto scalarLongSpec)

end Rows
end Go.Proofs.Ytokndemdmkaofaa
