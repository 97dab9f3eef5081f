/-
  No cell of these rows narrows 'for every input' (looked for: loops, veiled, ifaces, maps, wideKeys, modest, calm, conditions, laid).
  DERIVED. THE GIVEN ROWS OF THIS SEAT. 11 by the template 'for every input the law returns true; each argument reads behind the call as it read before'; 0 by the template 'total and deterministic' (their statements: YtlmegcbiijkmaaaTotals.lean).
  GIVEN WITH THE SEED: the statements are not yours to turn. If you find one false, say at which input.
  Laid BY PROGRAM, IN A SANDBOX (cutbox-rows.mjs): the forced cells as the released guide's own fill.sh prints them over the translation c1d32bed307e5dc0… (all of the seat's roots in one cut). By AI agents, Wed Nov 11 2026. No macro, syntax, notation, axiom, sorry.
-/
import Derived.Test.YtlmegcbiijkmaaaChecked
import GoSem.Claim
import GoSem.ClaimJoined
import GoSem.ClaimMapViews
import Derived.JoinedTies
import Derived.KernelRfl
namespace Go.Proofs.Ytlmegcbiijkmaaa
/- THE CELL 'sum', in the pinned program and in every row, IS THE sha256 OF THE DUMP (.gsa) THAT YtlmegcbiijkmaaaProg.lean LOADS. Nothing in Lean hashes anything: it is a label: what it is worth is what the hold of that sum in a sandbox is worth. -/
noncomputable def Try.pinned : Pinned := { name := "ytlmegcbiijkmaaa", sum := "c1d32bed307e5dc0bf14eca450c699883b55e2e168c6bf668e23e7edff9ab573", checked := Try.checked }
namespace Rows
def none {H : Type} : Left H := { results := [], args := [] }

/-- 'bandboxlaw11.WireFew': WHATEVER THE INPUT: true; the input reads as it did. -/
def wireFewSpec : ChangeSpec := { name := "wireFew", fn := fun _ => fun
  | [d1, d2, d3] => { results := [.lit (.bool true)], args := [d1, d2, d3] }
  | _ => none }
def wireFewRow : OpenClaim := { program := "ytlmegcbiijkmaaa", sum := "c1d32bed307e5dc0bf14eca450c699883b55e2e168c6bf668e23e7edff9ab573", func := "bandbox/bandboxlaw11.WireFew", spec := "wireFew", apart := false }
def WireFewSaid : Prop := wireFewRow.holds Try.pinned (OpenSpec.ofChange wireFewSpec)

/-- ITS FALSE NEIGHBOUR: 'it returns false'. Refute it at one input. -/
def wireFewWrong : ChangeSpec := { name := "wireFew", fn := fun _ => fun
  | [d1, d2, d3] => { results := [.lit (.bool false)], args := [d1, d2, d3] }
  | _ => none }
def WireFewWrongFalsely : Prop := wireFewRow.holds Try.pinned (OpenSpec.ofChange wireFewWrong)

/-- 'bandboxlaw11.WireKnown': WHATEVER THE INPUT: true; the input reads as it did. -/
def wireKnownSpec : ChangeSpec := { name := "wireKnown", fn := fun _ => fun
  | [] => { results := [.lit (.bool true)], args := [] }
  | _ => none }
def wireKnownRow : OpenClaim := { program := "ytlmegcbiijkmaaa", sum := "c1d32bed307e5dc0bf14eca450c699883b55e2e168c6bf668e23e7edff9ab573", func := "bandbox/bandboxlaw11.WireKnown", spec := "wireKnown", apart := false }
def WireKnownSaid : Prop := wireKnownRow.holds Try.pinned (OpenSpec.ofChange wireKnownSpec)

/-- ITS FALSE NEIGHBOUR: 'it returns false'. Refute it at one input. -/
def wireKnownWrong : ChangeSpec := { name := "wireKnown", fn := fun _ => fun
  | [] => { results := [.lit (.bool false)], args := [] }
  | _ => none }
def WireKnownWrongFalsely : Prop := wireKnownRow.holds Try.pinned (OpenSpec.ofChange wireKnownWrong)

/-- 'bandboxlaw11.WireBack': WHATEVER THE INPUT: true; the input reads as it did. -/
def wireBackSpec : ChangeSpec := { name := "wireBack", fn := fun _ => fun
  | [d1, d2, d3, d4] => { results := [.lit (.bool true)], args := [d1, d2, d3, d4] }
  | _ => none }
def wireBackRow : OpenClaim := { program := "ytlmegcbiijkmaaa", sum := "c1d32bed307e5dc0bf14eca450c699883b55e2e168c6bf668e23e7edff9ab573", func := "bandbox/bandboxlaw11.WireBack", spec := "wireBack", apart := false }
def WireBackSaid : Prop := wireBackRow.holds Try.pinned (OpenSpec.ofChange wireBackSpec)

/-- ITS FALSE NEIGHBOUR: 'it returns false'. Refute it at one input. -/
def wireBackWrong : ChangeSpec := { name := "wireBack", fn := fun _ => fun
  | [d1, d2, d3, d4] => { results := [.lit (.bool false)], args := [d1, d2, d3, d4] }
  | _ => none }
def WireBackWrongFalsely : Prop := wireBackRow.holds Try.pinned (OpenSpec.ofChange wireBackWrong)

/-- 'bandboxlaw15.VecMerges': WHATEVER THE INPUT: true; the input reads as it did. -/
def vecMergesSpec : ChangeSpec := { name := "vecMerges", fn := fun _ => fun
  | [d1, d2, d3] => { results := [.lit (.bool true)], args := [d1, d2, d3] }
  | _ => none }
def vecMergesRow : OpenClaim := { program := "ytlmegcbiijkmaaa", sum := "c1d32bed307e5dc0bf14eca450c699883b55e2e168c6bf668e23e7edff9ab573", func := "bandbox/bandboxlaw15.VecMerges", spec := "vecMerges", apart := false }
def VecMergesSaid : Prop := vecMergesRow.holds Try.pinned (OpenSpec.ofChange vecMergesSpec)

/-- ITS FALSE NEIGHBOUR: 'it returns false'. Refute it at one input. -/
def vecMergesWrong : ChangeSpec := { name := "vecMerges", fn := fun _ => fun
  | [d1, d2, d3] => { results := [.lit (.bool false)], args := [d1, d2, d3] }
  | _ => none }
def VecMergesWrongFalsely : Prop := vecMergesRow.holds Try.pinned (OpenSpec.ofChange vecMergesWrong)

/-- 'bandboxlaw15.VecHas': WHATEVER THE INPUT: true; the input reads as it did. -/
def vecHasSpec : ChangeSpec := { name := "vecHas", fn := fun _ => fun
  | [d1, d2, d3] => { results := [.lit (.bool true)], args := [d1, d2, d3] }
  | _ => none }
def vecHasRow : OpenClaim := { program := "ytlmegcbiijkmaaa", sum := "c1d32bed307e5dc0bf14eca450c699883b55e2e168c6bf668e23e7edff9ab573", func := "bandbox/bandboxlaw15.VecHas", spec := "vecHas", apart := false }
def VecHasSaid : Prop := vecHasRow.holds Try.pinned (OpenSpec.ofChange vecHasSpec)

/-- ITS FALSE NEIGHBOUR: 'it returns false'. Refute it at one input. -/
def vecHasWrong : ChangeSpec := { name := "vecHas", fn := fun _ => fun
  | [d1, d2, d3] => { results := [.lit (.bool false)], args := [d1, d2, d3] }
  | _ => none }
def VecHasWrongFalsely : Prop := vecHasRow.holds Try.pinned (OpenSpec.ofChange vecHasWrong)

/-- 'bandboxlaw15.VecBack': WHATEVER THE INPUT: true; the input reads as it did. -/
def vecBackSpec : ChangeSpec := { name := "vecBack", fn := fun _ => fun
  | [d] => { results := [.lit (.bool true)], args := [d] }
  | _ => none }
def vecBackRow : OpenClaim := { program := "ytlmegcbiijkmaaa", sum := "c1d32bed307e5dc0bf14eca450c699883b55e2e168c6bf668e23e7edff9ab573", func := "bandbox/bandboxlaw15.VecBack", spec := "vecBack", apart := false }
def VecBackSaid : Prop := vecBackRow.holds Try.pinned (OpenSpec.ofChange vecBackSpec)

/-- ITS FALSE NEIGHBOUR: 'it returns false'. Refute it at one input. -/
def vecBackWrong : ChangeSpec := { name := "vecBack", fn := fun _ => fun
  | [d] => { results := [.lit (.bool false)], args := [d] }
  | _ => none }
def VecBackWrongFalsely : Prop := vecBackRow.holds Try.pinned (OpenSpec.ofChange vecBackWrong)

/-- 'bandboxlaw15.VecKnown': WHATEVER THE INPUT: true; the input reads as it did. -/
def vecKnownSpec : ChangeSpec := { name := "vecKnown", fn := fun _ => fun
  | [] => { results := [.lit (.bool true)], args := [] }
  | _ => none }
def vecKnownRow : OpenClaim := { program := "ytlmegcbiijkmaaa", sum := "c1d32bed307e5dc0bf14eca450c699883b55e2e168c6bf668e23e7edff9ab573", func := "bandbox/bandboxlaw15.VecKnown", spec := "vecKnown", apart := false }
def VecKnownSaid : Prop := vecKnownRow.holds Try.pinned (OpenSpec.ofChange vecKnownSpec)

/-- ITS FALSE NEIGHBOUR: 'it returns false'. Refute it at one input. -/
def vecKnownWrong : ChangeSpec := { name := "vecKnown", fn := fun _ => fun
  | [] => { results := [.lit (.bool false)], args := [] }
  | _ => none }
def VecKnownWrongFalsely : Prop := vecKnownRow.holds Try.pinned (OpenSpec.ofChange vecKnownWrong)

/-- 'bandboxlaw15.VecSays': WHATEVER THE INPUT: true; the input reads as it did. -/
def vecSaysSpec : ChangeSpec := { name := "vecSays", fn := fun _ => fun
  | [d1, d2, d3, d4] => { results := [.lit (.bool true)], args := [d1, d2, d3, d4] }
  | _ => none }
def vecSaysRow : OpenClaim := { program := "ytlmegcbiijkmaaa", sum := "c1d32bed307e5dc0bf14eca450c699883b55e2e168c6bf668e23e7edff9ab573", func := "bandbox/bandboxlaw15.VecSays", spec := "vecSays", apart := false }
def VecSaysSaid : Prop := vecSaysRow.holds Try.pinned (OpenSpec.ofChange vecSaysSpec)

/-- ITS FALSE NEIGHBOUR: 'it returns false'. Refute it at one input. -/
def vecSaysWrong : ChangeSpec := { name := "vecSays", fn := fun _ => fun
  | [d1, d2, d3, d4] => { results := [.lit (.bool false)], args := [d1, d2, d3, d4] }
  | _ => none }
def VecSaysWrongFalsely : Prop := vecSaysRow.holds Try.pinned (OpenSpec.ofChange vecSaysWrong)

/-- 'bandboxlaw1.OctetApart': WHATEVER THE INPUT: true; the input reads as it did. -/
def octetApartSpec : ChangeSpec := { name := "octetApart", fn := fun _ => fun
  | [d1, d2] => { results := [.lit (.bool true)], args := [d1, d2] }
  | _ => none }
def octetApartRow : OpenClaim := { program := "ytlmegcbiijkmaaa", sum := "c1d32bed307e5dc0bf14eca450c699883b55e2e168c6bf668e23e7edff9ab573", func := "bandbox/bandboxlaw1.OctetApart", spec := "octetApart", apart := false }
def OctetApartSaid : Prop := octetApartRow.holds Try.pinned (OpenSpec.ofChange octetApartSpec)

/-- ITS FALSE NEIGHBOUR: 'it returns false'. Refute it at one input. -/
def octetApartWrong : ChangeSpec := { name := "octetApart", fn := fun _ => fun
  | [d1, d2] => { results := [.lit (.bool false)], args := [d1, d2] }
  | _ => none }
def OctetApartWrongFalsely : Prop := octetApartRow.holds Try.pinned (OpenSpec.ofChange octetApartWrong)

/-- 'bandboxlaw1.OctetKnown': WHATEVER THE INPUT: true; the input reads as it did. -/
def octetKnownSpec : ChangeSpec := { name := "octetKnown", fn := fun _ => fun
  | [] => { results := [.lit (.bool true)], args := [] }
  | _ => none }
def octetKnownRow : OpenClaim := { program := "ytlmegcbiijkmaaa", sum := "c1d32bed307e5dc0bf14eca450c699883b55e2e168c6bf668e23e7edff9ab573", func := "bandbox/bandboxlaw1.OctetKnown", spec := "octetKnown", inPlace := ["internal/bytealg.IndexByteString"], apart := false }
def OctetKnownSaid : Prop := octetKnownRow.holds Try.pinned (OpenSpec.ofChange octetKnownSpec)

/-- ITS FALSE NEIGHBOUR: 'it returns false'. Refute it at one input. -/
def octetKnownWrong : ChangeSpec := { name := "octetKnown", fn := fun _ => fun
  | [] => { results := [.lit (.bool false)], args := [] }
  | _ => none }
def OctetKnownWrongFalsely : Prop := octetKnownRow.holds Try.pinned (OpenSpec.ofChange octetKnownWrong)

/-- 'bandboxlaw1.OctetBack': WHATEVER THE INPUT: true; the input reads as it did. -/
def octetBackSpec : ChangeSpec := { name := "octetBack", fn := fun _ => fun
  | [d1, d2, d3] => { results := [.lit (.bool true)], args := [d1, d2, d3] }
  | _ => none }
def octetBackRow : OpenClaim := { program := "ytlmegcbiijkmaaa", sum := "c1d32bed307e5dc0bf14eca450c699883b55e2e168c6bf668e23e7edff9ab573", func := "bandbox/bandboxlaw1.OctetBack", spec := "octetBack", inPlace := ["internal/bytealg.IndexByteString"], apart := false }
def OctetBackSaid : Prop := octetBackRow.holds Try.pinned (OpenSpec.ofChange octetBackSpec)

/-- ITS FALSE NEIGHBOUR: 'it returns false'. Refute it at one input. -/
def octetBackWrong : ChangeSpec := { name := "octetBack", fn := fun _ => fun
  | [d1, d2, d3] => { results := [.lit (.bool false)], args := [d1, d2, d3] }
  | _ => none }
def OctetBackWrongFalsely : Prop := octetBackRow.holds Try.pinned (OpenSpec.ofChange octetBackWrong)

/- THE SECOND FORM. 'bulk': how many values and letters a reading holds, each counted each time it is reached (what is shared counts as often as it is met; a slice's spare places count too). A statement '..UptoSaid' is the law's where the arguments, and the package variables that the reading takes, are together of bulk at most 1048576: NARROWER than '..Said'. Prove '..Said' where nothing that the law and all that it calls make is longer than what came in: it says more and counts as full. Else prove '..UptoSaid'. A law counts once. -/
mutual
def uptoBulk {H : Type} : DataW H → Nat
  | .lit (.string bytes) => bytes.length + 1
  | .lit _ => 1
  | .nil => 1
  | .ptr d => uptoBulk d + 1
  | .slice elems spare => uptoBulkAll elems + uptoBulkAll spare + 1
  | .agg parts => uptoBulkAll parts + 1
  | .iface _ d => uptoBulk d + 1
  | .map entries => uptoBulkEntries entries + 1
  | .held _ => 1
def uptoBulkAll {H : Type} : List (DataW H) → Nat
  | [] => 0
  | d :: r => uptoBulk d + uptoBulkAll r
def uptoBulkEntries {H : Type} : List (Lit × DataW H) → Nat
  | [] => 0
  | x :: r => uptoBulkEntry x + uptoBulkEntries r
def uptoBulkEntry {H : Type} : Lit × DataW H → Nat
  | (.string bytes, d) => bytes.length + uptoBulk d + 1
  | (_, d) => uptoBulk d + 1
 end
def uptoSmall : (H : Type) → List (DataW H) → Bool := fun _ ds => decide (uptoBulkAll ds ≤ 1048576)
def OpenSpec.upto (s : _root_.Go.ChangeSpec) : _root_.Go.OpenSpec := { _root_.Go.OpenSpec.ofChange s with cond := some uptoSmall }

/-- 'bandboxlaw11.WireFew', WHERE WHAT IT READS IS OF BULK AT MOST 1048576: true; the input reads as it did. -/
def wireFewUptoRow : OpenClaim := { program := "ytlmegcbiijkmaaa", sum := "c1d32bed307e5dc0bf14eca450c699883b55e2e168c6bf668e23e7edff9ab573", func := "bandbox/bandboxlaw11.WireFew", spec := "wireFew", apart := false, narrowed := true }
def WireFewUptoSaid : Prop := wireFewUptoRow.holds Try.pinned (OpenSpec.upto wireFewSpec)

/-- 'bandboxlaw11.WireKnown', WHERE WHAT IT READS IS OF BULK AT MOST 1048576: true; the input reads as it did. -/
def wireKnownUptoRow : OpenClaim := { program := "ytlmegcbiijkmaaa", sum := "c1d32bed307e5dc0bf14eca450c699883b55e2e168c6bf668e23e7edff9ab573", func := "bandbox/bandboxlaw11.WireKnown", spec := "wireKnown", apart := false, narrowed := true }
def WireKnownUptoSaid : Prop := wireKnownUptoRow.holds Try.pinned (OpenSpec.upto wireKnownSpec)

/-- 'bandboxlaw11.WireBack', WHERE WHAT IT READS IS OF BULK AT MOST 1048576: true; the input reads as it did. -/
def wireBackUptoRow : OpenClaim := { program := "ytlmegcbiijkmaaa", sum := "c1d32bed307e5dc0bf14eca450c699883b55e2e168c6bf668e23e7edff9ab573", func := "bandbox/bandboxlaw11.WireBack", spec := "wireBack", apart := false, narrowed := true }
def WireBackUptoSaid : Prop := wireBackUptoRow.holds Try.pinned (OpenSpec.upto wireBackSpec)

/-- 'bandboxlaw15.VecMerges', WHERE WHAT IT READS IS OF BULK AT MOST 1048576: true; the input reads as it did. -/
def vecMergesUptoRow : OpenClaim := { program := "ytlmegcbiijkmaaa", sum := "c1d32bed307e5dc0bf14eca450c699883b55e2e168c6bf668e23e7edff9ab573", func := "bandbox/bandboxlaw15.VecMerges", spec := "vecMerges", apart := false, narrowed := true }
def VecMergesUptoSaid : Prop := vecMergesUptoRow.holds Try.pinned (OpenSpec.upto vecMergesSpec)

/-- 'bandboxlaw15.VecHas', WHERE WHAT IT READS IS OF BULK AT MOST 1048576: true; the input reads as it did. -/
def vecHasUptoRow : OpenClaim := { program := "ytlmegcbiijkmaaa", sum := "c1d32bed307e5dc0bf14eca450c699883b55e2e168c6bf668e23e7edff9ab573", func := "bandbox/bandboxlaw15.VecHas", spec := "vecHas", apart := false, narrowed := true }
def VecHasUptoSaid : Prop := vecHasUptoRow.holds Try.pinned (OpenSpec.upto vecHasSpec)

/-- 'bandboxlaw15.VecBack', WHERE WHAT IT READS IS OF BULK AT MOST 1048576: true; the input reads as it did. -/
def vecBackUptoRow : OpenClaim := { program := "ytlmegcbiijkmaaa", sum := "c1d32bed307e5dc0bf14eca450c699883b55e2e168c6bf668e23e7edff9ab573", func := "bandbox/bandboxlaw15.VecBack", spec := "vecBack", apart := false, narrowed := true }
def VecBackUptoSaid : Prop := vecBackUptoRow.holds Try.pinned (OpenSpec.upto vecBackSpec)

/-- 'bandboxlaw15.VecKnown', WHERE WHAT IT READS IS OF BULK AT MOST 1048576: true; the input reads as it did. -/
def vecKnownUptoRow : OpenClaim := { program := "ytlmegcbiijkmaaa", sum := "c1d32bed307e5dc0bf14eca450c699883b55e2e168c6bf668e23e7edff9ab573", func := "bandbox/bandboxlaw15.VecKnown", spec := "vecKnown", apart := false, narrowed := true }
def VecKnownUptoSaid : Prop := vecKnownUptoRow.holds Try.pinned (OpenSpec.upto vecKnownSpec)

/-- 'bandboxlaw15.VecSays', WHERE WHAT IT READS IS OF BULK AT MOST 1048576: true; the input reads as it did. -/
def vecSaysUptoRow : OpenClaim := { program := "ytlmegcbiijkmaaa", sum := "c1d32bed307e5dc0bf14eca450c699883b55e2e168c6bf668e23e7edff9ab573", func := "bandbox/bandboxlaw15.VecSays", spec := "vecSays", apart := false, narrowed := true }
def VecSaysUptoSaid : Prop := vecSaysUptoRow.holds Try.pinned (OpenSpec.upto vecSaysSpec)

/-- 'bandboxlaw1.OctetApart', WHERE WHAT IT READS IS OF BULK AT MOST 1048576: true; the input reads as it did. -/
def octetApartUptoRow : OpenClaim := { program := "ytlmegcbiijkmaaa", sum := "c1d32bed307e5dc0bf14eca450c699883b55e2e168c6bf668e23e7edff9ab573", func := "bandbox/bandboxlaw1.OctetApart", spec := "octetApart", apart := false, narrowed := true }
def OctetApartUptoSaid : Prop := octetApartUptoRow.holds Try.pinned (OpenSpec.upto octetApartSpec)

/-- 'bandboxlaw1.OctetKnown', WHERE WHAT IT READS IS OF BULK AT MOST 1048576: true; the input reads as it did. -/
def octetKnownUptoRow : OpenClaim := { program := "ytlmegcbiijkmaaa", sum := "c1d32bed307e5dc0bf14eca450c699883b55e2e168c6bf668e23e7edff9ab573", func := "bandbox/bandboxlaw1.OctetKnown", spec := "octetKnown", inPlace := ["internal/bytealg.IndexByteString"], apart := false, narrowed := true }
def OctetKnownUptoSaid : Prop := octetKnownUptoRow.holds Try.pinned (OpenSpec.upto octetKnownSpec)

/-- 'bandboxlaw1.OctetBack', WHERE WHAT IT READS IS OF BULK AT MOST 1048576: true; the input reads as it did. -/
def octetBackUptoRow : OpenClaim := { program := "ytlmegcbiijkmaaa", sum := "c1d32bed307e5dc0bf14eca450c699883b55e2e168c6bf668e23e7edff9ab573", func := "bandbox/bandboxlaw1.OctetBack", spec := "octetBack", inPlace := ["internal/bytealg.IndexByteString"], apart := false, narrowed := true }
def OctetBackUptoSaid : Prop := octetBackUptoRow.holds Try.pinned (OpenSpec.upto octetBackSpec)

end Rows
end Go.Proofs.Ytlmegcbiijkmaaa
