/-
  No cell of these rows narrows 'for every input' (looked for: loops, veiled, ifaces, maps, wideKeys, modest, calm, conditions, laid).
  DERIVED. THE GIVEN ROWS OF THIS SEAT. 12 by the template 'for every input the law returns true; each argument reads behind the call as it read before'; 0 by the template 'total and deterministic' (their statements: YtoopdfnpfeeanaaTotals.lean).
  GIVEN WITH THE SEED: the statements are not yours to turn. If you find one false, say at which input.
  Laid BY PROGRAM, IN A SANDBOX (cutbox-rows.mjs): the forced cells as the released guide's own fill.sh prints them over the translation 09e38b39251ea3e3… (all of the seat's roots in one cut). By AI agents, Wed Nov 11 2026. No macro, syntax, notation, axiom, sorry.
-/
import Derived.Test.YtoopdfnpfeeanaaChecked
import GoSem.Claim
import GoSem.ClaimJoined
import GoSem.ClaimMapViews
import Derived.JoinedTies
import Derived.KernelRfl
namespace Go.Proofs.Ytoopdfnpfeeanaa
/- THE CELL 'sum', in the pinned program and in every row, IS THE sha256 OF THE DUMP (.gsa) THAT YtoopdfnpfeeanaaProg.lean LOADS. Nothing in Lean hashes anything: it is a label: what it is worth is what the hold of that sum in a sandbox is worth. -/
noncomputable def Try.pinned : Pinned := { name := "ytoopdfnpfeeanaa", sum := "09e38b39251ea3e352f2e6e832c232e80afda3c7c36232331450afa3aef29be6", checked := Try.checked }
namespace Rows
def none {H : Type} : Left H := { results := [], args := [] }

/-- 'laws.FnExactSpanFull': WHATEVER THE INPUT: true; the input reads as it did. -/
def fnExactSpanFullSpec : ChangeSpec := { name := "fnExactSpanFull", fn := fun _ => fun
  | [d] => { results := [.lit (.bool true)], args := [d] }
  | _ => none }
def fnExactSpanFullRow : OpenClaim := { program := "ytoopdfnpfeeanaa", sum := "09e38b39251ea3e352f2e6e832c232e80afda3c7c36232331450afa3aef29be6", func := "loop.example/g00978/laws.FnExactSpanFull", spec := "fnExactSpanFull", apart := false }
def FnExactSpanFullSaid : Prop := fnExactSpanFullRow.holds Try.pinned (OpenSpec.ofChange fnExactSpanFullSpec)

/-- ITS FALSE NEIGHBOUR: 'it returns false'. Refute it at one input. -/
def fnExactSpanFullWrong : ChangeSpec := { name := "fnExactSpanFull", fn := fun _ => fun
  | [d] => { results := [.lit (.bool false)], args := [d] }
  | _ => none }
def FnExactSpanFullWrongFalsely : Prop := fnExactSpanFullRow.holds Try.pinned (OpenSpec.ofChange fnExactSpanFullWrong)

/-- 'laws.FnMeshable': WHATEVER THE INPUT: true; the input reads as it did. -/
def fnMeshableSpec : ChangeSpec := { name := "fnMeshable", fn := fun _ => fun
  | [d] => { results := [.lit (.bool true)], args := [d] }
  | _ => none }
def fnMeshableRow : OpenClaim := { program := "ytoopdfnpfeeanaa", sum := "09e38b39251ea3e352f2e6e832c232e80afda3c7c36232331450afa3aef29be6", func := "loop.example/g00978/laws.FnMeshable", spec := "fnMeshable", apart := false }
def FnMeshableSaid : Prop := fnMeshableRow.holds Try.pinned (OpenSpec.ofChange fnMeshableSpec)

/-- ITS FALSE NEIGHBOUR: 'it returns false'. Refute it at one input. -/
def fnMeshableWrong : ChangeSpec := { name := "fnMeshable", fn := fun _ => fun
  | [d] => { results := [.lit (.bool false)], args := [d] }
  | _ => none }
def FnMeshableWrongFalsely : Prop := fnMeshableRow.holds Try.pinned (OpenSpec.ofChange fnMeshableWrong)

/-- 'laws.FnExactSpanGive': WHATEVER THE INPUT: true; the input reads as it did. -/
def fnExactSpanGiveSpec : ChangeSpec := { name := "fnExactSpanGive", fn := fun _ => fun
  | [d1, d2] => { results := [.lit (.bool true)], args := [d1, d2] }
  | _ => none }
def fnExactSpanGiveRow : OpenClaim := { program := "ytoopdfnpfeeanaa", sum := "09e38b39251ea3e352f2e6e832c232e80afda3c7c36232331450afa3aef29be6", func := "loop.example/g00978/laws.FnExactSpanGive", spec := "fnExactSpanGive", apart := false }
def FnExactSpanGiveSaid : Prop := fnExactSpanGiveRow.holds Try.pinned (OpenSpec.ofChange fnExactSpanGiveSpec)

/-- ITS FALSE NEIGHBOUR: 'it returns false'. Refute it at one input. -/
def fnExactSpanGiveWrong : ChangeSpec := { name := "fnExactSpanGive", fn := fun _ => fun
  | [d1, d2] => { results := [.lit (.bool false)], args := [d1, d2] }
  | _ => none }
def FnExactSpanGiveWrongFalsely : Prop := fnExactSpanGiveRow.holds Try.pinned (OpenSpec.ofChange fnExactSpanGiveWrong)

/-- 'laws.FnExactSpanCells': WHATEVER THE INPUT: true; the input reads as it did. -/
def fnExactSpanCellsSpec : ChangeSpec := { name := "fnExactSpanCells", fn := fun _ => fun
  | [d] => { results := [.lit (.bool true)], args := [d] }
  | _ => none }
def fnExactSpanCellsRow : OpenClaim := { program := "ytoopdfnpfeeanaa", sum := "09e38b39251ea3e352f2e6e832c232e80afda3c7c36232331450afa3aef29be6", func := "loop.example/g00978/laws.FnExactSpanCells", spec := "fnExactSpanCells", apart := false }
def FnExactSpanCellsSaid : Prop := fnExactSpanCellsRow.holds Try.pinned (OpenSpec.ofChange fnExactSpanCellsSpec)

/-- ITS FALSE NEIGHBOUR: 'it returns false'. Refute it at one input. -/
def fnExactSpanCellsWrong : ChangeSpec := { name := "fnExactSpanCells", fn := fun _ => fun
  | [d] => { results := [.lit (.bool false)], args := [d] }
  | _ => none }
def FnExactSpanCellsWrongFalsely : Prop := fnExactSpanCellsRow.holds Try.pinned (OpenSpec.ofChange fnExactSpanCellsWrong)

/-- 'laws.FnExactSpanTake': WHATEVER THE INPUT: true; the input reads as it did. -/
def fnExactSpanTakeSpec : ChangeSpec := { name := "fnExactSpanTake", fn := fun _ => fun
  | [d1, d2] => { results := [.lit (.bool true)], args := [d1, d2] }
  | _ => none }
def fnExactSpanTakeRow : OpenClaim := { program := "ytoopdfnpfeeanaa", sum := "09e38b39251ea3e352f2e6e832c232e80afda3c7c36232331450afa3aef29be6", func := "loop.example/g00978/laws.FnExactSpanTake", spec := "fnExactSpanTake", apart := false }
def FnExactSpanTakeSaid : Prop := fnExactSpanTakeRow.holds Try.pinned (OpenSpec.ofChange fnExactSpanTakeSpec)

/-- ITS FALSE NEIGHBOUR: 'it returns false'. Refute it at one input. -/
def fnExactSpanTakeWrong : ChangeSpec := { name := "fnExactSpanTake", fn := fun _ => fun
  | [d1, d2] => { results := [.lit (.bool false)], args := [d1, d2] }
  | _ => none }
def FnExactSpanTakeWrongFalsely : Prop := fnExactSpanTakeRow.holds Try.pinned (OpenSpec.ofChange fnExactSpanTakeWrong)

/-- 'laws.FnSpans': WHATEVER THE INPUT: true; the input reads as it did. -/
def fnSpansSpec : ChangeSpec := { name := "fnSpans", fn := fun _ => fun
  | [d] => { results := [.lit (.bool true)], args := [d] }
  | _ => none }
def fnSpansRow : OpenClaim := { program := "ytoopdfnpfeeanaa", sum := "09e38b39251ea3e352f2e6e832c232e80afda3c7c36232331450afa3aef29be6", func := "loop.example/g00978/laws.FnSpans", spec := "fnSpans", apart := false }
def FnSpansSaid : Prop := fnSpansRow.holds Try.pinned (OpenSpec.ofChange fnSpansSpec)

/-- ITS FALSE NEIGHBOUR: 'it returns false'. Refute it at one input. -/
def fnSpansWrong : ChangeSpec := { name := "fnSpans", fn := fun _ => fun
  | [d] => { results := [.lit (.bool false)], args := [d] }
  | _ => none }
def FnSpansWrongFalsely : Prop := fnSpansRow.holds Try.pinned (OpenSpec.ofChange fnSpansWrong)

/-- 'laws.FnSlotAddrs': WHATEVER THE INPUT: true; the input reads as it did. -/
def fnSlotAddrsSpec : ChangeSpec := { name := "fnSlotAddrs", fn := fun _ => fun
  | [d] => { results := [.lit (.bool true)], args := [d] }
  | _ => none }
def fnSlotAddrsRow : OpenClaim := { program := "ytoopdfnpfeeanaa", sum := "09e38b39251ea3e352f2e6e832c232e80afda3c7c36232331450afa3aef29be6", func := "loop.example/g00978/laws.FnSlotAddrs", spec := "fnSlotAddrs", apart := false }
def FnSlotAddrsSaid : Prop := fnSlotAddrsRow.holds Try.pinned (OpenSpec.ofChange fnSlotAddrsSpec)

/-- ITS FALSE NEIGHBOUR: 'it returns false'. Refute it at one input. -/
def fnSlotAddrsWrong : ChangeSpec := { name := "fnSlotAddrs", fn := fun _ => fun
  | [d] => { results := [.lit (.bool false)], args := [d] }
  | _ => none }
def FnSlotAddrsWrongFalsely : Prop := fnSlotAddrsRow.holds Try.pinned (OpenSpec.ofChange fnSlotAddrsWrong)

/-- 'laws.FnEdges': WHATEVER THE INPUT: true; the input reads as it did. -/
def fnEdgesSpec : ChangeSpec := { name := "fnEdges", fn := fun _ => fun
  | [d] => { results := [.lit (.bool true)], args := [d] }
  | _ => none }
def fnEdgesRow : OpenClaim := { program := "ytoopdfnpfeeanaa", sum := "09e38b39251ea3e352f2e6e832c232e80afda3c7c36232331450afa3aef29be6", func := "loop.example/g00978/laws.FnEdges", spec := "fnEdges", apart := false }
def FnEdgesSaid : Prop := fnEdgesRow.holds Try.pinned (OpenSpec.ofChange fnEdgesSpec)

/-- ITS FALSE NEIGHBOUR: 'it returns false'. Refute it at one input. -/
def fnEdgesWrong : ChangeSpec := { name := "fnEdges", fn := fun _ => fun
  | [d] => { results := [.lit (.bool false)], args := [d] }
  | _ => none }
def FnEdgesWrongFalsely : Prop := fnEdgesRow.holds Try.pinned (OpenSpec.ofChange fnEdgesWrong)

/-- 'laws.FnExactGroupOk': WHATEVER THE INPUT: true; the input reads as it did. -/
def fnExactGroupOkSpec : ChangeSpec := { name := "fnExactGroupOk", fn := fun _ => fun
  | [d] => { results := [.lit (.bool true)], args := [d] }
  | _ => none }
def fnExactGroupOkRow : OpenClaim := { program := "ytoopdfnpfeeanaa", sum := "09e38b39251ea3e352f2e6e832c232e80afda3c7c36232331450afa3aef29be6", func := "loop.example/g00978/laws.FnExactGroupOk", spec := "fnExactGroupOk", apart := false }
def FnExactGroupOkSaid : Prop := fnExactGroupOkRow.holds Try.pinned (OpenSpec.ofChange fnExactGroupOkSpec)

/-- ITS FALSE NEIGHBOUR: 'it returns false'. Refute it at one input. -/
def fnExactGroupOkWrong : ChangeSpec := { name := "fnExactGroupOk", fn := fun _ => fun
  | [d] => { results := [.lit (.bool false)], args := [d] }
  | _ => none }
def FnExactGroupOkWrongFalsely : Prop := fnExactGroupOkRow.holds Try.pinned (OpenSpec.ofChange fnExactGroupOkWrong)

/-- 'laws.FnExactMeshEdges': WHATEVER THE INPUT: true; the input reads as it did. -/
def fnExactMeshEdgesSpec : ChangeSpec := { name := "fnExactMeshEdges", fn := fun _ => fun
  | [d] => { results := [.lit (.bool true)], args := [d] }
  | _ => none }
def fnExactMeshEdgesRow : OpenClaim := { program := "ytoopdfnpfeeanaa", sum := "09e38b39251ea3e352f2e6e832c232e80afda3c7c36232331450afa3aef29be6", func := "loop.example/g00978/laws.FnExactMeshEdges", spec := "fnExactMeshEdges", apart := false }
def FnExactMeshEdgesSaid : Prop := fnExactMeshEdgesRow.holds Try.pinned (OpenSpec.ofChange fnExactMeshEdgesSpec)

/-- ITS FALSE NEIGHBOUR: 'it returns false'. Refute it at one input. -/
def fnExactMeshEdgesWrong : ChangeSpec := { name := "fnExactMeshEdges", fn := fun _ => fun
  | [d] => { results := [.lit (.bool false)], args := [d] }
  | _ => none }
def FnExactMeshEdgesWrongFalsely : Prop := fnExactMeshEdgesRow.holds Try.pinned (OpenSpec.ofChange fnExactMeshEdgesWrong)

/-- 'laws.FnExactGroupBits': WHATEVER THE INPUT: true; the input reads as it did. -/
def fnExactGroupBitsSpec : ChangeSpec := { name := "fnExactGroupBits", fn := fun _ => fun
  | [d] => { results := [.lit (.bool true)], args := [d] }
  | _ => none }
def fnExactGroupBitsRow : OpenClaim := { program := "ytoopdfnpfeeanaa", sum := "09e38b39251ea3e352f2e6e832c232e80afda3c7c36232331450afa3aef29be6", func := "loop.example/g00978/laws.FnExactGroupBits", spec := "fnExactGroupBits", apart := false }
def FnExactGroupBitsSaid : Prop := fnExactGroupBitsRow.holds Try.pinned (OpenSpec.ofChange fnExactGroupBitsSpec)

/-- ITS FALSE NEIGHBOUR: 'it returns false'. Refute it at one input. -/
def fnExactGroupBitsWrong : ChangeSpec := { name := "fnExactGroupBits", fn := fun _ => fun
  | [d] => { results := [.lit (.bool false)], args := [d] }
  | _ => none }
def FnExactGroupBitsWrongFalsely : Prop := fnExactGroupBitsRow.holds Try.pinned (OpenSpec.ofChange fnExactGroupBitsWrong)

/-- 'laws.FnExactGroupSlot': WHATEVER THE INPUT: true; the input reads as it did. -/
def fnExactGroupSlotSpec : ChangeSpec := { name := "fnExactGroupSlot", fn := fun _ => fun
  | [d1, d2] => { results := [.lit (.bool true)], args := [d1, d2] }
  | _ => none }
def fnExactGroupSlotRow : OpenClaim := { program := "ytoopdfnpfeeanaa", sum := "09e38b39251ea3e352f2e6e832c232e80afda3c7c36232331450afa3aef29be6", func := "loop.example/g00978/laws.FnExactGroupSlot", spec := "fnExactGroupSlot", apart := false }
def FnExactGroupSlotSaid : Prop := fnExactGroupSlotRow.holds Try.pinned (OpenSpec.ofChange fnExactGroupSlotSpec)

/-- ITS FALSE NEIGHBOUR: 'it returns false'. Refute it at one input. -/
def fnExactGroupSlotWrong : ChangeSpec := { name := "fnExactGroupSlot", fn := fun _ => fun
  | [d1, d2] => { results := [.lit (.bool false)], args := [d1, d2] }
  | _ => none }
def FnExactGroupSlotWrongFalsely : Prop := fnExactGroupSlotRow.holds Try.pinned (OpenSpec.ofChange fnExactGroupSlotWrong)

/- THE SECOND FORM. 'bulk': how many values and letters a reading holds, each counted each time it is reached (what is shared counts as often as it is met; a slice's spare places count too). A statement '..UptoSaid' is the law's where the arguments, and the package variables that the reading takes, are together of bulk at most 1048576: NARROWER than '..Said'. Prove '..Said' where nothing that the law and all that it calls make is longer than what came in: it says more and counts as full. Else prove '..UptoSaid'. A law counts once. -/
mutual
def uptoBulk {H : Type} : DataW H → Nat
  | .lit (.string bytes) => bytes.length + 1
  | .lit _ => 1
  | .nil => 1
  | .ptr d => uptoBulk d + 1
  | .slice elems spare => uptoBulkAll elems + uptoBulkAll spare + 1
  | .agg parts => uptoBulkAll parts + 1
  | .iface _ d => uptoBulk d + 1
  | .map entries => uptoBulkEntries entries + 1
  | .held _ => 1
def uptoBulkAll {H : Type} : List (DataW H) → Nat
  | [] => 0
  | d :: r => uptoBulk d + uptoBulkAll r
def uptoBulkEntries {H : Type} : List (Lit × DataW H) → Nat
  | [] => 0
  | x :: r => uptoBulkEntry x + uptoBulkEntries r
def uptoBulkEntry {H : Type} : Lit × DataW H → Nat
  | (.string bytes, d) => bytes.length + uptoBulk d + 1
  | (_, d) => uptoBulk d + 1
 end
def uptoSmall : (H : Type) → List (DataW H) → Bool := fun _ ds => decide (uptoBulkAll ds ≤ 1048576)
def OpenSpec.upto (s : _root_.Go.ChangeSpec) : _root_.Go.OpenSpec := { _root_.Go.OpenSpec.ofChange s with cond := some uptoSmall }

/-- 'laws.FnExactSpanFull', WHERE WHAT IT READS IS OF BULK AT MOST 1048576: true; the input reads as it did. -/
def fnExactSpanFullUptoRow : OpenClaim := { program := "ytoopdfnpfeeanaa", sum := "09e38b39251ea3e352f2e6e832c232e80afda3c7c36232331450afa3aef29be6", func := "loop.example/g00978/laws.FnExactSpanFull", spec := "fnExactSpanFull", apart := false, narrowed := true }
def FnExactSpanFullUptoSaid : Prop := fnExactSpanFullUptoRow.holds Try.pinned (OpenSpec.upto fnExactSpanFullSpec)

/-- 'laws.FnMeshable', WHERE WHAT IT READS IS OF BULK AT MOST 1048576: true; the input reads as it did. -/
def fnMeshableUptoRow : OpenClaim := { program := "ytoopdfnpfeeanaa", sum := "09e38b39251ea3e352f2e6e832c232e80afda3c7c36232331450afa3aef29be6", func := "loop.example/g00978/laws.FnMeshable", spec := "fnMeshable", apart := false, narrowed := true }
def FnMeshableUptoSaid : Prop := fnMeshableUptoRow.holds Try.pinned (OpenSpec.upto fnMeshableSpec)

/-- 'laws.FnExactSpanGive', WHERE WHAT IT READS IS OF BULK AT MOST 1048576: true; the input reads as it did. -/
def fnExactSpanGiveUptoRow : OpenClaim := { program := "ytoopdfnpfeeanaa", sum := "09e38b39251ea3e352f2e6e832c232e80afda3c7c36232331450afa3aef29be6", func := "loop.example/g00978/laws.FnExactSpanGive", spec := "fnExactSpanGive", apart := false, narrowed := true }
def FnExactSpanGiveUptoSaid : Prop := fnExactSpanGiveUptoRow.holds Try.pinned (OpenSpec.upto fnExactSpanGiveSpec)

/-- 'laws.FnExactSpanCells', WHERE WHAT IT READS IS OF BULK AT MOST 1048576: true; the input reads as it did. -/
def fnExactSpanCellsUptoRow : OpenClaim := { program := "ytoopdfnpfeeanaa", sum := "09e38b39251ea3e352f2e6e832c232e80afda3c7c36232331450afa3aef29be6", func := "loop.example/g00978/laws.FnExactSpanCells", spec := "fnExactSpanCells", apart := false, narrowed := true }
def FnExactSpanCellsUptoSaid : Prop := fnExactSpanCellsUptoRow.holds Try.pinned (OpenSpec.upto fnExactSpanCellsSpec)

/-- 'laws.FnExactSpanTake', WHERE WHAT IT READS IS OF BULK AT MOST 1048576: true; the input reads as it did. -/
def fnExactSpanTakeUptoRow : OpenClaim := { program := "ytoopdfnpfeeanaa", sum := "09e38b39251ea3e352f2e6e832c232e80afda3c7c36232331450afa3aef29be6", func := "loop.example/g00978/laws.FnExactSpanTake", spec := "fnExactSpanTake", apart := false, narrowed := true }
def FnExactSpanTakeUptoSaid : Prop := fnExactSpanTakeUptoRow.holds Try.pinned (OpenSpec.upto fnExactSpanTakeSpec)

/-- 'laws.FnSpans', WHERE WHAT IT READS IS OF BULK AT MOST 1048576: true; the input reads as it did. -/
def fnSpansUptoRow : OpenClaim := { program := "ytoopdfnpfeeanaa", sum := "09e38b39251ea3e352f2e6e832c232e80afda3c7c36232331450afa3aef29be6", func := "loop.example/g00978/laws.FnSpans", spec := "fnSpans", apart := false, narrowed := true }
def FnSpansUptoSaid : Prop := fnSpansUptoRow.holds Try.pinned (OpenSpec.upto fnSpansSpec)

/-- 'laws.FnSlotAddrs', WHERE WHAT IT READS IS OF BULK AT MOST 1048576: true; the input reads as it did. -/
def fnSlotAddrsUptoRow : OpenClaim := { program := "ytoopdfnpfeeanaa", sum := "09e38b39251ea3e352f2e6e832c232e80afda3c7c36232331450afa3aef29be6", func := "loop.example/g00978/laws.FnSlotAddrs", spec := "fnSlotAddrs", apart := false, narrowed := true }
def FnSlotAddrsUptoSaid : Prop := fnSlotAddrsUptoRow.holds Try.pinned (OpenSpec.upto fnSlotAddrsSpec)

/-- 'laws.FnEdges', WHERE WHAT IT READS IS OF BULK AT MOST 1048576: true; the input reads as it did. -/
def fnEdgesUptoRow : OpenClaim := { program := "ytoopdfnpfeeanaa", sum := "09e38b39251ea3e352f2e6e832c232e80afda3c7c36232331450afa3aef29be6", func := "loop.example/g00978/laws.FnEdges", spec := "fnEdges", apart := false, narrowed := true }
def FnEdgesUptoSaid : Prop := fnEdgesUptoRow.holds Try.pinned (OpenSpec.upto fnEdgesSpec)

/-- 'laws.FnExactGroupOk', WHERE WHAT IT READS IS OF BULK AT MOST 1048576: true; the input reads as it did. -/
def fnExactGroupOkUptoRow : OpenClaim := { program := "ytoopdfnpfeeanaa", sum := "09e38b39251ea3e352f2e6e832c232e80afda3c7c36232331450afa3aef29be6", func := "loop.example/g00978/laws.FnExactGroupOk", spec := "fnExactGroupOk", apart := false, narrowed := true }
def FnExactGroupOkUptoSaid : Prop := fnExactGroupOkUptoRow.holds Try.pinned (OpenSpec.upto fnExactGroupOkSpec)

/-- 'laws.FnExactMeshEdges', WHERE WHAT IT READS IS OF BULK AT MOST 1048576: true; the input reads as it did. -/
def fnExactMeshEdgesUptoRow : OpenClaim := { program := "ytoopdfnpfeeanaa", sum := "09e38b39251ea3e352f2e6e832c232e80afda3c7c36232331450afa3aef29be6", func := "loop.example/g00978/laws.FnExactMeshEdges", spec := "fnExactMeshEdges", apart := false, narrowed := true }
def FnExactMeshEdgesUptoSaid : Prop := fnExactMeshEdgesUptoRow.holds Try.pinned (OpenSpec.upto fnExactMeshEdgesSpec)

/-- 'laws.FnExactGroupBits', WHERE WHAT IT READS IS OF BULK AT MOST 1048576: true; the input reads as it did. -/
def fnExactGroupBitsUptoRow : OpenClaim := { program := "ytoopdfnpfeeanaa", sum := "09e38b39251ea3e352f2e6e832c232e80afda3c7c36232331450afa3aef29be6", func := "loop.example/g00978/laws.FnExactGroupBits", spec := "fnExactGroupBits", apart := false, narrowed := true }
def FnExactGroupBitsUptoSaid : Prop := fnExactGroupBitsUptoRow.holds Try.pinned (OpenSpec.upto fnExactGroupBitsSpec)

/-- 'laws.FnExactGroupSlot', WHERE WHAT IT READS IS OF BULK AT MOST 1048576: true; the input reads as it did. -/
def fnExactGroupSlotUptoRow : OpenClaim := { program := "ytoopdfnpfeeanaa", sum := "09e38b39251ea3e352f2e6e832c232e80afda3c7c36232331450afa3aef29be6", func := "loop.example/g00978/laws.FnExactGroupSlot", spec := "fnExactGroupSlot", apart := false, narrowed := true }
def FnExactGroupSlotUptoSaid : Prop := fnExactGroupSlotUptoRow.holds Try.pinned (OpenSpec.upto fnExactGroupSlotSpec)

end Rows
end Go.Proofs.Ytoopdfnpfeeanaa
