/-
  No cell of these rows narrows 'for every input' (looked for: loops, veiled, ifaces, maps, wideKeys, modest, calm, conditions, laid).
  DERIVED. THE GIVEN ROWS OF THIS SEAT. 12 by the template 'for every input the law returns true; each argument reads behind the call as it read before'; 0 by the template 'total and deterministic' (their statements: YteebofhflbjimaaTotals.lean).
  GIVEN WITH THE SEED: the statements are not yours to turn. If you find one false, say at which input.
  Laid BY PROGRAM, IN A SANDBOX (cutbox-rows.mjs): the forced cells as the released guide's own fill.sh prints them over the translation 17ac75ea4b689ba4… (all of the seat's roots in one cut). By AI agents, Wed Nov 11 2026. No macro, syntax, notation, axiom, sorry.
-/
import Derived.Test.YteebofhflbjimaaChecked
import GoSem.Claim
import GoSem.ClaimJoined
import GoSem.ClaimMapViews
import Derived.JoinedTies
import Derived.KernelRfl
namespace Go.Proofs.Yteebofhflbjimaa
/- THE CELL 'sum', in the pinned program and in every row, IS THE sha256 OF THE DUMP (.gsa) THAT YteebofhflbjimaaProg.lean LOADS. Nothing in Lean hashes anything: it is a label: what it is worth is what the hold of that sum in a sandbox is worth. -/
noncomputable def Try.pinned : Pinned := { name := "yteebofhflbjimaa", sum := "17ac75ea4b689ba4b6822309317a8b6c4007717441de7709b430b94cb73604c0", checked := Try.checked }
namespace Rows
def none {H : Type} : Left H := { results := [], args := [] }

/-- 'laws.FnExactPlanOk': WHATEVER THE INPUT: true; the input reads as it did. -/
def fnExactPlanOkSpec : ChangeSpec := { name := "fnExactPlanOk", fn := fun _ => fun
  | [d] => { results := [.lit (.bool true)], args := [d] }
  | _ => none }
def fnExactPlanOkRow : OpenClaim := { program := "yteebofhflbjimaa", sum := "17ac75ea4b689ba4b6822309317a8b6c4007717441de7709b430b94cb73604c0", func := "loop.example/g00978/laws.FnExactPlanOk", spec := "fnExactPlanOk", apart := false }
def FnExactPlanOkSaid : Prop := fnExactPlanOkRow.holds Try.pinned (OpenSpec.ofChange fnExactPlanOkSpec)

/-- ITS FALSE NEIGHBOUR: 'it returns false'. Refute it at one input. -/
def fnExactPlanOkWrong : ChangeSpec := { name := "fnExactPlanOk", fn := fun _ => fun
  | [d] => { results := [.lit (.bool false)], args := [d] }
  | _ => none }
def FnExactPlanOkWrongFalsely : Prop := fnExactPlanOkRow.holds Try.pinned (OpenSpec.ofChange fnExactPlanOkWrong)

/-- 'laws.FnExactPlanSaves': WHATEVER THE INPUT: true; the input reads as it did. -/
def fnExactPlanSavesSpec : ChangeSpec := { name := "fnExactPlanSaves", fn := fun _ => fun
  | [d] => { results := [.lit (.bool true)], args := [d] }
  | _ => none }
def fnExactPlanSavesRow : OpenClaim := { program := "yteebofhflbjimaa", sum := "17ac75ea4b689ba4b6822309317a8b6c4007717441de7709b430b94cb73604c0", func := "loop.example/g00978/laws.FnExactPlanSaves", spec := "fnExactPlanSaves", apart := false }
def FnExactPlanSavesSaid : Prop := fnExactPlanSavesRow.holds Try.pinned (OpenSpec.ofChange fnExactPlanSavesSpec)

/-- ITS FALSE NEIGHBOUR: 'it returns false'. Refute it at one input. -/
def fnExactPlanSavesWrong : ChangeSpec := { name := "fnExactPlanSaves", fn := fun _ => fun
  | [d] => { results := [.lit (.bool false)], args := [d] }
  | _ => none }
def FnExactPlanSavesWrongFalsely : Prop := fnExactPlanSavesRow.holds Try.pinned (OpenSpec.ofChange fnExactPlanSavesWrong)

/-- 'laws.FnExactJobOk': WHATEVER THE INPUT: true; the input reads as it did. -/
def fnExactJobOkSpec : ChangeSpec := { name := "fnExactJobOk", fn := fun _ => fun
  | [d] => { results := [.lit (.bool true)], args := [d] }
  | _ => none }
def fnExactJobOkRow : OpenClaim := { program := "yteebofhflbjimaa", sum := "17ac75ea4b689ba4b6822309317a8b6c4007717441de7709b430b94cb73604c0", func := "loop.example/g00978/laws.FnExactJobOk", spec := "fnExactJobOk", apart := false }
def FnExactJobOkSaid : Prop := fnExactJobOkRow.holds Try.pinned (OpenSpec.ofChange fnExactJobOkSpec)

/-- ITS FALSE NEIGHBOUR: 'it returns false'. Refute it at one input. -/
def fnExactJobOkWrong : ChangeSpec := { name := "fnExactJobOk", fn := fun _ => fun
  | [d] => { results := [.lit (.bool false)], args := [d] }
  | _ => none }
def FnExactJobOkWrongFalsely : Prop := fnExactJobOkRow.holds Try.pinned (OpenSpec.ofChange fnExactJobOkWrong)

/-- 'laws.FnExactJobActive': WHATEVER THE INPUT: true; the input reads as it did. -/
def fnExactJobActiveSpec : ChangeSpec := { name := "fnExactJobActive", fn := fun _ => fun
  | [d] => { results := [.lit (.bool true)], args := [d] }
  | _ => none }
def fnExactJobActiveRow : OpenClaim := { program := "yteebofhflbjimaa", sum := "17ac75ea4b689ba4b6822309317a8b6c4007717441de7709b430b94cb73604c0", func := "loop.example/g00978/laws.FnExactJobActive", spec := "fnExactJobActive", apart := false }
def FnExactJobActiveSaid : Prop := fnExactJobActiveRow.holds Try.pinned (OpenSpec.ofChange fnExactJobActiveSpec)

/-- ITS FALSE NEIGHBOUR: 'it returns false'. Refute it at one input. -/
def fnExactJobActiveWrong : ChangeSpec := { name := "fnExactJobActive", fn := fun _ => fun
  | [d] => { results := [.lit (.bool false)], args := [d] }
  | _ => none }
def FnExactJobActiveWrongFalsely : Prop := fnExactJobActiveRow.holds Try.pinned (OpenSpec.ofChange fnExactJobActiveWrong)

/-- 'laws.FnExactMergedText': WHATEVER THE INPUT: true; the input reads as it did. -/
def fnExactMergedTextSpec : ChangeSpec := { name := "fnExactMergedText", fn := fun _ => fun
  | [d1, d2, d3] => { results := [.lit (.bool true)], args := [d1, d2, d3] }
  | _ => none }
def fnExactMergedTextRow : OpenClaim := { program := "yteebofhflbjimaa", sum := "17ac75ea4b689ba4b6822309317a8b6c4007717441de7709b430b94cb73604c0", func := "loop.example/g00978/laws.FnExactMergedText", spec := "fnExactMergedText", apart := false }
def FnExactMergedTextSaid : Prop := fnExactMergedTextRow.holds Try.pinned (OpenSpec.ofChange fnExactMergedTextSpec)

/-- ITS FALSE NEIGHBOUR: 'it returns false'. Refute it at one input. -/
def fnExactMergedTextWrong : ChangeSpec := { name := "fnExactMergedText", fn := fun _ => fun
  | [d1, d2, d3] => { results := [.lit (.bool false)], args := [d1, d2, d3] }
  | _ => none }
def FnExactMergedTextWrongFalsely : Prop := fnExactMergedTextRow.holds Try.pinned (OpenSpec.ofChange fnExactMergedTextWrong)

/-- 'laws.FnExactJobNew': WHATEVER THE INPUT: true; the input reads as it did. -/
def fnExactJobNewSpec : ChangeSpec := { name := "fnExactJobNew", fn := fun _ => fun
  | [d] => { results := [.lit (.bool true)], args := [d] }
  | _ => none }
def fnExactJobNewRow : OpenClaim := { program := "yteebofhflbjimaa", sum := "17ac75ea4b689ba4b6822309317a8b6c4007717441de7709b430b94cb73604c0", func := "loop.example/g00978/laws.FnExactJobNew", spec := "fnExactJobNew", apart := false }
def FnExactJobNewSaid : Prop := fnExactJobNewRow.holds Try.pinned (OpenSpec.ofChange fnExactJobNewSpec)

/-- ITS FALSE NEIGHBOUR: 'it returns false'. Refute it at one input. -/
def fnExactJobNewWrong : ChangeSpec := { name := "fnExactJobNew", fn := fun _ => fun
  | [d] => { results := [.lit (.bool false)], args := [d] }
  | _ => none }
def FnExactJobNewWrongFalsely : Prop := fnExactJobNewRow.holds Try.pinned (OpenSpec.ofChange fnExactJobNewWrong)

/-- 'laws.FnExactSlotClear': WHATEVER THE INPUT: true; the input reads as it did. -/
def fnExactSlotClearSpec : ChangeSpec := { name := "fnExactSlotClear", fn := fun _ => fun
  | [d1, d2, d3] => { results := [.lit (.bool true)], args := [d1, d2, d3] }
  | _ => none }
def fnExactSlotClearRow : OpenClaim := { program := "yteebofhflbjimaa", sum := "17ac75ea4b689ba4b6822309317a8b6c4007717441de7709b430b94cb73604c0", func := "loop.example/g00978/laws.FnExactSlotClear", spec := "fnExactSlotClear", apart := false }
def FnExactSlotClearSaid : Prop := fnExactSlotClearRow.holds Try.pinned (OpenSpec.ofChange fnExactSlotClearSpec)

/-- ITS FALSE NEIGHBOUR: 'it returns false'. Refute it at one input. -/
def fnExactSlotClearWrong : ChangeSpec := { name := "fnExactSlotClear", fn := fun _ => fun
  | [d1, d2, d3] => { results := [.lit (.bool false)], args := [d1, d2, d3] }
  | _ => none }
def FnExactSlotClearWrongFalsely : Prop := fnExactSlotClearRow.holds Try.pinned (OpenSpec.ofChange fnExactSlotClearWrong)

/-- 'laws.FnExactKUnmap': WHATEVER THE INPUT: true; the input reads as it did. -/
def fnExactKUnmapSpec : ChangeSpec := { name := "fnExactKUnmap", fn := fun _ => fun
  | [d1, d2] => { results := [.lit (.bool true)], args := [d1, d2] }
  | _ => none }
def fnExactKUnmapRow : OpenClaim := { program := "yteebofhflbjimaa", sum := "17ac75ea4b689ba4b6822309317a8b6c4007717441de7709b430b94cb73604c0", func := "loop.example/g00978/laws.FnExactKUnmap", spec := "fnExactKUnmap", apart := false }
def FnExactKUnmapSaid : Prop := fnExactKUnmapRow.holds Try.pinned (OpenSpec.ofChange fnExactKUnmapSpec)

/-- ITS FALSE NEIGHBOUR: 'it returns false'. Refute it at one input. -/
def fnExactKUnmapWrong : ChangeSpec := { name := "fnExactKUnmap", fn := fun _ => fun
  | [d1, d2] => { results := [.lit (.bool false)], args := [d1, d2] }
  | _ => none }
def FnExactKUnmapWrongFalsely : Prop := fnExactKUnmapRow.holds Try.pinned (OpenSpec.ofChange fnExactKUnmapWrong)

/-- 'laws.FnExactKCopy': WHATEVER THE INPUT: true; the input reads as it did. -/
def fnExactKCopySpec : ChangeSpec := { name := "fnExactKCopy", fn := fun _ => fun
  | [d1, d2, d3, d4] => { results := [.lit (.bool true)], args := [d1, d2, d3, d4] }
  | _ => none }
def fnExactKCopyRow : OpenClaim := { program := "yteebofhflbjimaa", sum := "17ac75ea4b689ba4b6822309317a8b6c4007717441de7709b430b94cb73604c0", func := "loop.example/g00978/laws.FnExactKCopy", spec := "fnExactKCopy", apart := false }
def FnExactKCopySaid : Prop := fnExactKCopyRow.holds Try.pinned (OpenSpec.ofChange fnExactKCopySpec)

/-- ITS FALSE NEIGHBOUR: 'it returns false'. Refute it at one input. -/
def fnExactKCopyWrong : ChangeSpec := { name := "fnExactKCopy", fn := fun _ => fun
  | [d1, d2, d3, d4] => { results := [.lit (.bool false)], args := [d1, d2, d3, d4] }
  | _ => none }
def FnExactKCopyWrongFalsely : Prop := fnExactKCopyRow.holds Try.pinned (OpenSpec.ofChange fnExactKCopyWrong)

/-- 'laws.FnExactKProtect': WHATEVER THE INPUT: true; the input reads as it did. -/
def fnExactKProtectSpec : ChangeSpec := { name := "fnExactKProtect", fn := fun _ => fun
  | [d1, d2, d3] => { results := [.lit (.bool true)], args := [d1, d2, d3] }
  | _ => none }
def fnExactKProtectRow : OpenClaim := { program := "yteebofhflbjimaa", sum := "17ac75ea4b689ba4b6822309317a8b6c4007717441de7709b430b94cb73604c0", func := "loop.example/g00978/laws.FnExactKProtect", spec := "fnExactKProtect", apart := false }
def FnExactKProtectSaid : Prop := fnExactKProtectRow.holds Try.pinned (OpenSpec.ofChange fnExactKProtectSpec)

/-- ITS FALSE NEIGHBOUR: 'it returns false'. Refute it at one input. -/
def fnExactKProtectWrong : ChangeSpec := { name := "fnExactKProtect", fn := fun _ => fun
  | [d1, d2, d3] => { results := [.lit (.bool false)], args := [d1, d2, d3] }
  | _ => none }
def FnExactKProtectWrongFalsely : Prop := fnExactKProtectRow.holds Try.pinned (OpenSpec.ofChange fnExactKProtectWrong)

/-- 'laws.FnExactKMapOn': WHATEVER THE INPUT: true; the input reads as it did. -/
def fnExactKMapOnSpec : ChangeSpec := { name := "fnExactKMapOn", fn := fun _ => fun
  | [d1, d2, d3] => { results := [.lit (.bool true)], args := [d1, d2, d3] }
  | _ => none }
def fnExactKMapOnRow : OpenClaim := { program := "yteebofhflbjimaa", sum := "17ac75ea4b689ba4b6822309317a8b6c4007717441de7709b430b94cb73604c0", func := "loop.example/g00978/laws.FnExactKMapOn", spec := "fnExactKMapOn", apart := false }
def FnExactKMapOnSaid : Prop := fnExactKMapOnRow.holds Try.pinned (OpenSpec.ofChange fnExactKMapOnSpec)

/-- ITS FALSE NEIGHBOUR: 'it returns false'. Refute it at one input. -/
def fnExactKMapOnWrong : ChangeSpec := { name := "fnExactKMapOn", fn := fun _ => fun
  | [d1, d2, d3] => { results := [.lit (.bool false)], args := [d1, d2, d3] }
  | _ => none }
def FnExactKMapOnWrongFalsely : Prop := fnExactKMapOnRow.holds Try.pinned (OpenSpec.ofChange fnExactKMapOnWrong)

/-- 'laws.FnExactKMapNew': WHATEVER THE INPUT: true; the input reads as it did. -/
def fnExactKMapNewSpec : ChangeSpec := { name := "fnExactKMapNew", fn := fun _ => fun
  | [d1, d2] => { results := [.lit (.bool true)], args := [d1, d2] }
  | _ => none }
def fnExactKMapNewRow : OpenClaim := { program := "yteebofhflbjimaa", sum := "17ac75ea4b689ba4b6822309317a8b6c4007717441de7709b430b94cb73604c0", func := "loop.example/g00978/laws.FnExactKMapNew", spec := "fnExactKMapNew", apart := false }
def FnExactKMapNewSaid : Prop := fnExactKMapNewRow.holds Try.pinned (OpenSpec.ofChange fnExactKMapNewSpec)

/-- ITS FALSE NEIGHBOUR: 'it returns false'. Refute it at one input. -/
def fnExactKMapNewWrong : ChangeSpec := { name := "fnExactKMapNew", fn := fun _ => fun
  | [d1, d2] => { results := [.lit (.bool false)], args := [d1, d2] }
  | _ => none }
def FnExactKMapNewWrongFalsely : Prop := fnExactKMapNewRow.holds Try.pinned (OpenSpec.ofChange fnExactKMapNewWrong)

/- THE SECOND FORM. 'bulk': how many values and letters a reading holds, each counted each time it is reached (what is shared counts as often as it is met; a slice's spare places count too). A statement '..UptoSaid' is the law's where the arguments, and the package variables that the reading takes, are together of bulk at most 1048576: NARROWER than '..Said'. Prove '..Said' where nothing that the law and all that it calls make is longer than what came in: it says more and counts as full. Else prove '..UptoSaid'. A law counts once. -/
mutual
def uptoBulk {H : Type} : DataW H → Nat
  | .lit (.string bytes) => bytes.length + 1
  | .lit _ => 1
  | .nil => 1
  | .ptr d => uptoBulk d + 1
  | .slice elems spare => uptoBulkAll elems + uptoBulkAll spare + 1
  | .agg parts => uptoBulkAll parts + 1
  | .iface _ d => uptoBulk d + 1
  | .map entries => uptoBulkEntries entries + 1
  | .held _ => 1
def uptoBulkAll {H : Type} : List (DataW H) → Nat
  | [] => 0
  | d :: r => uptoBulk d + uptoBulkAll r
def uptoBulkEntries {H : Type} : List (Lit × DataW H) → Nat
  | [] => 0
  | x :: r => uptoBulkEntry x + uptoBulkEntries r
def uptoBulkEntry {H : Type} : Lit × DataW H → Nat
  | (.string bytes, d) => bytes.length + uptoBulk d + 1
  | (_, d) => uptoBulk d + 1
 end
def uptoSmall : (H : Type) → List (DataW H) → Bool := fun _ ds => decide (uptoBulkAll ds ≤ 1048576)
def OpenSpec.upto (s : _root_.Go.ChangeSpec) : _root_.Go.OpenSpec := { _root_.Go.OpenSpec.ofChange s with cond := some uptoSmall }

/-- 'laws.FnExactPlanOk', WHERE WHAT IT READS IS OF BULK AT MOST 1048576: true; the input reads as it did. -/
def fnExactPlanOkUptoRow : OpenClaim := { program := "yteebofhflbjimaa", sum := "17ac75ea4b689ba4b6822309317a8b6c4007717441de7709b430b94cb73604c0", func := "loop.example/g00978/laws.FnExactPlanOk", spec := "fnExactPlanOk", apart := false, narrowed := true }
def FnExactPlanOkUptoSaid : Prop := fnExactPlanOkUptoRow.holds Try.pinned (OpenSpec.upto fnExactPlanOkSpec)

/-- 'laws.FnExactPlanSaves', WHERE WHAT IT READS IS OF BULK AT MOST 1048576: true; the input reads as it did. -/
def fnExactPlanSavesUptoRow : OpenClaim := { program := "yteebofhflbjimaa", sum := "17ac75ea4b689ba4b6822309317a8b6c4007717441de7709b430b94cb73604c0", func := "loop.example/g00978/laws.FnExactPlanSaves", spec := "fnExactPlanSaves", apart := false, narrowed := true }
def FnExactPlanSavesUptoSaid : Prop := fnExactPlanSavesUptoRow.holds Try.pinned (OpenSpec.upto fnExactPlanSavesSpec)

/-- 'laws.FnExactJobOk', WHERE WHAT IT READS IS OF BULK AT MOST 1048576: true; the input reads as it did. -/
def fnExactJobOkUptoRow : OpenClaim := { program := "yteebofhflbjimaa", sum := "17ac75ea4b689ba4b6822309317a8b6c4007717441de7709b430b94cb73604c0", func := "loop.example/g00978/laws.FnExactJobOk", spec := "fnExactJobOk", apart := false, narrowed := true }
def FnExactJobOkUptoSaid : Prop := fnExactJobOkUptoRow.holds Try.pinned (OpenSpec.upto fnExactJobOkSpec)

/-- 'laws.FnExactJobActive', WHERE WHAT IT READS IS OF BULK AT MOST 1048576: true; the input reads as it did. -/
def fnExactJobActiveUptoRow : OpenClaim := { program := "yteebofhflbjimaa", sum := "17ac75ea4b689ba4b6822309317a8b6c4007717441de7709b430b94cb73604c0", func := "loop.example/g00978/laws.FnExactJobActive", spec := "fnExactJobActive", apart := false, narrowed := true }
def FnExactJobActiveUptoSaid : Prop := fnExactJobActiveUptoRow.holds Try.pinned (OpenSpec.upto fnExactJobActiveSpec)

/-- 'laws.FnExactMergedText', WHERE WHAT IT READS IS OF BULK AT MOST 1048576: true; the input reads as it did. -/
def fnExactMergedTextUptoRow : OpenClaim := { program := "yteebofhflbjimaa", sum := "17ac75ea4b689ba4b6822309317a8b6c4007717441de7709b430b94cb73604c0", func := "loop.example/g00978/laws.FnExactMergedText", spec := "fnExactMergedText", apart := false, narrowed := true }
def FnExactMergedTextUptoSaid : Prop := fnExactMergedTextUptoRow.holds Try.pinned (OpenSpec.upto fnExactMergedTextSpec)

/-- 'laws.FnExactJobNew', WHERE WHAT IT READS IS OF BULK AT MOST 1048576: true; the input reads as it did. -/
def fnExactJobNewUptoRow : OpenClaim := { program := "yteebofhflbjimaa", sum := "17ac75ea4b689ba4b6822309317a8b6c4007717441de7709b430b94cb73604c0", func := "loop.example/g00978/laws.FnExactJobNew", spec := "fnExactJobNew", apart := false, narrowed := true }
def FnExactJobNewUptoSaid : Prop := fnExactJobNewUptoRow.holds Try.pinned (OpenSpec.upto fnExactJobNewSpec)

/-- 'laws.FnExactSlotClear', WHERE WHAT IT READS IS OF BULK AT MOST 1048576: true; the input reads as it did. -/
def fnExactSlotClearUptoRow : OpenClaim := { program := "yteebofhflbjimaa", sum := "17ac75ea4b689ba4b6822309317a8b6c4007717441de7709b430b94cb73604c0", func := "loop.example/g00978/laws.FnExactSlotClear", spec := "fnExactSlotClear", apart := false, narrowed := true }
def FnExactSlotClearUptoSaid : Prop := fnExactSlotClearUptoRow.holds Try.pinned (OpenSpec.upto fnExactSlotClearSpec)

/-- 'laws.FnExactKUnmap', WHERE WHAT IT READS IS OF BULK AT MOST 1048576: true; the input reads as it did. -/
def fnExactKUnmapUptoRow : OpenClaim := { program := "yteebofhflbjimaa", sum := "17ac75ea4b689ba4b6822309317a8b6c4007717441de7709b430b94cb73604c0", func := "loop.example/g00978/laws.FnExactKUnmap", spec := "fnExactKUnmap", apart := false, narrowed := true }
def FnExactKUnmapUptoSaid : Prop := fnExactKUnmapUptoRow.holds Try.pinned (OpenSpec.upto fnExactKUnmapSpec)

/-- 'laws.FnExactKCopy', WHERE WHAT IT READS IS OF BULK AT MOST 1048576: true; the input reads as it did. -/
def fnExactKCopyUptoRow : OpenClaim := { program := "yteebofhflbjimaa", sum := "17ac75ea4b689ba4b6822309317a8b6c4007717441de7709b430b94cb73604c0", func := "loop.example/g00978/laws.FnExactKCopy", spec := "fnExactKCopy", apart := false, narrowed := true }
def FnExactKCopyUptoSaid : Prop := fnExactKCopyUptoRow.holds Try.pinned (OpenSpec.upto fnExactKCopySpec)

/-- 'laws.FnExactKProtect', WHERE WHAT IT READS IS OF BULK AT MOST 1048576: true; the input reads as it did. -/
def fnExactKProtectUptoRow : OpenClaim := { program := "yteebofhflbjimaa", sum := "17ac75ea4b689ba4b6822309317a8b6c4007717441de7709b430b94cb73604c0", func := "loop.example/g00978/laws.FnExactKProtect", spec := "fnExactKProtect", apart := false, narrowed := true }
def FnExactKProtectUptoSaid : Prop := fnExactKProtectUptoRow.holds Try.pinned (OpenSpec.upto fnExactKProtectSpec)

/-- 'laws.FnExactKMapOn', WHERE WHAT IT READS IS OF BULK AT MOST 1048576: true; the input reads as it did. -/
def fnExactKMapOnUptoRow : OpenClaim := { program := "yteebofhflbjimaa", sum := "17ac75ea4b689ba4b6822309317a8b6c4007717441de7709b430b94cb73604c0", func := "loop.example/g00978/laws.FnExactKMapOn", spec := "fnExactKMapOn", apart := false, narrowed := true }
def FnExactKMapOnUptoSaid : Prop := fnExactKMapOnUptoRow.holds Try.pinned (OpenSpec.upto fnExactKMapOnSpec)

/-- 'laws.FnExactKMapNew', WHERE WHAT IT READS IS OF BULK AT MOST 1048576: true; the input reads as it did. -/
def fnExactKMapNewUptoRow : OpenClaim := { program := "yteebofhflbjimaa", sum := "17ac75ea4b689ba4b6822309317a8b6c4007717441de7709b430b94cb73604c0", func := "loop.example/g00978/laws.FnExactKMapNew", spec := "fnExactKMapNew", apart := false, narrowed := true }
def FnExactKMapNewUptoSaid : Prop := fnExactKMapNewUptoRow.holds Try.pinned (OpenSpec.upto fnExactKMapNewSpec)

end Rows
end Go.Proofs.Yteebofhflbjimaa
