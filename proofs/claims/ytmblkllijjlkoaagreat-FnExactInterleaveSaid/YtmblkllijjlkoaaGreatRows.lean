/-
  No cell of these rows narrows 'for every input' (looked for: loops, veiled, ifaces, maps, wideKeys, modest, calm, conditions, laid).
  DERIVED. THE GIVEN ROWS OF THIS SEAT. 5 by the template 'for every input the law returns true; each argument reads behind the call as it read before'; 0 by the template 'total and deterministic' (their statements: YtmblkllijjlkoaaGreatTotals.lean).
  GIVEN WITH THE SEED: the statements are not yours to turn. If you find one false, say at which input.
  Laid BY PROGRAM, IN A SANDBOX (cutbox-rows.mjs): the forced cells as the released guide's own fill.sh prints them over the translation 558582b2508a0f31… (all of the seat's roots in one cut). By AI agents, Wed Nov 11 2026. No macro, syntax, notation, axiom, sorry.
-/
import Derived.Test.YtmblkllijjlkoaaGreatChecked
import GoSem.Claim
import GoSem.ClaimJoined
import GoSem.ClaimMapViews
import Derived.JoinedTies
import Derived.KernelRfl
namespace Go.Proofs.YtmblkllijjlkoaaGreat
/- THE CELL 'sum', in the pinned program and in every row, IS THE sha256 OF THE DUMP (.gsa) THAT YtmblkllijjlkoaaGreatProg.lean LOADS. Nothing in Lean hashes anything: it is a label: what it is worth is what the hold of that sum in a sandbox is worth. -/
noncomputable def Tryz.pinned : Pinned := { name := "ytmblkllijjlkoaagreat", sum := "558582b2508a0f31773ab79852849c7d072fa0e4e41ec19f3ec37d76b1f83005", checked := Tryz.checked }
namespace Rows
def none {H : Type} : Left H := { results := [], args := [] }

/-- 'laws.FnExactLateApply': WHATEVER THE INPUT: true; the input reads as it did. -/
def fnExactLateApplySpec : ChangeSpec := { name := "fnExactLateApply", fn := fun _ => fun
  | [d1, d2, d3] => { results := [.lit (.bool true)], args := [d1, d2, d3] }
  | _ => none }
def fnExactLateApplyRow : OpenClaim := { program := "ytmblkllijjlkoaagreat", sum := "558582b2508a0f31773ab79852849c7d072fa0e4e41ec19f3ec37d76b1f83005", func := "loop.example/g00978/laws.FnExactLateApply", spec := "fnExactLateApply", apart := false }
def FnExactLateApplySaid : Prop := fnExactLateApplyRow.holds Tryz.pinned (OpenSpec.ofChange fnExactLateApplySpec)

/-- ITS FALSE NEIGHBOUR: 'it returns false'. Refute it at one input. -/
def fnExactLateApplyWrong : ChangeSpec := { name := "fnExactLateApply", fn := fun _ => fun
  | [d1, d2, d3] => { results := [.lit (.bool false)], args := [d1, d2, d3] }
  | _ => none }
def FnExactLateApplyWrongFalsely : Prop := fnExactLateApplyRow.holds Tryz.pinned (OpenSpec.ofChange fnExactLateApplyWrong)

/-- 'laws.FnExactJobStep': WHATEVER THE INPUT: true; the input reads as it did. -/
def fnExactJobStepSpec : ChangeSpec := { name := "fnExactJobStep", fn := fun _ => fun
  | [d1, d2] => { results := [.lit (.bool true)], args := [d1, d2] }
  | _ => none }
def fnExactJobStepRow : OpenClaim := { program := "ytmblkllijjlkoaagreat", sum := "558582b2508a0f31773ab79852849c7d072fa0e4e41ec19f3ec37d76b1f83005", func := "loop.example/g00978/laws.FnExactJobStep", spec := "fnExactJobStep", apart := false }
def FnExactJobStepSaid : Prop := fnExactJobStepRow.holds Tryz.pinned (OpenSpec.ofChange fnExactJobStepSpec)

/-- ITS FALSE NEIGHBOUR: 'it returns false'. Refute it at one input. -/
def fnExactJobStepWrong : ChangeSpec := { name := "fnExactJobStep", fn := fun _ => fun
  | [d1, d2] => { results := [.lit (.bool false)], args := [d1, d2] }
  | _ => none }
def FnExactJobStepWrongFalsely : Prop := fnExactJobStepRow.holds Tryz.pinned (OpenSpec.ofChange fnExactJobStepWrong)

/-- 'laws.FnExactJobRun': WHATEVER THE INPUT: true; the input reads as it did. -/
def fnExactJobRunSpec : ChangeSpec := { name := "fnExactJobRun", fn := fun _ => fun
  | [d1, d2, d3] => { results := [.lit (.bool true)], args := [d1, d2, d3] }
  | _ => none }
def fnExactJobRunRow : OpenClaim := { program := "ytmblkllijjlkoaagreat", sum := "558582b2508a0f31773ab79852849c7d072fa0e4e41ec19f3ec37d76b1f83005", func := "loop.example/g00978/laws.FnExactJobRun", spec := "fnExactJobRun", apart := false }
def FnExactJobRunSaid : Prop := fnExactJobRunRow.holds Tryz.pinned (OpenSpec.ofChange fnExactJobRunSpec)

/-- ITS FALSE NEIGHBOUR: 'it returns false'. Refute it at one input. -/
def fnExactJobRunWrong : ChangeSpec := { name := "fnExactJobRun", fn := fun _ => fun
  | [d1, d2, d3] => { results := [.lit (.bool false)], args := [d1, d2, d3] }
  | _ => none }
def FnExactJobRunWrongFalsely : Prop := fnExactJobRunRow.holds Tryz.pinned (OpenSpec.ofChange fnExactJobRunWrong)

/-- 'laws.FnExactInterleave': WHATEVER THE INPUT: true; the input reads as it did. -/
def fnExactInterleaveSpec : ChangeSpec := { name := "fnExactInterleave", fn := fun _ => fun
  | [d1, d2, d3, d4] => { results := [.lit (.bool true)], args := [d1, d2, d3, d4] }
  | _ => none }
def fnExactInterleaveRow : OpenClaim := { program := "ytmblkllijjlkoaagreat", sum := "558582b2508a0f31773ab79852849c7d072fa0e4e41ec19f3ec37d76b1f83005", func := "loop.example/g00978/laws.FnExactInterleave", spec := "fnExactInterleave", apart := false }
def FnExactInterleaveSaid : Prop := fnExactInterleaveRow.holds Tryz.pinned (OpenSpec.ofChange fnExactInterleaveSpec)

/-- ITS FALSE NEIGHBOUR: 'it returns false'. Refute it at one input. -/
def fnExactInterleaveWrong : ChangeSpec := { name := "fnExactInterleave", fn := fun _ => fun
  | [d1, d2, d3, d4] => { results := [.lit (.bool false)], args := [d1, d2, d3, d4] }
  | _ => none }
def FnExactInterleaveWrongFalsely : Prop := fnExactInterleaveRow.holds Tryz.pinned (OpenSpec.ofChange fnExactInterleaveWrong)

/-- 'laws.FnExactFinish': WHATEVER THE INPUT: true; the input reads as it did. -/
def fnExactFinishSpec : ChangeSpec := { name := "fnExactFinish", fn := fun _ => fun
  | [d1, d2, d3] => { results := [.lit (.bool true)], args := [d1, d2, d3] }
  | _ => none }
def fnExactFinishRow : OpenClaim := { program := "ytmblkllijjlkoaagreat", sum := "558582b2508a0f31773ab79852849c7d072fa0e4e41ec19f3ec37d76b1f83005", func := "loop.example/g00978/laws.FnExactFinish", spec := "fnExactFinish", apart := false }
def FnExactFinishSaid : Prop := fnExactFinishRow.holds Tryz.pinned (OpenSpec.ofChange fnExactFinishSpec)

/-- ITS FALSE NEIGHBOUR: 'it returns false'. Refute it at one input. -/
def fnExactFinishWrong : ChangeSpec := { name := "fnExactFinish", fn := fun _ => fun
  | [d1, d2, d3] => { results := [.lit (.bool false)], args := [d1, d2, d3] }
  | _ => none }
def FnExactFinishWrongFalsely : Prop := fnExactFinishRow.holds Tryz.pinned (OpenSpec.ofChange fnExactFinishWrong)

/- THE SECOND FORM. 'bulk': how many values and letters a reading holds, each counted each time it is reached (what is shared counts as often as it is met; a slice's spare places count too). A statement '..UptoSaid' is the law's where the arguments, and the package variables that the reading takes, are together of bulk at most 1048576: NARROWER than '..Said'. Prove '..Said' where nothing that the law and all that it calls make is longer than what came in: it says more and counts as full. Else prove '..UptoSaid'. A law counts once. -/
mutual
def uptoBulk {H : Type} : DataW H → Nat
  | .lit (.string bytes) => bytes.length + 1
  | .lit _ => 1
  | .nil => 1
  | .ptr d => uptoBulk d + 1
  | .slice elems spare => uptoBulkAll elems + uptoBulkAll spare + 1
  | .agg parts => uptoBulkAll parts + 1
  | .iface _ d => uptoBulk d + 1
  | .map entries => uptoBulkEntries entries + 1
  | .held _ => 1
def uptoBulkAll {H : Type} : List (DataW H) → Nat
  | [] => 0
  | d :: r => uptoBulk d + uptoBulkAll r
def uptoBulkEntries {H : Type} : List (Lit × DataW H) → Nat
  | [] => 0
  | x :: r => uptoBulkEntry x + uptoBulkEntries r
def uptoBulkEntry {H : Type} : Lit × DataW H → Nat
  | (.string bytes, d) => bytes.length + uptoBulk d + 1
  | (_, d) => uptoBulk d + 1
 end
def uptoSmall : (H : Type) → List (DataW H) → Bool := fun _ ds => decide (uptoBulkAll ds ≤ 1048576)
def OpenSpec.upto (s : _root_.Go.ChangeSpec) : _root_.Go.OpenSpec := { _root_.Go.OpenSpec.ofChange s with cond := some uptoSmall }

/-- 'laws.FnExactLateApply', WHERE WHAT IT READS IS OF BULK AT MOST 1048576: true; the input reads as it did. -/
def fnExactLateApplyUptoRow : OpenClaim := { program := "ytmblkllijjlkoaagreat", sum := "558582b2508a0f31773ab79852849c7d072fa0e4e41ec19f3ec37d76b1f83005", func := "loop.example/g00978/laws.FnExactLateApply", spec := "fnExactLateApply", apart := false, narrowed := true }
def FnExactLateApplyUptoSaid : Prop := fnExactLateApplyUptoRow.holds Tryz.pinned (OpenSpec.upto fnExactLateApplySpec)

/-- 'laws.FnExactJobStep', WHERE WHAT IT READS IS OF BULK AT MOST 1048576: true; the input reads as it did. -/
def fnExactJobStepUptoRow : OpenClaim := { program := "ytmblkllijjlkoaagreat", sum := "558582b2508a0f31773ab79852849c7d072fa0e4e41ec19f3ec37d76b1f83005", func := "loop.example/g00978/laws.FnExactJobStep", spec := "fnExactJobStep", apart := false, narrowed := true }
def FnExactJobStepUptoSaid : Prop := fnExactJobStepUptoRow.holds Tryz.pinned (OpenSpec.upto fnExactJobStepSpec)

/-- 'laws.FnExactJobRun', WHERE WHAT IT READS IS OF BULK AT MOST 1048576: true; the input reads as it did. -/
def fnExactJobRunUptoRow : OpenClaim := { program := "ytmblkllijjlkoaagreat", sum := "558582b2508a0f31773ab79852849c7d072fa0e4e41ec19f3ec37d76b1f83005", func := "loop.example/g00978/laws.FnExactJobRun", spec := "fnExactJobRun", apart := false, narrowed := true }
def FnExactJobRunUptoSaid : Prop := fnExactJobRunUptoRow.holds Tryz.pinned (OpenSpec.upto fnExactJobRunSpec)

/-- 'laws.FnExactInterleave', WHERE WHAT IT READS IS OF BULK AT MOST 1048576: true; the input reads as it did. -/
def fnExactInterleaveUptoRow : OpenClaim := { program := "ytmblkllijjlkoaagreat", sum := "558582b2508a0f31773ab79852849c7d072fa0e4e41ec19f3ec37d76b1f83005", func := "loop.example/g00978/laws.FnExactInterleave", spec := "fnExactInterleave", apart := false, narrowed := true }
def FnExactInterleaveUptoSaid : Prop := fnExactInterleaveUptoRow.holds Tryz.pinned (OpenSpec.upto fnExactInterleaveSpec)

/-- 'laws.FnExactFinish', WHERE WHAT IT READS IS OF BULK AT MOST 1048576: true; the input reads as it did. -/
def fnExactFinishUptoRow : OpenClaim := { program := "ytmblkllijjlkoaagreat", sum := "558582b2508a0f31773ab79852849c7d072fa0e4e41ec19f3ec37d76b1f83005", func := "loop.example/g00978/laws.FnExactFinish", spec := "fnExactFinish", apart := false, narrowed := true }
def FnExactFinishUptoSaid : Prop := fnExactFinishUptoRow.holds Tryz.pinned (OpenSpec.upto fnExactFinishSpec)

end Rows
end Go.Proofs.YtmblkllijjlkoaaGreat
