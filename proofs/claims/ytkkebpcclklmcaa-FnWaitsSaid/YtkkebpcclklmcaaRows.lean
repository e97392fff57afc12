/-
  No cell of these rows narrows 'for every input' (looked for: loops, veiled, ifaces, maps, wideKeys, modest, calm, conditions, laid).
  DERIVED. THE GIVEN ROWS OF THIS SEAT. 5 by the template 'for every input the law returns true; each argument reads behind the call as it read before'; 0 by the template 'total and deterministic' (their statements: YtkkebpcclklmcaaTotals.lean).
  GIVEN WITH THE SEED: the statements are not yours to turn. If you find one false, say at which input.
  Laid BY PROGRAM, IN A SANDBOX (cutbox-rows.mjs): the forced cells as the released guide's own fill.sh prints them over the translation 89b5f0c64c44a8af… (all of the seat's roots in one cut). By AI agents, Wed Nov 11 2026. No macro, syntax, notation, axiom, sorry.
-/
import Derived.Test.YtkkebpcclklmcaaChecked
import GoSem.Claim
import GoSem.ClaimJoined
import GoSem.ClaimMapViews
import Derived.JoinedTies
import Derived.KernelRfl
namespace Go.Proofs.Ytkkebpcclklmcaa
/- THE CELL 'sum', in the pinned program and in every row, IS THE sha256 OF THE DUMP (.gsa) THAT YtkkebpcclklmcaaProg.lean LOADS. Nothing in Lean hashes anything: it is a label: what it is worth is what the hold of that sum in a sandbox is worth. -/
noncomputable def Try.pinned : Pinned := { name := "ytkkebpcclklmcaa", sum := "89b5f0c64c44a8af45122ed9da4ba8223de789719ebc1b7294a5a3ebc0dcfc10", checked := Try.checked }
namespace Rows
def none {H : Type} : Left H := { results := [], args := [] }

/-- 'laws.FnJobVisible': WHATEVER THE INPUT: true; the input reads as it did. -/
def fnJobVisibleSpec : ChangeSpec := { name := "fnJobVisible", fn := fun _ => fun
  | [d] => { results := [.lit (.bool true)], args := [d] }
  | _ => none }
def fnJobVisibleRow : OpenClaim := { program := "ytkkebpcclklmcaa", sum := "89b5f0c64c44a8af45122ed9da4ba8223de789719ebc1b7294a5a3ebc0dcfc10", func := "loop.example/g00978/laws.FnJobVisible", spec := "fnJobVisible", apart := false }
def FnJobVisibleSaid : Prop := fnJobVisibleRow.holds Try.pinned (OpenSpec.ofChange fnJobVisibleSpec)

/-- ITS FALSE NEIGHBOUR: 'it returns false'. Refute it at one input. -/
def fnJobVisibleWrong : ChangeSpec := { name := "fnJobVisible", fn := fun _ => fun
  | [d] => { results := [.lit (.bool false)], args := [d] }
  | _ => none }
def FnJobVisibleWrongFalsely : Prop := fnJobVisibleRow.holds Try.pinned (OpenSpec.ofChange fnJobVisibleWrong)

/-- 'laws.FnJobs': WHATEVER THE INPUT: true; the input reads as it did. -/
def fnJobsSpec : ChangeSpec := { name := "fnJobs", fn := fun _ => fun
  | [d] => { results := [.lit (.bool true)], args := [d] }
  | _ => none }
def fnJobsRow : OpenClaim := { program := "ytkkebpcclklmcaa", sum := "89b5f0c64c44a8af45122ed9da4ba8223de789719ebc1b7294a5a3ebc0dcfc10", func := "loop.example/g00978/laws.FnJobs", spec := "fnJobs", apart := false }
def FnJobsSaid : Prop := fnJobsRow.holds Try.pinned (OpenSpec.ofChange fnJobsSpec)

/-- ITS FALSE NEIGHBOUR: 'it returns false'. Refute it at one input. -/
def fnJobsWrong : ChangeSpec := { name := "fnJobs", fn := fun _ => fun
  | [d] => { results := [.lit (.bool false)], args := [d] }
  | _ => none }
def FnJobsWrongFalsely : Prop := fnJobsRow.holds Try.pinned (OpenSpec.ofChange fnJobsWrong)

/-- 'laws.FnJobParts': WHATEVER THE INPUT: true; the input reads as it did. -/
def fnJobPartsSpec : ChangeSpec := { name := "fnJobParts", fn := fun _ => fun
  | [d] => { results := [.lit (.bool true)], args := [d] }
  | _ => none }
def fnJobPartsRow : OpenClaim := { program := "ytkkebpcclklmcaa", sum := "89b5f0c64c44a8af45122ed9da4ba8223de789719ebc1b7294a5a3ebc0dcfc10", func := "loop.example/g00978/laws.FnJobParts", spec := "fnJobParts", apart := false }
def FnJobPartsSaid : Prop := fnJobPartsRow.holds Try.pinned (OpenSpec.ofChange fnJobPartsSpec)

/-- ITS FALSE NEIGHBOUR: 'it returns false'. Refute it at one input. -/
def fnJobPartsWrong : ChangeSpec := { name := "fnJobParts", fn := fun _ => fun
  | [d] => { results := [.lit (.bool false)], args := [d] }
  | _ => none }
def FnJobPartsWrongFalsely : Prop := fnJobPartsRow.holds Try.pinned (OpenSpec.ofChange fnJobPartsWrong)

/-- 'laws.FnWriters': WHATEVER THE INPUT: true; the input reads as it did. -/
def fnWritersSpec : ChangeSpec := { name := "fnWriters", fn := fun _ => fun
  | [d] => { results := [.lit (.bool true)], args := [d] }
  | _ => none }
def fnWritersRow : OpenClaim := { program := "ytkkebpcclklmcaa", sum := "89b5f0c64c44a8af45122ed9da4ba8223de789719ebc1b7294a5a3ebc0dcfc10", func := "loop.example/g00978/laws.FnWriters", spec := "fnWriters", apart := false }
def FnWritersSaid : Prop := fnWritersRow.holds Try.pinned (OpenSpec.ofChange fnWritersSpec)

/-- ITS FALSE NEIGHBOUR: 'it returns false'. Refute it at one input. -/
def fnWritersWrong : ChangeSpec := { name := "fnWriters", fn := fun _ => fun
  | [d] => { results := [.lit (.bool false)], args := [d] }
  | _ => none }
def FnWritersWrongFalsely : Prop := fnWritersRow.holds Try.pinned (OpenSpec.ofChange fnWritersWrong)

/-- 'laws.FnWaits': WHATEVER THE INPUT: true; the input reads as it did. -/
def fnWaitsSpec : ChangeSpec := { name := "fnWaits", fn := fun _ => fun
  | [d] => { results := [.lit (.bool true)], args := [d] }
  | _ => none }
def fnWaitsRow : OpenClaim := { program := "ytkkebpcclklmcaa", sum := "89b5f0c64c44a8af45122ed9da4ba8223de789719ebc1b7294a5a3ebc0dcfc10", func := "loop.example/g00978/laws.FnWaits", spec := "fnWaits", apart := false }
def FnWaitsSaid : Prop := fnWaitsRow.holds Try.pinned (OpenSpec.ofChange fnWaitsSpec)

/-- ITS FALSE NEIGHBOUR: 'it returns false'. Refute it at one input. -/
def fnWaitsWrong : ChangeSpec := { name := "fnWaits", fn := fun _ => fun
  | [d] => { results := [.lit (.bool false)], args := [d] }
  | _ => none }
def FnWaitsWrongFalsely : Prop := fnWaitsRow.holds Try.pinned (OpenSpec.ofChange fnWaitsWrong)

/- THE SECOND FORM. 'bulk': how many values and letters a reading holds, each counted each time it is reached (what is shared counts as often as it is met; a slice's spare places count too). A statement '..UptoSaid' is the law's where the arguments, and the package variables that the reading takes, are together of bulk at most 1048576: NARROWER than '..Said'. Prove '..Said' where nothing that the law and all that it calls make is longer than what came in: it says more and counts as full. Else prove '..UptoSaid'. A law counts once. -/
mutual
def uptoBulk {H : Type} : DataW H → Nat
  | .lit (.string bytes) => bytes.length + 1
  | .lit _ => 1
  | .nil => 1
  | .ptr d => uptoBulk d + 1
  | .slice elems spare => uptoBulkAll elems + uptoBulkAll spare + 1
  | .agg parts => uptoBulkAll parts + 1
  | .iface _ d => uptoBulk d + 1
  | .map entries => uptoBulkEntries entries + 1
  | .held _ => 1
def uptoBulkAll {H : Type} : List (DataW H) → Nat
  | [] => 0
  | d :: r => uptoBulk d + uptoBulkAll r
def uptoBulkEntries {H : Type} : List (Lit × DataW H) → Nat
  | [] => 0
  | x :: r => uptoBulkEntry x + uptoBulkEntries r
def uptoBulkEntry {H : Type} : Lit × DataW H → Nat
  | (.string bytes, d) => bytes.length + uptoBulk d + 1
  | (_, d) => uptoBulk d + 1
 end
def uptoSmall : (H : Type) → List (DataW H) → Bool := fun _ ds => decide (uptoBulkAll ds ≤ 1048576)
def OpenSpec.upto (s : _root_.Go.ChangeSpec) : _root_.Go.OpenSpec := { _root_.Go.OpenSpec.ofChange s with cond := some uptoSmall }

/-- 'laws.FnJobVisible', WHERE WHAT IT READS IS OF BULK AT MOST 1048576: true; the input reads as it did. -/
def fnJobVisibleUptoRow : OpenClaim := { program := "ytkkebpcclklmcaa", sum := "89b5f0c64c44a8af45122ed9da4ba8223de789719ebc1b7294a5a3ebc0dcfc10", func := "loop.example/g00978/laws.FnJobVisible", spec := "fnJobVisible", apart := false, narrowed := true }
def FnJobVisibleUptoSaid : Prop := fnJobVisibleUptoRow.holds Try.pinned (OpenSpec.upto fnJobVisibleSpec)

/-- 'laws.FnJobs', WHERE WHAT IT READS IS OF BULK AT MOST 1048576: true; the input reads as it did. -/
def fnJobsUptoRow : OpenClaim := { program := "ytkkebpcclklmcaa", sum := "89b5f0c64c44a8af45122ed9da4ba8223de789719ebc1b7294a5a3ebc0dcfc10", func := "loop.example/g00978/laws.FnJobs", spec := "fnJobs", apart := false, narrowed := true }
def FnJobsUptoSaid : Prop := fnJobsUptoRow.holds Try.pinned (OpenSpec.upto fnJobsSpec)

/-- 'laws.FnJobParts', WHERE WHAT IT READS IS OF BULK AT MOST 1048576: true; the input reads as it did. -/
def fnJobPartsUptoRow : OpenClaim := { program := "ytkkebpcclklmcaa", sum := "89b5f0c64c44a8af45122ed9da4ba8223de789719ebc1b7294a5a3ebc0dcfc10", func := "loop.example/g00978/laws.FnJobParts", spec := "fnJobParts", apart := false, narrowed := true }
def FnJobPartsUptoSaid : Prop := fnJobPartsUptoRow.holds Try.pinned (OpenSpec.upto fnJobPartsSpec)

/-- 'laws.FnWriters', WHERE WHAT IT READS IS OF BULK AT MOST 1048576: true; the input reads as it did. -/
def fnWritersUptoRow : OpenClaim := { program := "ytkkebpcclklmcaa", sum := "89b5f0c64c44a8af45122ed9da4ba8223de789719ebc1b7294a5a3ebc0dcfc10", func := "loop.example/g00978/laws.FnWriters", spec := "fnWriters", apart := false, narrowed := true }
def FnWritersUptoSaid : Prop := fnWritersUptoRow.holds Try.pinned (OpenSpec.upto fnWritersSpec)

/-- 'laws.FnWaits', WHERE WHAT IT READS IS OF BULK AT MOST 1048576: true; the input reads as it did. -/
def fnWaitsUptoRow : OpenClaim := { program := "ytkkebpcclklmcaa", sum := "89b5f0c64c44a8af45122ed9da4ba8223de789719ebc1b7294a5a3ebc0dcfc10", func := "loop.example/g00978/laws.FnWaits", spec := "fnWaits", apart := false, narrowed := true }
def FnWaitsUptoSaid : Prop := fnWaitsUptoRow.holds Try.pinned (OpenSpec.upto fnWaitsSpec)

end Rows
end Go.Proofs.Ytkkebpcclklmcaa
