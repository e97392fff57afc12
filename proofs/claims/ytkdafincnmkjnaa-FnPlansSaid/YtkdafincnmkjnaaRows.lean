/-
  No cell of these rows narrows 'for every input' (looked for: loops, veiled, ifaces, maps, wideKeys, modest, calm, conditions, laid).
  DERIVED. THE GIVEN ROWS OF THIS SEAT. 12 by the template 'for every input the law returns true; each argument reads behind the call as it read before'; 0 by the template 'total and deterministic' (their statements: YtkdafincnmkjnaaTotals.lean).
  GIVEN WITH THE SEED: the statements are not yours to turn. If you find one false, say at which input.
  Laid BY PROGRAM, IN A SANDBOX (cutbox-rows.mjs): the forced cells as the released guide's own fill.sh prints them over the translation f1f76c3ecdb531bc… (all of the seat's roots in one cut). By AI agents, Wed Nov 11 2026. No macro, syntax, notation, axiom, sorry.
-/
import Derived.Test.YtkdafincnmkjnaaChecked
import GoSem.Claim
import GoSem.ClaimJoined
import GoSem.ClaimMapViews
import Derived.JoinedTies
import Derived.KernelRfl
namespace Go.Proofs.Ytkdafincnmkjnaa
/- THE CELL 'sum', in the pinned program and in every row, IS THE sha256 OF THE DUMP (.gsa) THAT YtkdafincnmkjnaaProg.lean LOADS. Nothing in Lean hashes anything: it is a label: what it is worth is what the hold of that sum in a sandbox is worth. -/
noncomputable def Try.pinned : Pinned := { name := "ytkdafincnmkjnaa", sum := "f1f76c3ecdb531bc1000cb311b6e5f38ef16a6002eb61ab14c26852e8aacfe70", checked := Try.checked }
namespace Rows
def none {H : Type} : Left H := { results := [], args := [] }

/-- 'laws.FnGroups': WHATEVER THE INPUT: true; the input reads as it did. -/
def fnGroupsSpec : ChangeSpec := { name := "fnGroups", fn := fun _ => fun
  | [d] => { results := [.lit (.bool true)], args := [d] }
  | _ => none }
def fnGroupsRow : OpenClaim := { program := "ytkdafincnmkjnaa", sum := "f1f76c3ecdb531bc1000cb311b6e5f38ef16a6002eb61ab14c26852e8aacfe70", func := "loop.example/g00978/laws.FnGroups", spec := "fnGroups", apart := false }
def FnGroupsSaid : Prop := fnGroupsRow.holds Try.pinned (OpenSpec.ofChange fnGroupsSpec)

/-- ITS FALSE NEIGHBOUR: 'it returns false'. Refute it at one input. -/
def fnGroupsWrong : ChangeSpec := { name := "fnGroups", fn := fun _ => fun
  | [d] => { results := [.lit (.bool false)], args := [d] }
  | _ => none }
def FnGroupsWrongFalsely : Prop := fnGroupsRow.holds Try.pinned (OpenSpec.ofChange fnGroupsWrong)

/-- 'laws.FnExactBestPairs': WHATEVER THE INPUT: true; the input reads as it did. -/
def fnExactBestPairsSpec : ChangeSpec := { name := "fnExactBestPairs", fn := fun _ => fun
  | [d] => { results := [.lit (.bool true)], args := [d] }
  | _ => none }
def fnExactBestPairsRow : OpenClaim := { program := "ytkdafincnmkjnaa", sum := "f1f76c3ecdb531bc1000cb311b6e5f38ef16a6002eb61ab14c26852e8aacfe70", func := "loop.example/g00978/laws.FnExactBestPairs", spec := "fnExactBestPairs", recurses := true, apart := false }
def FnExactBestPairsSaid : Prop := fnExactBestPairsRow.holds Try.pinned (OpenSpec.ofChange fnExactBestPairsSpec)

/-- ITS FALSE NEIGHBOUR: 'it returns false'. Refute it at one input. -/
def fnExactBestPairsWrong : ChangeSpec := { name := "fnExactBestPairs", fn := fun _ => fun
  | [d] => { results := [.lit (.bool false)], args := [d] }
  | _ => none }
def FnExactBestPairsWrongFalsely : Prop := fnExactBestPairsRow.holds Try.pinned (OpenSpec.ofChange fnExactBestPairsWrong)

/-- 'laws.FnExactPairsOk': WHATEVER THE INPUT: true; the input reads as it did. -/
def fnExactPairsOkSpec : ChangeSpec := { name := "fnExactPairsOk", fn := fun _ => fun
  | [d1, d2] => { results := [.lit (.bool true)], args := [d1, d2] }
  | _ => none }
def fnExactPairsOkRow : OpenClaim := { program := "ytkdafincnmkjnaa", sum := "f1f76c3ecdb531bc1000cb311b6e5f38ef16a6002eb61ab14c26852e8aacfe70", func := "loop.example/g00978/laws.FnExactPairsOk", spec := "fnExactPairsOk", unfollowed := true, recurses := true, apart := false }
def FnExactPairsOkSaid : Prop := fnExactPairsOkRow.holds Try.pinned (OpenSpec.ofChange fnExactPairsOkSpec)

/-- ITS FALSE NEIGHBOUR: 'it returns false'. Refute it at one input. -/
def fnExactPairsOkWrong : ChangeSpec := { name := "fnExactPairsOk", fn := fun _ => fun
  | [d1, d2] => { results := [.lit (.bool false)], args := [d1, d2] }
  | _ => none }
def FnExactPairsOkWrongFalsely : Prop := fnExactPairsOkRow.holds Try.pinned (OpenSpec.ofChange fnExactPairsOkWrong)

/-- 'laws.FnExactGreedyPairs': WHATEVER THE INPUT: true; the input reads as it did. -/
def fnExactGreedyPairsSpec : ChangeSpec := { name := "fnExactGreedyPairs", fn := fun _ => fun
  | [d] => { results := [.lit (.bool true)], args := [d] }
  | _ => none }
def fnExactGreedyPairsRow : OpenClaim := { program := "ytkdafincnmkjnaa", sum := "f1f76c3ecdb531bc1000cb311b6e5f38ef16a6002eb61ab14c26852e8aacfe70", func := "loop.example/g00978/laws.FnExactGreedyPairs", spec := "fnExactGreedyPairs", unfollowed := true, recurses := true, apart := false }
def FnExactGreedyPairsSaid : Prop := fnExactGreedyPairsRow.holds Try.pinned (OpenSpec.ofChange fnExactGreedyPairsSpec)

/-- ITS FALSE NEIGHBOUR: 'it returns false'. Refute it at one input. -/
def fnExactGreedyPairsWrong : ChangeSpec := { name := "fnExactGreedyPairs", fn := fun _ => fun
  | [d] => { results := [.lit (.bool false)], args := [d] }
  | _ => none }
def FnExactGreedyPairsWrongFalsely : Prop := fnExactGreedyPairsRow.holds Try.pinned (OpenSpec.ofChange fnExactGreedyPairsWrong)

/-- 'laws.FnExactSplitPairs': WHATEVER THE INPUT: true; the input reads as it did. -/
def fnExactSplitPairsSpec : ChangeSpec := { name := "fnExactSplitPairs", fn := fun _ => fun
  | [d1, d2, d3] => { results := [.lit (.bool true)], args := [d1, d2, d3] }
  | _ => none }
def fnExactSplitPairsRow : OpenClaim := { program := "ytkdafincnmkjnaa", sum := "f1f76c3ecdb531bc1000cb311b6e5f38ef16a6002eb61ab14c26852e8aacfe70", func := "loop.example/g00978/laws.FnExactSplitPairs", spec := "fnExactSplitPairs", unfollowed := true, recurses := true, apart := false }
def FnExactSplitPairsSaid : Prop := fnExactSplitPairsRow.holds Try.pinned (OpenSpec.ofChange fnExactSplitPairsSpec)

/-- ITS FALSE NEIGHBOUR: 'it returns false'. Refute it at one input. -/
def fnExactSplitPairsWrong : ChangeSpec := { name := "fnExactSplitPairs", fn := fun _ => fun
  | [d1, d2, d3] => { results := [.lit (.bool false)], args := [d1, d2, d3] }
  | _ => none }
def FnExactSplitPairsWrongFalsely : Prop := fnExactSplitPairsRow.holds Try.pinned (OpenSpec.ofChange fnExactSplitPairsWrong)

/-- 'laws.FnAllTried': WHATEVER THE INPUT: true; the input reads as it did. -/
def fnAllTriedSpec : ChangeSpec := { name := "fnAllTried", fn := fun _ => fun
  | [d] => { results := [.lit (.bool true)], args := [d] }
  | _ => none }
def fnAllTriedRow : OpenClaim := { program := "ytkdafincnmkjnaa", sum := "f1f76c3ecdb531bc1000cb311b6e5f38ef16a6002eb61ab14c26852e8aacfe70", func := "loop.example/g00978/laws.FnAllTried", spec := "fnAllTried", unfollowed := true, recurses := true, apart := false }
def FnAllTriedSaid : Prop := fnAllTriedRow.holds Try.pinned (OpenSpec.ofChange fnAllTriedSpec)

/-- ITS FALSE NEIGHBOUR: 'it returns false'. Refute it at one input. -/
def fnAllTriedWrong : ChangeSpec := { name := "fnAllTried", fn := fun _ => fun
  | [d] => { results := [.lit (.bool false)], args := [d] }
  | _ => none }
def FnAllTriedWrongFalsely : Prop := fnAllTriedRow.holds Try.pinned (OpenSpec.ofChange fnAllTriedWrong)

/-- 'laws.FnPairs': WHATEVER THE INPUT: true; the input reads as it did. -/
def fnPairsSpec : ChangeSpec := { name := "fnPairs", fn := fun _ => fun
  | [d] => { results := [.lit (.bool true)], args := [d] }
  | _ => none }
def fnPairsRow : OpenClaim := { program := "ytkdafincnmkjnaa", sum := "f1f76c3ecdb531bc1000cb311b6e5f38ef16a6002eb61ab14c26852e8aacfe70", func := "loop.example/g00978/laws.FnPairs", spec := "fnPairs", unfollowed := true, recurses := true, apart := false }
def FnPairsSaid : Prop := fnPairsRow.holds Try.pinned (OpenSpec.ofChange fnPairsSpec)

/-- ITS FALSE NEIGHBOUR: 'it returns false'. Refute it at one input. -/
def fnPairsWrong : ChangeSpec := { name := "fnPairs", fn := fun _ => fun
  | [d] => { results := [.lit (.bool false)], args := [d] }
  | _ => none }
def FnPairsWrongFalsely : Prop := fnPairsRow.holds Try.pinned (OpenSpec.ofChange fnPairsWrong)

/-- 'laws.FnExactPlanPair': WHATEVER THE INPUT: true; the input reads as it did. -/
def fnExactPlanPairSpec : ChangeSpec := { name := "fnExactPlanPair", fn := fun _ => fun
  | [d1, d2] => { results := [.lit (.bool true)], args := [d1, d2] }
  | _ => none }
def fnExactPlanPairRow : OpenClaim := { program := "ytkdafincnmkjnaa", sum := "f1f76c3ecdb531bc1000cb311b6e5f38ef16a6002eb61ab14c26852e8aacfe70", func := "loop.example/g00978/laws.FnExactPlanPair", spec := "fnExactPlanPair", apart := false }
def FnExactPlanPairSaid : Prop := fnExactPlanPairRow.holds Try.pinned (OpenSpec.ofChange fnExactPlanPairSpec)

/-- ITS FALSE NEIGHBOUR: 'it returns false'. Refute it at one input. -/
def fnExactPlanPairWrong : ChangeSpec := { name := "fnExactPlanPair", fn := fun _ => fun
  | [d1, d2] => { results := [.lit (.bool false)], args := [d1, d2] }
  | _ => none }
def FnExactPlanPairWrongFalsely : Prop := fnExactPlanPairRow.holds Try.pinned (OpenSpec.ofChange fnExactPlanPairWrong)

/-- 'laws.FnPlans': WHATEVER THE INPUT: true; the input reads as it did. -/
def fnPlansSpec : ChangeSpec := { name := "fnPlans", fn := fun _ => fun
  | [d] => { results := [.lit (.bool true)], args := [d] }
  | _ => none }
def fnPlansRow : OpenClaim := { program := "ytkdafincnmkjnaa", sum := "f1f76c3ecdb531bc1000cb311b6e5f38ef16a6002eb61ab14c26852e8aacfe70", func := "loop.example/g00978/laws.FnPlans", spec := "fnPlans", apart := false }
def FnPlansSaid : Prop := fnPlansRow.holds Try.pinned (OpenSpec.ofChange fnPlansSpec)

/-- ITS FALSE NEIGHBOUR: 'it returns false'. Refute it at one input. -/
def fnPlansWrong : ChangeSpec := { name := "fnPlans", fn := fun _ => fun
  | [d] => { results := [.lit (.bool false)], args := [d] }
  | _ => none }
def FnPlansWrongFalsely : Prop := fnPlansRow.holds Try.pinned (OpenSpec.ofChange fnPlansWrong)

/-- 'laws.FnExactCacheNew': WHATEVER THE INPUT: true; the input reads as it did. -/
def fnExactCacheNewSpec : ChangeSpec := { name := "fnExactCacheNew", fn := fun _ => fun
  | [] => { results := [.lit (.bool true)], args := [] }
  | _ => none }
def fnExactCacheNewRow : OpenClaim := { program := "ytkdafincnmkjnaa", sum := "f1f76c3ecdb531bc1000cb311b6e5f38ef16a6002eb61ab14c26852e8aacfe70", func := "loop.example/g00978/laws.FnExactCacheNew", spec := "fnExactCacheNew", apart := false }
def FnExactCacheNewSaid : Prop := fnExactCacheNewRow.holds Try.pinned (OpenSpec.ofChange fnExactCacheNewSpec)

/-- ITS FALSE NEIGHBOUR: 'it returns false'. Refute it at one input. -/
def fnExactCacheNewWrong : ChangeSpec := { name := "fnExactCacheNew", fn := fun _ => fun
  | [] => { results := [.lit (.bool false)], args := [] }
  | _ => none }
def FnExactCacheNewWrongFalsely : Prop := fnExactCacheNewRow.holds Try.pinned (OpenSpec.ofChange fnExactCacheNewWrong)

/-- 'laws.FnExactLateAdd': WHATEVER THE INPUT: true; the input reads as it did. -/
def fnExactLateAddSpec : ChangeSpec := { name := "fnExactLateAdd", fn := fun _ => fun
  | [d1, d2] => { results := [.lit (.bool true)], args := [d1, d2] }
  | _ => none }
def fnExactLateAddRow : OpenClaim := { program := "ytkdafincnmkjnaa", sum := "f1f76c3ecdb531bc1000cb311b6e5f38ef16a6002eb61ab14c26852e8aacfe70", func := "loop.example/g00978/laws.FnExactLateAdd", spec := "fnExactLateAdd", apart := false }
def FnExactLateAddSaid : Prop := fnExactLateAddRow.holds Try.pinned (OpenSpec.ofChange fnExactLateAddSpec)

/-- ITS FALSE NEIGHBOUR: 'it returns false'. Refute it at one input. -/
def fnExactLateAddWrong : ChangeSpec := { name := "fnExactLateAdd", fn := fun _ => fun
  | [d1, d2] => { results := [.lit (.bool false)], args := [d1, d2] }
  | _ => none }
def FnExactLateAddWrongFalsely : Prop := fnExactLateAddRow.holds Try.pinned (OpenSpec.ofChange fnExactLateAddWrong)

/-- 'laws.FnExactWaitingWriters': WHATEVER THE INPUT: true; the input reads as it did. -/
def fnExactWaitingWritersSpec : ChangeSpec := { name := "fnExactWaitingWriters", fn := fun _ => fun
  | [d] => { results := [.lit (.bool true)], args := [d] }
  | _ => none }
def fnExactWaitingWritersRow : OpenClaim := { program := "ytkdafincnmkjnaa", sum := "f1f76c3ecdb531bc1000cb311b6e5f38ef16a6002eb61ab14c26852e8aacfe70", func := "loop.example/g00978/laws.FnExactWaitingWriters", spec := "fnExactWaitingWriters", apart := false }
def FnExactWaitingWritersSaid : Prop := fnExactWaitingWritersRow.holds Try.pinned (OpenSpec.ofChange fnExactWaitingWritersSpec)

/-- ITS FALSE NEIGHBOUR: 'it returns false'. Refute it at one input. -/
def fnExactWaitingWritersWrong : ChangeSpec := { name := "fnExactWaitingWriters", fn := fun _ => fun
  | [d] => { results := [.lit (.bool false)], args := [d] }
  | _ => none }
def FnExactWaitingWritersWrongFalsely : Prop := fnExactWaitingWritersRow.holds Try.pinned (OpenSpec.ofChange fnExactWaitingWritersWrong)

/- THE SECOND FORM. 'bulk': how many values and letters a reading holds, each counted each time it is reached (what is shared counts as often as it is met; a slice's spare places count too). A statement '..UptoSaid' is the law's where the arguments, and the package variables that the reading takes, are together of bulk at most 1048576: NARROWER than '..Said'. Prove '..Said' where nothing that the law and all that it calls make is longer than what came in: it says more and counts as full. Else prove '..UptoSaid'. A law counts once. -/
mutual
def uptoBulk {H : Type} : DataW H → Nat
  | .lit (.string bytes) => bytes.length + 1
  | .lit _ => 1
  | .nil => 1
  | .ptr d => uptoBulk d + 1
  | .slice elems spare => uptoBulkAll elems + uptoBulkAll spare + 1
  | .agg parts => uptoBulkAll parts + 1
  | .iface _ d => uptoBulk d + 1
  | .map entries => uptoBulkEntries entries + 1
  | .held _ => 1
def uptoBulkAll {H : Type} : List (DataW H) → Nat
  | [] => 0
  | d :: r => uptoBulk d + uptoBulkAll r
def uptoBulkEntries {H : Type} : List (Lit × DataW H) → Nat
  | [] => 0
  | x :: r => uptoBulkEntry x + uptoBulkEntries r
def uptoBulkEntry {H : Type} : Lit × DataW H → Nat
  | (.string bytes, d) => bytes.length + uptoBulk d + 1
  | (_, d) => uptoBulk d + 1
 end
def uptoSmall : (H : Type) → List (DataW H) → Bool := fun _ ds => decide (uptoBulkAll ds ≤ 1048576)
def OpenSpec.upto (s : _root_.Go.ChangeSpec) : _root_.Go.OpenSpec := { _root_.Go.OpenSpec.ofChange s with cond := some uptoSmall }

/-- 'laws.FnGroups', WHERE WHAT IT READS IS OF BULK AT MOST 1048576: true; the input reads as it did. -/
def fnGroupsUptoRow : OpenClaim := { program := "ytkdafincnmkjnaa", sum := "f1f76c3ecdb531bc1000cb311b6e5f38ef16a6002eb61ab14c26852e8aacfe70", func := "loop.example/g00978/laws.FnGroups", spec := "fnGroups", apart := false, narrowed := true }
def FnGroupsUptoSaid : Prop := fnGroupsUptoRow.holds Try.pinned (OpenSpec.upto fnGroupsSpec)

/-- 'laws.FnExactBestPairs', WHERE WHAT IT READS IS OF BULK AT MOST 1048576: true; the input reads as it did. -/
def fnExactBestPairsUptoRow : OpenClaim := { program := "ytkdafincnmkjnaa", sum := "f1f76c3ecdb531bc1000cb311b6e5f38ef16a6002eb61ab14c26852e8aacfe70", func := "loop.example/g00978/laws.FnExactBestPairs", spec := "fnExactBestPairs", recurses := true, apart := false, narrowed := true }
def FnExactBestPairsUptoSaid : Prop := fnExactBestPairsUptoRow.holds Try.pinned (OpenSpec.upto fnExactBestPairsSpec)

/-- 'laws.FnExactPairsOk', WHERE WHAT IT READS IS OF BULK AT MOST 1048576: true; the input reads as it did. -/
def fnExactPairsOkUptoRow : OpenClaim := { program := "ytkdafincnmkjnaa", sum := "f1f76c3ecdb531bc1000cb311b6e5f38ef16a6002eb61ab14c26852e8aacfe70", func := "loop.example/g00978/laws.FnExactPairsOk", spec := "fnExactPairsOk", unfollowed := true, recurses := true, apart := false, narrowed := true }
def FnExactPairsOkUptoSaid : Prop := fnExactPairsOkUptoRow.holds Try.pinned (OpenSpec.upto fnExactPairsOkSpec)

/-- 'laws.FnExactGreedyPairs', WHERE WHAT IT READS IS OF BULK AT MOST 1048576: true; the input reads as it did. -/
def fnExactGreedyPairsUptoRow : OpenClaim := { program := "ytkdafincnmkjnaa", sum := "f1f76c3ecdb531bc1000cb311b6e5f38ef16a6002eb61ab14c26852e8aacfe70", func := "loop.example/g00978/laws.FnExactGreedyPairs", spec := "fnExactGreedyPairs", unfollowed := true, recurses := true, apart := false, narrowed := true }
def FnExactGreedyPairsUptoSaid : Prop := fnExactGreedyPairsUptoRow.holds Try.pinned (OpenSpec.upto fnExactGreedyPairsSpec)

/-- 'laws.FnExactSplitPairs', WHERE WHAT IT READS IS OF BULK AT MOST 1048576: true; the input reads as it did. -/
def fnExactSplitPairsUptoRow : OpenClaim := { program := "ytkdafincnmkjnaa", sum := "f1f76c3ecdb531bc1000cb311b6e5f38ef16a6002eb61ab14c26852e8aacfe70", func := "loop.example/g00978/laws.FnExactSplitPairs", spec := "fnExactSplitPairs", unfollowed := true, recurses := true, apart := false, narrowed := true }
def FnExactSplitPairsUptoSaid : Prop := fnExactSplitPairsUptoRow.holds Try.pinned (OpenSpec.upto fnExactSplitPairsSpec)

/-- 'laws.FnAllTried', WHERE WHAT IT READS IS OF BULK AT MOST 1048576: true; the input reads as it did. -/
def fnAllTriedUptoRow : OpenClaim := { program := "ytkdafincnmkjnaa", sum := "f1f76c3ecdb531bc1000cb311b6e5f38ef16a6002eb61ab14c26852e8aacfe70", func := "loop.example/g00978/laws.FnAllTried", spec := "fnAllTried", unfollowed := true, recurses := true, apart := false, narrowed := true }
def FnAllTriedUptoSaid : Prop := fnAllTriedUptoRow.holds Try.pinned (OpenSpec.upto fnAllTriedSpec)

/-- 'laws.FnPairs', WHERE WHAT IT READS IS OF BULK AT MOST 1048576: true; the input reads as it did. -/
def fnPairsUptoRow : OpenClaim := { program := "ytkdafincnmkjnaa", sum := "f1f76c3ecdb531bc1000cb311b6e5f38ef16a6002eb61ab14c26852e8aacfe70", func := "loop.example/g00978/laws.FnPairs", spec := "fnPairs", unfollowed := true, recurses := true, apart := false, narrowed := true }
def FnPairsUptoSaid : Prop := fnPairsUptoRow.holds Try.pinned (OpenSpec.upto fnPairsSpec)

/-- 'laws.FnExactPlanPair', WHERE WHAT IT READS IS OF BULK AT MOST 1048576: true; the input reads as it did. -/
def fnExactPlanPairUptoRow : OpenClaim := { program := "ytkdafincnmkjnaa", sum := "f1f76c3ecdb531bc1000cb311b6e5f38ef16a6002eb61ab14c26852e8aacfe70", func := "loop.example/g00978/laws.FnExactPlanPair", spec := "fnExactPlanPair", apart := false, narrowed := true }
def FnExactPlanPairUptoSaid : Prop := fnExactPlanPairUptoRow.holds Try.pinned (OpenSpec.upto fnExactPlanPairSpec)

/-- 'laws.FnPlans', WHERE WHAT IT READS IS OF BULK AT MOST 1048576: true; the input reads as it did. -/
def fnPlansUptoRow : OpenClaim := { program := "ytkdafincnmkjnaa", sum := "f1f76c3ecdb531bc1000cb311b6e5f38ef16a6002eb61ab14c26852e8aacfe70", func := "loop.example/g00978/laws.FnPlans", spec := "fnPlans", apart := false, narrowed := true }
def FnPlansUptoSaid : Prop := fnPlansUptoRow.holds Try.pinned (OpenSpec.upto fnPlansSpec)

/-- 'laws.FnExactCacheNew', WHERE WHAT IT READS IS OF BULK AT MOST 1048576: true; the input reads as it did. -/
def fnExactCacheNewUptoRow : OpenClaim := { program := "ytkdafincnmkjnaa", sum := "f1f76c3ecdb531bc1000cb311b6e5f38ef16a6002eb61ab14c26852e8aacfe70", func := "loop.example/g00978/laws.FnExactCacheNew", spec := "fnExactCacheNew", apart := false, narrowed := true }
def FnExactCacheNewUptoSaid : Prop := fnExactCacheNewUptoRow.holds Try.pinned (OpenSpec.upto fnExactCacheNewSpec)

/-- 'laws.FnExactLateAdd', WHERE WHAT IT READS IS OF BULK AT MOST 1048576: true; the input reads as it did. -/
def fnExactLateAddUptoRow : OpenClaim := { program := "ytkdafincnmkjnaa", sum := "f1f76c3ecdb531bc1000cb311b6e5f38ef16a6002eb61ab14c26852e8aacfe70", func := "loop.example/g00978/laws.FnExactLateAdd", spec := "fnExactLateAdd", apart := false, narrowed := true }
def FnExactLateAddUptoSaid : Prop := fnExactLateAddUptoRow.holds Try.pinned (OpenSpec.upto fnExactLateAddSpec)

/-- 'laws.FnExactWaitingWriters', WHERE WHAT IT READS IS OF BULK AT MOST 1048576: true; the input reads as it did. -/
def fnExactWaitingWritersUptoRow : OpenClaim := { program := "ytkdafincnmkjnaa", sum := "f1f76c3ecdb531bc1000cb311b6e5f38ef16a6002eb61ab14c26852e8aacfe70", func := "loop.example/g00978/laws.FnExactWaitingWriters", spec := "fnExactWaitingWriters", apart := false, narrowed := true }
def FnExactWaitingWritersUptoSaid : Prop := fnExactWaitingWritersUptoRow.holds Try.pinned (OpenSpec.upto fnExactWaitingWritersSpec)

end Rows
end Go.Proofs.Ytkdafincnmkjnaa
