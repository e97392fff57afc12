/-
  What the functions on frames, tables, machines and kernels compute: plain functions on lists.
-/
import Derived.Test.YtmblkllijjlkoaaGreatKDef
set_option linter.unusedVariables false
set_option linter.unusedSimpArgs false
namespace Go.Proofs.YtmblkllijjlkoaaGreat
def rowOk (r : List Int) (u : Bool) : Bool := (r.length == 16) && allTo (fun j => between (r.getD j 0) 0 999 && (r.getD j 0 == 0 || u)) 16
def framesOk (F : Frm) : Bool := between F.cells.length 1 32 && (F.used.length == F.cells.length) && allTo (fun i => rowOk (F.cells.getD i []) (F.used.getD i false)) F.cells.length
def entOk (e : Ent) (n : Int) : Bool := between e.m 0 2 && decide (0 ≤ e.f) && !(e.m == 0 && e.f != 0) && !(e.m != 0 && decide (n ≤ e.f))
def tableOk (es : List Ent) (n : Int) : Bool := allTo (fun i => entOk (es.getD i default) n) es.length && between es.length 1 32
def onTo (es : List Ent) (fr : Int) : Nat → List Int
  | 0 => []
  | k + 1 => onTo es fr k ++ if (es.getD k default).m != 0 && (es.getD k default).f == fr then [(k : Int)] else []
def pagesOn (es : List Ent) (fr : Int) : List Int := onTo es fr es.length
theorem onTo_le (es : List Ent) (fr : Int) (k : Nat) : (onTo es fr k).length ≤ k := by
  induction k with
  | zero => exact Nat.le_refl _
  | succ k ih => simp only [onTo, List.length_append]; split <;> simp <;> omega
def usedOk (M : Mac) (i : Nat) : Bool := M.f.used.getD i false == decide ((0 : Int) < (pagesOn M.ents i).length)
def machineOk (M : Mac) : Bool := framesOk M.f && tableOk M.ents M.f.used.length && allTo (usedOk M) M.f.used.length
def kernelOk (K : Ker) : Bool := allTo (fun i => decide (0 ≤ K.refuse.getD i 0)) K.refuse.length && between K.calls 0 100000 && decide ((K.refuse.length : Int) ≤ 40) && machineOk K.m
def canCall (K : Ker) : Bool := (K.calls != 100000) && kernelOk K
def pageEntry (es : List Ent) (p : Int) : Ent := if between p 0 (es.length - 1) then es.getD p.toNat default else ⟨0, 0⟩
end Go.Proofs.YtmblkllijjlkoaaGreat
