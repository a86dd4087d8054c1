/- What a row hands over: a slice of whole numbers. -/
import Derived.Test.YtgffejcjacaihaaMem
set_option linter.unnecessarySimpa false
set_option linter.unusedVariables false
namespace Acq
open Go Go.RowKit

/-- The whole numbers of a slice in memory; `none`: nil. -/
def IsRow (k : IntKind) (w : World) (a : Option Addr) (len cap : Nat) (zs : List Int) : Prop :=
  match a with
  | none => len = 0 ∧ cap = 0 ∧ zs = []
  | some x => len ≤ cap ∧ cap ≤ maxLen ∧ zs.length = len ∧ ∀ i, i < len → w.cell? (x.add i) = some (.int k (zs.getD i 0)) ∧ (Lit.int k (zs.getD i 0)).wf = true

theorem IsRow.of {k : IntKind} {w : World} {x : Addr} {len cap : Nat} {zs : List Int} (h1 : len ≤ cap) (h2 : cap ≤ maxLen) (h3 : zs.length = cap) (h4 : ∀ i, i < zs.length → w.cell? (x.add i) = some (.int k (zs.getD i 0))) (h5 : ∀ n ∈ zs, (Lit.int k n).wf = true) :
    IsRow k w (some x) len cap (zs.take len) := by
  have e : ∀ i, i < len → (zs.take len).getD i 0 = zs.getD i 0 := fun i hi => by simp [hi]
  refine ⟨h1, h2, by rw [List.length_take]; omega, fun i hi => ?_⟩
  rw [e i hi]
  refine ⟨h4 i (by omega), h5 _ ?_⟩
  rw [List.getD_eq_getElem?_getD, List.getElem?_eq_getElem (by omega)]
  exact List.getElem_mem _

end Acq
