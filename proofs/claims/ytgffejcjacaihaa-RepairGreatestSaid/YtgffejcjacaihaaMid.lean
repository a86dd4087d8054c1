/- Rows in the midst of a block: loads and stores. -/
import Derived.Test.YtgffejcjacaihaaMem2
import Derived.Deep.MidRow
set_option linter.unnecessarySimpa false
set_option linter.unusedVariables false
namespace Acq
open Go Go.RowKit

/-- A row put into the midst of a list. -/
def putAt (xs : List Value) : Nat → List Value → List Value
  | _, [] => xs
  | o, v :: r => putAt (xs.set o v) (o + 1) r

theorem putAt_len : ∀ (cs : List Value) (xs : List Value) (o : Nat), (putAt xs o cs).length = xs.length
  | [], _, _ => rfl
  | v :: r, xs, o => by rw [putAt, putAt_len r]; simp

theorem putAt_get : ∀ (cs : List Value) (xs : List Value) (o k : Nat), o + cs.length ≤ xs.length → (putAt xs o cs)[k]? = if o ≤ k ∧ k < o + cs.length then cs[k - o]? else xs[k]?
  | [], xs, o, k, _ => by rw [putAt, if_neg (by simp only [List.length_nil]; omega)]
  | v :: r, xs, o, k, h => by
    rw [putAt, putAt_get r _ _ _ (by simp at h ⊢; omega)]
    simp only [List.length_cons] at h ⊢
    by_cases h1 : o + 1 ≤ k ∧ k < o + 1 + r.length
    · rw [if_pos h1, if_pos (by omega), show k - o = (k - (o + 1)) + 1 by omega, List.getElem?_cons_succ]
    · rw [if_neg h1]
      by_cases h2 : k = o
      · subst h2; rw [if_pos (by omega), Nat.sub_self, List.getElem?_set_self (by omega)]; rfl
      · rw [if_neg (by omega), List.getElem?_set_ne (by omega)]

section
variable {w : World} {b c : Nat} {xs : List Value} {T : TypeId} {S : List Nat} {a : World}

theorem Blk.setCells : ∀ (cs : List Value) {w : World} {xs : List Value} (o : Nat), Blk w b xs T → Blk (w.setCells b o cs) b (putAt xs o cs) T
  | [], _, _, _, h => h
  | v :: r, _, _, o, h => Blk.setCells r (o + 1) (h.set o v)

theorem Fr.setCells (hb : b ∈ S) : ∀ (cs : List Value) {w : World} (o : Nat), Fr S a w → Fr S a (w.setCells b o cs)
  | [], _, _, h => h
  | v :: r, _, o, h => Fr.setCells hb r (o + 1) (h.setCell hb v)

theorem Blk.range (h : Blk w b xs T) (o : Nat) (cs : List Value) (hc : ∀ (j : Nat) v, cs[j]? = some v → xs[o + j]? = some v) : w.rangeAt b o cs := fun j v hv => h.cell (hc j v hv)

theorem Blk.there (h : Blk w b xs T) (o n : Nat) (hn : o + n ≤ xs.length) : w.there b o n := fun j hj => ⟨by rw [h.cell (List.getElem?_eq_getElem (by omega))]; rfl, h.free _⟩

theorem exec_load_mid {P : Program} {o : Oper} {a : Act} {ty : TypeId} {x : Operand} (ho : o.op = .load ty x) {g off : Nat} (hx : a.eval x = .pointer (some ⟨g, off, none⟩)) {cs : List Value} (hc : w.rangeAt g off cs) {d : TypeDesc}
    (hu : P.underlying ty = some d) (hd : d.isRow = true) (hi : (P.info? ty).map (·.size) = some cs.length) : (execOp a.eval o).run P w = .ok (.value (.agg cs.toArray)) w := by
  unfold execOp
  simp only [ho, hx, Instr.loadAt, Instr.sureAddr, Sem.run_bind, Sem.run_pure, Result.andThen_ok, run_loadVar_mid w g off ty cs d hc hu hd hi]

theorem run_mid {P : Program} (w : World) (b o : Nat) (cs : List Value) (ht : w.there b o cs.length) (h1 : cs.all (·.oneCell') = true) : (storeCells ⟨b, o, none⟩ cs).run P w = .ok () (w.setCells b o cs) := by
  have := run_storeCells_cells (P := P) b o cs 0 w (fun j hj => by simpa using (ht j hj).1) (fun j hj => by simpa using (ht j hj).2) (fun v hv => (List.all_eq_true.1 h1) v hv)
  simpa using this

theorem putAt_take : ∀ (cs xs : List Value) (o m : Nat), o + cs.length ≤ m → m ≤ xs.length → (putAt xs o cs).take m = putAt (xs.take m) o cs := by
  intro cs xs o m h1 h2
  apply List.ext_getElem?
  intro k
  rw [putAt_get _ _ _ _ (by rw [List.length_take]; omega)]
  by_cases hk : k < m
  · rw [List.getElem?_take_of_lt hk, putAt_get _ _ _ _ (by omega), List.getElem?_take_of_lt hk]
  · rw [List.getElem?_eq_none (by rw [List.length_take]; omega), if_neg (by omega), List.getElem?_eq_none (by rw [List.length_take]; omega)]
end
end Acq
