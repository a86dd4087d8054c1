/- Calls through heap.Interface upon a queue: which function, and of what. -/
import Derived.Test.YtgffejcjacaihaaQueue
set_option linter.unusedSimpArgs false
namespace Acq
open Go Go.RowKit Go.Proofs

/-- A method that is promoted out of the row within. -/
theorem meth_row {name : String} {f : FuncId} (w : World) (qb : Nat) (v : Value) (h : w.cell? ⟨qb, 0, none⟩ = some v)
    (h1 : ((Try.prog.info? 57).bind fun ti => ti.methods.find? (·.name == name)).map (fun m => (m.path.isEmpty, m.func)) = some (false, some (f, false)))
    (h2 : ((Try.prog.info? 57).bind fun ti => ti.methods.find? (·.name == name)).map (fun m => (follow m.path.toList 57 (.val (.pointer (some ⟨qb, 0, none⟩)))).run Try.prog w) = some (.ok (59, .var ⟨qb, 0, none⟩) w)) :
    (method 204 57 (.pointer (some ⟨qb, 0, none⟩)) name).run Try.prog w = .ok (f, v) w := by
  obtain ⟨m, hm, e1⟩ := Option.map_eq_some_iff.1 h1
  rw [hm] at h2
  simp only [Option.map_some, Option.some.injEq] at h2
  obtain ⟨ti, hti, hf⟩ := Option.bind_eq_some_iff.1 hm
  simp only [Prod.mk.injEq] at e1
  obtain ⟨e2, e3⟩ := e1
  have hr : (receiverAt 59 (.var ⟨qb, 0, none⟩) false none).run Try.prog w = .ok v w := by
    simp [receiverAt, go_sem, h, Place.get]
  have ht : (typeInfo 57).run Try.prog w = .ok ti w := by
    simp only [typeInfo, Sem.run_bind]
    show (Result.ok Try.prog w |>.andThen fun a w' => _) = _
    simp only [Result.andThen_ok, hti, Sem.run_pure]
  rw [method]
  simp only [Sem.run_bind, ht, Result.andThen_ok, hf, h2, e3, e2, hr, Sem.run_pure, if_neg (show ¬ (false = true) by decide)]

theorem meth_less (w : World) (qb : Nat) (v : Value) (h : w.cell? ⟨qb, 0, none⟩ = some v) : (method 204 57 (.pointer (some ⟨qb, 0, none⟩)) "Less").run Try.prog w = .ok (64, v) w :=
  meth_row w qb v h (by kernel_rfl) (by kernel_rfl)
theorem meth_swap (w : World) (qb : Nat) (v : Value) (h : w.cell? ⟨qb, 0, none⟩ = some v) : (method 204 57 (.pointer (some ⟨qb, 0, none⟩)) "Swap").run Try.prog w = .ok (67, v) w :=
  meth_row w qb v h (by kernel_rfl) (by kernel_rfl)
theorem meth_len (w : World) (qb : Nat) (v : Value) (h : w.cell? ⟨qb, 0, none⟩ = some v) : (method 204 57 (.pointer (some ⟨qb, 0, none⟩)) "Len").run Try.prog w = .ok (28, v) w :=
  meth_row w qb v h (by kernel_rfl) (by kernel_rfl)
theorem meth_push (w : World) (qb : Nat) : (method 204 57 (.pointer (some ⟨qb, 0, none⟩)) "Push").run Try.prog w = .ok (66, .pointer (some ⟨qb, 0, none⟩)) w := by kernel_rfl
theorem meth_pop (w : World) (qb : Nat) : (method 204 57 (.pointer (some ⟨qb, 0, none⟩)) "Pop").run Try.prog w = .ok (65, .pointer (some ⟨qb, 0, none⟩)) w := by kernel_rfl
end Acq
