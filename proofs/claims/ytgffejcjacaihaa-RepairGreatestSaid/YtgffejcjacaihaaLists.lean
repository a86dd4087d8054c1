/- Plain facts on lists. -/
namespace Acq

/-- The first `k` of `xs`, the rest still `z`: a row that is being filled. -/
def fill {α : Type} (xs : List α) (k : Nat) (z : α) : List α := xs.take k ++ List.replicate (xs.length - k) z

theorem fill_zero {α : Type} (xs : List α) (z : α) : fill xs 0 z = List.replicate xs.length z := by simp [fill]
theorem fill_all {α : Type} (xs : List α) (z : α) : fill xs xs.length z = xs := by simp [fill]
theorem fill_len {α : Type} (xs : List α) (k : Nat) (z : α) : (fill xs k z).length = xs.length := by simp [fill]; omega
theorem fill_get {α : Type} (xs : List α) (k : Nat) (z : α) (h : k < xs.length) : (fill xs k z)[k]? = some z := by
  unfold fill
  have hl : (xs.take k).length = k := by simp; omega
  rw [List.getElem?_append_right (by omega), hl, List.getElem?_replicate, if_pos (by omega)]
theorem fill_set {α : Type} (xs : List α) (k : Nat) (z x : α) (h : xs[k]? = some x) : (fill xs k z).set k x = fill xs (k + 1) z := by
  obtain ⟨hlt, hx⟩ := List.getElem?_eq_some_iff.1 h
  apply List.ext_getElem?
  intro j
  rw [List.getElem?_set, fill_len]
  have hl : (xs.take k).length = k := by simp; omega
  have hl' : (xs.take (k + 1)).length = k + 1 := by simp; omega
  split
  · rename_i e; subst e
    try rw [if_pos hlt]
    unfold fill
    rw [List.getElem?_append_left (by omega), List.getElem?_take, if_pos (by omega), h]
  · rename_i e
    unfold fill
    rcases Nat.lt_or_ge j k with hj | hj
    · rw [List.getElem?_append_left (by omega), List.getElem?_append_left (by omega), List.getElem?_take, List.getElem?_take, if_pos hj, if_pos (by omega)]
    · rw [List.getElem?_append_right (by omega), List.getElem?_append_right (by omega), hl, hl', List.getElem?_replicate, List.getElem?_replicate]
      by_cases h1 : j < xs.length
      · rw [if_pos (by omega), if_pos (by omega)]
      · rw [if_neg (by omega), if_neg (by omega)]

end Acq
