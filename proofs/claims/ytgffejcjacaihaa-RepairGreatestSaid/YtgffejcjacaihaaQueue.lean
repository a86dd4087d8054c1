/- The queue of layer 19: spots in a row that grows and shrinks. -/
import Derived.Test.YtgffejcjacaihaaMid
import Derived.Test.YtgffejcjacaihaaRegion
import Derived.Test.YtgffejcjacaihaaProg
import Derived.WalkSpells
import Derived.Handy
import Derived.Deep.QuietTactic
import Derived.BigQuiet
import Derived.Lib.Hide
set_option linter.unusedSimpArgs false
set_option linter.unnecessarySimpa false
set_option linter.unusedVariables false
namespace Acq
open Go Go.RowKit Go.Proofs

abbrev Spot := Int × Nat

def spot (p : Spot) : List Value := [.int .i64 p.1, .int .i64 p.2]

def flat : List Spot → List Value
  | [] => []
  | p :: r => spot p ++ flat r

theorem flat_len : ∀ Q : List Spot, (flat Q).length = Q.length * 2
  | [] => rfl
  | p :: r => by rw [flat, List.length_append, flat_len r]; simp [spot]; omega

theorem flat_get : ∀ {Q : List Spot} {i : Nat} {p : Spot}, Q[i]? = some p → (flat Q)[i * 2]? = some (.int .i64 p.1) ∧ (flat Q)[i * 2 + 1]? = some (.int .i64 p.2)
  | [], i, p, h => by simp at h
  | q :: r, 0, p, h => by simp at h; subst h; exact ⟨rfl, rfl⟩
  | q :: r, i + 1, p, h => by
    rw [List.getElem?_cons_succ] at h
    obtain ⟨h1, h2⟩ := flat_get h
    have e1 : (i + 1) * 2 = i * 2 + 2 := by omega
    rw [e1]
    exact ⟨h1, h2⟩

theorem flat_set : ∀ (Q : List Spot) (i : Nat) (p : Spot), i < Q.length → flat (Q.set i p) = putAt (flat Q) (i * 2) (spot p)
  | [], i, p, h => by simp at h
  | q :: r, 0, p, h => rfl
  | q :: r, i + 1, p, h => by
    have h2 := flat_set r i p (by simpa using h)
    have e1 : (i + 1) * 2 = i * 2 + 2 := by omega
    rw [List.set_cons_succ, flat, h2, e1]; rfl

theorem flat_append : ∀ (Q R : List Spot), flat (Q ++ R) = flat Q ++ flat R
  | [], _ => rfl
  | p :: r, R => by rw [List.cons_append, flat, flat, flat_append r R, List.append_assoc]

theorem flat_take : ∀ (Q : List Spot) (n : Nat), (flat Q).take (n * 2) = flat (Q.take n)
  | [], n => by simp [flat]
  | p :: r, 0 => by simp [flat]
  | p :: r, n + 1 => by
    have e1 : (n + 1) * 2 = n * 2 + 2 := by omega
    rw [List.take_succ_cons, flat, flat, e1, ← flat_take r n]; rfl

/-- The row of spots `Q` lies in block `g`. -/
def SpR (w : World) (base g cap : Nat) (Q : List Spot) : Prop := ∃ cur, w.heap[g]? = some (.cells cur 64 (0, 0)) ∧ base ≤ g ∧ Q.length ≤ cap ∧ cap ≤ maxLen ∧ cur.size = cap * 2 ∧ cur.toList.take (Q.length * 2) = flat Q

section
variable {w w' : World} {base g cap : Nat} {Q : List Spot}

theorem SpR.lt (h : SpR w base g cap Q) : g < w.heap.size := by obtain ⟨_, h, _⟩ := h; exact lt_of_block h

theorem SpR.fr {S : List Nat} (h : SpR w base g cap Q) (k : Fr S w w') (hg : g ∉ S) : SpR w' base g cap Q := by
  obtain ⟨cur, h1, h2⟩ := h
  exact ⟨cur, by rw [k.block g (lt_of_block h1) hg]; exact h1, h2⟩

theorem SpR.blk (h : SpR w base g cap Q) : ∃ xs, Blk w g xs 64 ∧ xs.length = cap * 2 ∧ xs.take (Q.length * 2) = flat Q := by
  obtain ⟨cur, h1, _, _, _, h5, h6⟩ := h
  exact ⟨cur.toList, h1, by simpa using h5, h6⟩

theorem SpR.get (h : SpR w base g cap Q) {i : Nat} {p : Spot} (hp : Q[i]? = some p) : w.rangeAt g (i * 2) (spot p) := by
  obtain ⟨xs, hb, hl, ht⟩ := h.blk
  have hi := (List.getElem?_eq_some_iff.1 hp).1
  obtain ⟨h1, h2⟩ := flat_get hp
  refine hb.range _ _ (fun j v hv => ?_)
  have hj : j < 2 := (List.getElem?_eq_some_iff.1 hv).1
  rw [← List.getElem?_take_of_lt (show i * 2 + j < Q.length * 2 by omega), ht]
  have : j = 0 ∨ j = 1 := by omega
  rcases this with rfl | rfl <;> simp [spot] at hv <;> subst hv
  · exact h1
  · exact h2

theorem SpR.cell (h : SpR w base g cap Q) {i : Nat} {p : Spot} (hp : Q[i]? = some p) : w.cell? ⟨g, i * 2, none⟩ = some (.int .i64 p.1) := h.get hp 0 _ rfl

theorem SpR.there (h : SpR w base g cap Q) {i : Nat} (hi : i < Q.length) : w.there g (i * 2) 2 := by
  obtain ⟨xs, hb, hl, ht⟩ := h.blk
  obtain ⟨_, _, _, h3, _⟩ := h
  exact hb.there _ _ (by omega)

theorem SpR.set (h : SpR w base g cap Q) {i : Nat} (p : Spot) (hi : i < Q.length) : SpR (w.setCells g (i * 2) (spot p)) base g cap (Q.set i p) := by
  obtain ⟨xs, hb, hl, ht⟩ := h.blk
  obtain ⟨_, _, h2, h3, h4, _⟩ := h
  have hb2 := Blk.setCells (spot p) (i * 2) hb
  refine ⟨_, hb2, h2, by simpa using h3, h4, by simp [putAt_len, hl], ?_⟩
  rw [List.length_set, List.toList_toArray, putAt_take _ _ _ _ (by show i * 2 + 2 ≤ _; omega) (by omega), ht, flat_set _ _ _ hi]

theorem less_any (h : SpR w base g cap Q) (i j : Nat) (p q : Spot) (hp : Q[i]? = some p) (hq : Q[j]? = some q) :
    Calls Try.prog 64 #[.slice (some ⟨g, 0, none⟩) Q.length cap, .int .i64 i, .int .i64 j] w fun e w' => e = .returned (.bool (decide (p.1 < q.1))) ∧ Fr [] w w' := by
  have hi := (List.getElem?_eq_some_iff.1 hp).1
  have hj := (List.getElem?_eq_some_iff.1 hq).1
  have c1 := h.cell hp
  have c2 := h.cell hq
  have i0 : (0 : Int) ≤ (i : Int) := by omega
  have i1 : (i : Int) < (Q.length : Int) := by omega
  have j0 : (0 : Int) ≤ (j : Int) := by omega
  have j1 : (j : Int) < (Q.length : Int) := by omega
  have hcap : Q.length ≤ cap := by obtain ⟨_, _, _, hcap, _⟩ := h; exact hcap
  clear hp hq
  go_enter Try.func64, Try.ntmps64
  go_wp2_with fail
  go_quiet (fail)
  go_wp2_with fail
  go_ret
  exact ⟨rfl, (Fr.refl _ _).drewN _⟩

theorem swap_any (h : SpR w base g cap Q) (i j : Nat) (p q : Spot) (hp : Q[i]? = some p) (hq : Q[j]? = some q) :
    Calls Try.prog 67 #[.slice (some ⟨g, 0, none⟩) Q.length cap, .int .i64 i, .int .i64 j] w fun e w' => e = .returned (.tuple #[]) ∧ SpR w' base g cap ((Q.set i q).set j p) ∧ Fr [g] w w' := by
  have hi := (List.getElem?_eq_some_iff.1 hp).1
  have hj := (List.getElem?_eq_some_iff.1 hq).1
  have i0 : (0 : Int) ≤ (i : Int) := by omega
  have i1 : (i : Int) < (Q.length : Int) := by omega
  have j0 : (0 : Int) ≤ (j : Int) := by omega
  have j1 : (j : Int) < (Q.length : Int) := by omega
  have hcap : Q.length ≤ cap := by obtain ⟨_, _, _, hcap, _⟩ := h; exact hcap
  have c1 := h.get hp
  have c2 := h.get hq
  have H := Lib.hid h
  clear hp hq h
  go_enter Try.func67, Try.ntmps67
  refine wr_begin [13] (fun W => W.rangeAt g (i * 2) (spot p) ∧ W.rangeAt g (j * 2) (spot q)) (by kernel_rfl) (by exact ⟨c1, c2⟩) ?_
  refine wr_pure 0 _ rfl (by kernel_rfl) (by kernel_rfl) (by kernel_rfl) (fun _ _ _ h => h) (by kernel_rfl) (by rfl) (fun _ => by go_simp; try with_reducible rfl) ?_
  try simp only [Act.put, List.setIfInBounds_toArray, List.set_cons_zero, List.set_cons_succ]
  refine wr_pure 1 _ rfl (by kernel_rfl) (by kernel_rfl) (by kernel_rfl) (fun _ _ _ h => h) (by kernel_rfl) (by rfl) (fun _ => by go_simp; try with_reducible rfl) ?_
  try simp only [Act.put, List.setIfInBounds_toArray, List.set_cons_zero, List.set_cons_succ]
  refine wr_pure 2 _ rfl (by kernel_rfl) (by kernel_rfl) (by kernel_rfl) (fun _ _ _ h => h) (by kernel_rfl) (by rfl) (fun _ => by go_simp; try with_reducible rfl) ?_
  try simp only [Act.put, List.setIfInBounds_toArray, List.set_cons_zero, List.set_cons_succ]
  refine wr_pure 3 _ rfl (by kernel_rfl) (by kernel_rfl) (by kernel_rfl) (fun _ _ _ h => h) (by kernel_rfl) (by rfl) (fun _ => by go_simp; try with_reducible rfl) ?_
  try simp only [Act.put, List.setIfInBounds_toArray, List.set_cons_zero, List.set_cons_succ]
  refine wr_pure 4 _ rfl (by kernel_rfl) (by kernel_rfl) (by kernel_rfl) (fun _ _ _ h => h) (by kernel_rfl) (by rfl) (fun _ => by go_simp; try with_reducible rfl) ?_
  try simp only [Act.put, List.setIfInBounds_toArray, List.set_cons_zero, List.set_cons_succ]
  refine wr_pure 5 _ rfl (by kernel_rfl) (by kernel_rfl) (by kernel_rfl) (fun _ _ _ h => h) (by kernel_rfl) (by rfl) (fun _ => by go_simp; try with_reducible rfl) ?_
  try simp only [Act.put, List.setIfInBounds_toArray, List.set_cons_zero, List.set_cons_succ]
  refine wr_pure 6 _ rfl (by kernel_rfl) (by kernel_rfl) (by kernel_rfl) (fun _ _ _ h => h) (by kernel_rfl) (by rfl) (fun _ => by go_simp; try with_reducible rfl) ?_
  try simp only [Act.put, List.setIfInBounds_toArray, List.set_cons_zero, List.set_cons_succ]
  refine wr_read 7 _ rfl (by kernel_rfl) (by kernel_rfl) (by kernel_rfl) (fun _ _ _ h => h) (by kernel_rfl) (by kernel_rfl) (by rfl) (fun _ hF => exec_load_mid (g := g) (off := j * 2) (cs := spot q) rfl rfl hF.2 Try.underlying64 rfl (by kernel_rfl)) ?_
  try simp only [Act.put, List.setIfInBounds_toArray, List.set_cons_zero, List.set_cons_succ]
  refine wr_pure 8 _ rfl (by kernel_rfl) (by kernel_rfl) (by kernel_rfl) (fun _ _ _ h => h) (by kernel_rfl) (by rfl) (fun _ => by go_simp; try with_reducible rfl) ?_
  try simp only [Act.put, List.setIfInBounds_toArray, List.set_cons_zero, List.set_cons_succ]
  refine wr_pure 9 _ rfl (by kernel_rfl) (by kernel_rfl) (by kernel_rfl) (fun _ _ _ h => h) (by kernel_rfl) (by rfl) (fun _ => by go_simp; try with_reducible rfl) ?_
  try simp only [Act.put, List.setIfInBounds_toArray, List.set_cons_zero, List.set_cons_succ]
  refine wr_pure 10 _ rfl (by kernel_rfl) (by kernel_rfl) (by kernel_rfl) (fun _ _ _ h => h) (by kernel_rfl) (by rfl) (fun _ => by go_simp; try with_reducible rfl) ?_
  try simp only [Act.put, List.setIfInBounds_toArray, List.set_cons_zero, List.set_cons_succ]
  refine wr_read 11 _ rfl (by kernel_rfl) (by kernel_rfl) (by kernel_rfl) (fun _ _ _ h => h) (by kernel_rfl) (by kernel_rfl) (by rfl) (fun _ hF => exec_load_mid (g := g) (off := i * 2) (cs := spot p) rfl rfl hF.1 Try.underlying64 rfl (by kernel_rfl)) ?_
  try simp only [Act.put, List.setIfInBounds_toArray, List.set_cons_zero, List.set_cons_succ]
  refine wr_pure 12 _ rfl (by kernel_rfl) (by kernel_rfl) (by kernel_rfl) (fun _ _ _ h => h) (by kernel_rfl) (by rfl) (fun _ => by go_simp; try with_reducible rfl) ?_
  try simp only [Act.put, List.setIfInBounds_toArray, List.set_cons_zero, List.set_cons_succ]
  refine wr_do 13 rfl (by kernel_rfl) (by rfl) (fun K hK => ?_)
  have hth := (H.out.fr (Fr.drew (Fr.refl [] w)) (by simp)).there hi
  refine wp_store_mid _ _ _ rfl g (i * 2) (spot q).toArray rfl rfl hth (by kernel_rfl) (by kernel_rfl) ?_
  refine hK _ _ ⟨Still.off 13 (by kernel_rfl) (by kernel_rfl), ?_⟩
  try simp only [Act.put, List.setIfInBounds_toArray, List.set_cons_zero, List.set_cons_succ]
  refine wr_pure 14 _ rfl (by kernel_rfl) (by kernel_rfl) (by kernel_rfl) (fun _ _ _ h => h) (by kernel_rfl) (by rfl) (fun _ => by go_simp; try with_reducible rfl) ?_
  try simp only [Act.put, List.setIfInBounds_toArray, List.set_cons_zero, List.set_cons_succ]
  refine wr_do 15 rfl (by kernel_rfl) (by rfl) (fun K hK => ?_)
  have h2 : SpR (w.drew.setCells g (i * 2) (spot q).toArray.toList) base g cap (Q.set i q) := (H.out.fr (Fr.drew (Fr.refl [] w)) (by simp)).set q hi
  refine wp_store_mid _ _ _ rfl g (j * 2) (spot p).toArray rfl rfl (h2.there (i := j) (by simpa using hj)) (by kernel_rfl) (by kernel_rfl) ?_
  refine hK _ _ ⟨Still.off 13 (by kernel_rfl) (by kernel_rfl), ?_⟩
  try simp only [Act.put, List.setIfInBounds_toArray, List.set_cons_zero, List.set_cons_succ]
  refine wr_done (by kernel_rfl) ?_ _
  go_wp2_with fail
  go_returns
  refine ⟨rfl, h2.set p (by simpa using hj), Fr.setCells (by simp) _ _ (Fr.setCells (by simp) _ _ (Fr.drew (Fr.refl _ _)))⟩

end
end Acq
