/- A row under construction (acequiaref02.Make): a struct of three numbers and six slices, each slice a row of its own. -/
import Derived.Test.YtgffejcjacaihaaCheck
set_option linter.unusedSimpArgs false
set_option linter.unnecessarySimpa false
set_option linter.unusedVariables false
namespace Acq
open Go Go.RowKit Go.Proofs

def rowTys : List TypeId := [3, 3, 3, 2, 3, 4]

structure CM (w : World) (base cb N S T : Nat) (vs : List Value) (rows : List (List Value)) : Prop where
  blk : Blk w cb ([.int .i64 N, .int .i64 S, .int .i64 T] ++ vs) 29
  own : ∀ (i : Nat) v xs e, vs[i]? = some v → rows[i]? = some xs → rowTys[i]? = some e → w.ownsRow base e 1 v xs.length xs
  apart : ∀ (i j : Nat) v v' g, vs[i]? = some v → vs[j]? = some v' → v.ownBlock = some g → v'.ownBlock = some g → i = j
  lr : rows.length = vs.length
  lv : vs.length ≤ 6
  cb : cb < base

theorem ne_of_ty {w : World} {base e sz n b : Nat} {v : Value} {xs ys : List Value} {T : TypeId} (h : w.ownsRow base e sz v n xs) (hb : Blk w b ys T) (hne : e ≠ T) : v.ownBlock ≠ some b := by
  intro hg
  rcases h.2 with ⟨rfl, _⟩ | ⟨g, cap, cur, rfl, _, hh, _⟩
  · simp [Value.ownBlock] at hg
  · simp [Value.ownBlock] at hg
    subst hg
    unfold Blk at hb
    rw [hh] at hb
    injection hb with hb
    injection hb with _ ht
    exact hne ht

section
variable {w w' : World} {base cb N S T : Nat} {vs : List Value} {rows : List (List Value)}

theorem CM.fr {S' : List Nat} (h : CM w base cb N S T vs rows) (k : Fr S' w w') (hcb : cb ∉ S') (hS : ∀ x ∈ S', x < base) : CM w' base cb N S T vs rows :=
  ⟨h.blk.fr k hcb, fun i v xs e hv hr he => ownsRow_fr (h.own i v xs e hv hr he) k (fun g hg hm => by have := own_ge (h.own i v xs e hv hr he) g hg; have := hS g hm; omega), h.apart, h.lr, h.lv, h.cb⟩

theorem CM.fr0 (h : CM w base cb N S T vs rows) (k : Fr [] w w') : CM w' base cb N S T vs rows := h.fr k (by simp) (by simp)

theorem CM.cell (h : CM w base cb N S T vs rows) {i : Nat} {v : Value} (hv : vs[i]? = some v) : w.cell? ⟨cb, 3 + i, none⟩ = some v := h.blk.cell (by
  rw [List.getElem?_append_right (by simp)]; simpa using hv)

theorem CM.apart_ne (h : CM w base cb N S T vs rows) {i j : Nat} {v v' : Value} (hv : vs[i]? = some v) (hv' : vs[j]? = some v') (hij : i ≠ j) {g : Nat} (hg : v.ownBlock = some g) : v'.ownBlock ≠ some g := fun h' => hij (h.apart i j v v' g hv hv' hg h')

/-- One more in row `i`: what 'append' and the store leave. -/
theorem CM.grown (h : CM w base cb N S T vs rows) (hbase : base ≤ w.heap.size) {i : Nat} {v : Value} {xs : List Value} {e : TypeId} (hv : vs[i]? = some v) (hr : rows[i]? = some xs) (he : rowTys[i]? = some e)
    {o : Obj} {w4 : World} {g cap : Nat} {y : Value} (hown : w4.ownsRow base e 1 (.slice (some ⟨g, 0, none⟩) (xs.length + 1) cap) (xs.length + 1) (xs ++ [y])) (hgr : (w.alloc o).grownBy w4 v.ownBlock) (hat : v.ownBlock = some g ∨ g = w.heap.size + 1) :
    (w4.cell? ⟨cb, 3 + i, none⟩ = some v ∧ w4.frozen? ⟨cb, 3 + i, none⟩ = false) ∧
    CM (w4.setCell ⟨cb, 3 + i, none⟩ (.slice (some ⟨g, 0, none⟩) (xs.length + 1) cap)) base cb N S T (vs.set i (.slice (some ⟨g, 0, none⟩) (xs.length + 1) cap)) (rows.set i (xs ++ [y])) ∧
    Fr (cb :: v.ownBlock.toList) w (w4.setCell ⟨cb, 3 + i, none⟩ (.slice (some ⟨g, 0, none⟩) (xs.length + 1) cap)) := by
  have hi := (List.getElem?_eq_some_iff.1 hv).1
  have hvge := own_ge (h.own i v xs e hv hr he)
  have hcb : cb ∉ v.ownBlock.toList := fun hm => by
    have := hvge cb (by simpa using hm); have := h.cb; omega
  have hF4 : Fr v.ownBlock.toList w w4 := (((Fr.refl [] w).alloc o).more (by simp)).trans (Fr.of_grown hgr (by simp))
  have hb4 := h.blk.fr hF4 hcb
  have hgb : base ≤ g := by
    rcases hat with h1 | h1
    · exact hvge g h1
    · omega
  have hset : Fr [cb] w4 (w4.setCell ⟨cb, 3 + i, none⟩ (.slice (some ⟨g, 0, none⟩) (xs.length + 1) cap)) := (Fr.refl _ _).setCell (by simp) _
  have hcbg := h.cb
  refine ⟨⟨hb4.cell (by rw [List.getElem?_append_right (by simp)]; simpa using hv), hb4.free _⟩, ⟨?_, ?_, ?_, by simp [h.lr], by simpa using h.lv, h.cb⟩, ?_⟩
  · have := hb4.set (3 + i) (.slice (some ⟨g, 0, none⟩) (xs.length + 1) cap)
    rw [List.set_append_right _ _ (by simp)] at this
    simpa using this
  · intro j v' xs' e' hv' hr' he'
    rw [List.getElem?_set] at hv' hr'
    by_cases hij : i = j
    · subst hij
      rw [if_pos rfl, if_pos hi] at hv'
      rw [if_pos rfl, if_pos (by rw [h.lr]; exact hi)] at hr'
      obtain rfl := Option.some.inj hv'
      obtain rfl := Option.some.inj hr'
      rw [he] at he'
      obtain rfl := Option.some.inj he'
      rw [List.length_append]
      exact ownsRow_fr hown hset (fun q hq => by simp [Value.ownBlock] at hq; simp; omega)
    · rw [if_neg hij] at hv' hr'
      have ho := h.own j v' xs' e' hv' hr' he'
      have h1 : w4.ownsRow base e' 1 v' xs'.length xs' := ownsRow_fr ho hF4 (fun q hq hm => by
        have hm' : v.ownBlock = some q := by simpa using hm
        exact hij (h.apart i j v v' q hv hv' hm' hq))
      exact ownsRow_fr h1 hset (fun q hq => by have := own_ge ho q hq; simp; omega)
  · intro a b va vb q ha hb hqa hqb
    rw [List.getElem?_set] at ha hb
    by_cases hia : i = a
    · subst hia
      by_cases hib : i = b
      · exact hib
      · exfalso
        rw [if_pos rfl, if_pos hi] at ha
        rw [if_neg hib] at hb
        obtain rfl := Option.some.inj ha
        simp [Value.ownBlock] at hqa
        subst hqa
        rcases hat with h1 | h1
        · exact hib (h.apart i b v vb g hv hb h1 hqb)
        · obtain ⟨xb, hxb⟩ : ∃ xb, rows[b]? = some xb := ⟨_, List.getElem?_eq_getElem (by rw [h.lr]; exact (List.getElem?_eq_some_iff.1 hb).1)⟩
          obtain ⟨eb, heb⟩ : ∃ eb, rowTys[b]? = some eb := ⟨_, List.getElem?_eq_getElem (by have := (List.getElem?_eq_some_iff.1 hb).1; have := h.lv; show b < 6; omega)⟩
          have := ((h.own b vb xb eb hb hxb heb).lt g hqb).2
          omega
    · rw [if_neg hia] at ha
      by_cases hib : i = b
      · exfalso
        subst hib
        rw [if_pos rfl, if_pos hi] at hb
        obtain rfl := Option.some.inj hb
        simp [Value.ownBlock] at hqb
        subst hqb
        rcases hat with h1 | h1
        · exact hia (h.apart i a v va g hv ha h1 hqa)
        · obtain ⟨xb, hxb⟩ : ∃ xb, rows[a]? = some xb := ⟨_, List.getElem?_eq_getElem (by rw [h.lr]; exact (List.getElem?_eq_some_iff.1 ha).1)⟩
          obtain ⟨eb, heb⟩ : ∃ eb, rowTys[a]? = some eb := ⟨_, List.getElem?_eq_getElem (by have := (List.getElem?_eq_some_iff.1 ha).1; have := h.lv; show a < 6; omega)⟩
          have := ((h.own a va xb eb ha hxb heb).lt g hqa).2
          omega
      · rw [if_neg hib] at hb
        exact h.apart a b va vb q ha hb hqa hqb
  · exact (hF4.more (fun x hx => List.mem_cons_of_mem _ hx)).trans (hset.more (by simp))

end

/-- The six rows. -/
def rowsOf (F : List Nat) (E : List Ent) (R : List Nat) : List (List Value) :=
  [ints (natI F), ints (E.map fun e => (e.hd : Int)), ints (natI R), ints (E.map (·.cap)), ints (E.map fun e => (e.arc : Int)), bools (E.map (·.back))]

theorem CM.start {w : World} {base cb N S T : Nat} (h : Blk w cb [.int .i64 N, .int .i64 S, .int .i64 T, .slice none 0 0, .slice none 0 0, .slice none 0 0, .slice none 0 0, .slice none 0 0, .slice none 0 0] 29) (hcb : cb < base) :
    CM w base cb N S T [.slice none 0 0, .slice none 0 0, .slice none 0 0, .slice none 0 0, .slice none 0 0, .slice none 0 0] (rowsOf [] [] []) := by
  refine ⟨h, ?_, ?_, rfl, by simp, hcb⟩
  · intro i v xs e hv hr he
    have hi : i < 6 := by have := (List.getElem?_eq_some_iff.1 hv).1; simpa using this
    have : v = .slice none 0 0 ∧ xs = [] := by
      have h6 : i = 0 ∨ i = 1 ∨ i = 2 ∨ i = 3 ∨ i = 4 ∨ i = 5 := by omega
      rcases h6 with rfl | rfl | rfl | rfl | rfl | rfl <;> simp [rowsOf, ints, bools, natI] at hv hr <;> exact ⟨hv.symm, hr⟩
    obtain ⟨rfl, rfl⟩ := this
    exact World.ownsRow_nil _ _ _ _
  · intro i j v v' g hv hv' hg
    have hi : i < 6 := by have := (List.getElem?_eq_some_iff.1 hv).1; simpa using this
    have : v = .slice none 0 0 := by
      have h6 : i = 0 ∨ i = 1 ∨ i = 2 ∨ i = 3 ∨ i = 4 ∨ i = 5 := by omega
      rcases h6 with rfl | rfl | rfl | rfl | rfl | rfl <;> simp at hv <;> exact hv.symm
    subst this
    simp [Value.ownBlock] at hg
end Acq
