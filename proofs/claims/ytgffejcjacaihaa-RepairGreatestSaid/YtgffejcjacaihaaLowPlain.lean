/- Plain: the greatest valid heights below given ones, and that any order of a worklist comes to them. No program in sight. -/
namespace Acq.Low

/-- No open arc is steep. -/
def Valid (E : Nat → Nat → Prop) (f : Nat → Int) : Prop := ∀ u v, E u v → f u ≤ f v + 1

/-- `f` is valid, nowhere above `h`, and the greatest such. -/
structure Best (E : Nat → Nat → Prop) (h f : Nat → Int) : Prop where
  valid : Valid E f
  le : ∀ v, f v ≤ h v
  most : ∀ g, Valid E g → (∀ v, g v ≤ h v) → ∀ v, g v ≤ f v

theorem Best.same {E : Nat → Nat → Prop} {h f g : Nat → Int} (a : Best E h f) (b : Best E h g) : f = g := by
  funext v
  have := a.most g b.valid b.le v
  have := b.most f a.valid a.le v
  omega

theorem Best.mono {E F : Nat → Nat → Prop} {h k f g : Nat → Int} (a : Best E h f) (b : Best F k g) (hE : ∀ u v, F u v → E u v) (hk : ∀ v, h v ≤ k v) (v : Nat) : f v ≤ g v :=
  b.most f (fun u v e => a.valid u v (hE u v e)) (fun v => by have := a.le v; have := hk v; omega) v

theorem Best.min {E : Nat → Nat → Prop} {h k f g z : Nat → Int} (a : Best E h f) (b : Best E k g) (c : Best E (fun v => Min.min (h v) (k v)) z) (v : Nat) : z v = Min.min (f v) (g v) := by
  have h1 := c.most (fun v => Min.min (f v) (g v)) (fun u v e => by have := a.valid u v e; have := b.valid u v e; show Min.min _ _ ≤ Min.min _ _ + 1; omega) (fun v => by have := a.le v; have := b.le v; show Min.min _ _ ≤ Min.min _ _; omega) v
  have h2 := a.most z c.valid (fun v => by have := c.le v; omega) v
  have h3 := b.most z c.valid (fun v => by have := c.le v; omega) v
  skip
  omega

/-- Whoever was lowered has a flat arc. -/
theorem Best.flat {E : Nat → Nat → Prop} {h f : Nat → Int} (a : Best E h f) (hE : ∀ u v, E u v → u ≠ v) (u : Nat) (hu : f u < h u) : ∃ v, E u v ∧ f u = f v + 1 := by
  refine Classical.byContradiction fun hno => ?_
  have hg : Valid E (fun v => if v = u then f u + 1 else f v) := by
    intro x y e
    have hxy := hE x y e
    have hv := a.valid x y e
    by_cases hx : x = u
    · subst hx
      have : f x ≠ f y + 1 := fun h => hno ⟨y, e, h⟩
      simp [Ne.symm hxy]; omega
    · simp only [if_neg hx]
      split
      · rename_i h; subst h; omega
      · exact hv
  have := a.most _ hg (fun v => by show (if v = u then f u + 1 else f v) ≤ h v; split; (rename_i h; subst h; omega); exact a.le v) u
  rw [if_pos rfl] at this
  omega

theorem Best.again {E : Nat → Nat → Prop} {h f : Nat → Int} (a : Best E h f) : Best E f f := ⟨a.valid, fun _ => Int.le_refl _, fun _ _ hg v => hg v⟩

theorem Best.stays {E : Nat → Nat → Prop} {h : Nat → Int} (a : Valid E h) : Best E h h := ⟨a, fun _ => Int.le_refl _, fun _ _ hg v => hg v⟩

def upd (f : Nat → Int) (u : Nat) (x : Int) : Nat → Int := fun v => if v = u then x else f v

/-- What holds while heights are lowered: nothing was lowered too far. -/
structure Above (E : Nat → Nat → Prop) (h f : Nat → Int) : Prop where
  le : ∀ v, f v ≤ h v
  most : ∀ g, Valid E g → (∀ v, g v ≤ h v) → ∀ v, g v ≤ f v

theorem Above.start (E : Nat → Nat → Prop) (h : Nat → Int) : Above E h h := ⟨fun _ => Int.le_refl _, fun _ _ hg v => hg v⟩

theorem Above.lower {E : Nat → Nat → Prop} {h f : Nat → Int} (a : Above E h f) {u v : Nat} (e : E u v) (hs : f v + 1 < f u) : Above E h (upd f u (f v + 1)) := by
  refine ⟨fun x => ?_, fun g hg hl x => ?_⟩
  · have := a.le x
    simp only [upd]; split
    · rename_i h; subst h; omega
    · exact this
  · have h1 := a.most g hg hl x
    have h2 := a.most g hg hl v
    simp only [upd]; split
    · rename_i h; subst h; have := hg _ _ e; omega
    · exact h1

theorem Above.best {E : Nat → Nat → Prop} {h f : Nat → Int} (a : Above E h f) (hv : Valid E f) : Best E h f := ⟨hv, a.le, a.most⟩

/-- The worklist: each vertex that a steep arc ends at stands in it, as high as it is. -/
structure Work (E : Nat → Nat → Prop) (h f : Nat → Int) (Q : List (Int × Nat)) : Prop where
  above : Above E h f
  todo : ∀ u v, E u v → f v + 1 < f u → (f v, v) ∈ Q
  old : ∀ k v, (k, v) ∈ Q → f v ≤ k

/-- While `x` is looked at, at the height `k`: steep arcs end at it only out of those that were not looked at. -/
structure Look (E : Nat → Nat → Prop) (h f : Nat → Int) (Q : List (Int × Nat)) (x : Nat) (D : Nat → Prop) : Prop where
  above : Above E h f
  todo : ∀ u v, E u v → f v + 1 < f u → (v = x ∧ ¬ D u) ∨ (f v, v) ∈ Q
  old : ∀ k v, (k, v) ∈ Q → f v ≤ k

section
variable {E : Nat → Nat → Prop} {h f : Nat → Int} {Q Q' : List (Int × Nat)}

theorem Work.perm (a : Work E h f Q) (hp : ∀ x, x ∈ Q ↔ x ∈ Q') : Work E h f Q' := ⟨a.above, fun u v e hs => (hp _).1 (a.todo u v e hs), fun k v hm => a.old k v ((hp _).2 hm)⟩

theorem Work.skip {k : Int} {x : Nat} (a : Work E h f ((k, x) :: Q)) (hk : f x < k) : Work E h f Q := by
  refine ⟨a.above, fun u v e hs => ?_, fun k v hm => a.old k v (List.mem_cons_of_mem _ hm)⟩
  rcases List.mem_cons.1 (a.todo u v e hs) with h1 | h1
  · simp only [Prod.mk.injEq] at h1
    obtain ⟨h2, rfl⟩ := h1; omega
  · exact h1

theorem Work.take {k : Int} {x : Nat} (a : Work E h f ((k, x) :: Q)) : Look E h f Q x (fun _ => False) := by
  refine ⟨a.above, fun u v e hs => ?_, fun k v hm => a.old k v (List.mem_cons_of_mem _ hm)⟩
  rcases List.mem_cons.1 (a.todo u v e hs) with h1 | h1
  · simp only [Prod.mk.injEq] at h1
    exact .inl ⟨h1.2, fun h => h⟩
  · exact .inr h1

theorem Look.pass {x u : Nat} {D : Nat → Prop} (a : Look E h f Q x D) (hn : ¬ (E u x ∧ f x + 1 < f u)) : Look E h f Q x (fun z => D z ∨ z = u) := by
  refine ⟨a.above, fun y v e hs => ?_, a.old⟩
  rcases a.todo y v e hs with ⟨rfl, h2⟩ | h1
  · refine .inl ⟨rfl, ?_⟩
    rintro (h3 | rfl)
    · exact h2 h3
    · exact hn ⟨e, hs⟩
  · exact .inr h1

theorem Look.lower {x u : Nat} {D : Nat → Prop} (a : Look E h f Q x D) (hux : u ≠ x) (e : E u x) (hs : f x + 1 < f u) : Look E h (upd f u (f x + 1)) ((f x + 1, u) :: Q) x (fun z => D z ∨ z = u) := by
  refine ⟨a.above.lower e hs, fun y v e' hs' => ?_, fun k v hm => ?_⟩
  · by_cases hv : v = u
    · subst hv
      right
      simp [upd]
    · have hfv : upd f u (f x + 1) v = f v := by simp [upd, hv]
      rw [hfv] at hs' ⊢
      have hfy : upd f u (f x + 1) y ≤ f y := by simp only [upd]; split; (rename_i h; subst h; omega); exact Int.le_refl _
      rcases a.todo y v e' (by omega) with ⟨rfl, h2⟩ | h1
      · refine .inl ⟨rfl, ?_⟩
        rintro (h3 | rfl)
        · exact h2 h3
        · simp [upd] at hs'
      · exact .inr (List.mem_cons_of_mem _ h1)
  · rcases List.mem_cons.1 hm with h1 | h1
    · simp only [Prod.mk.injEq] at h1
      obtain ⟨rfl, rfl⟩ := h1
      simp [upd]
    · have := a.old k v h1
      simp only [upd]; split
      · rename_i h; subst h; omega
      · exact this

theorem Look.done {x : Nat} {D : Nat → Prop} (a : Look E h f Q x D) (hD : ∀ u, E u x → D u) : Work E h f Q := by
  refine ⟨a.above, fun u v e hs => ?_, a.old⟩
  rcases a.todo u v e hs with ⟨rfl, h2⟩ | h1
  · exact absurd (hD u e) h2
  · exact h1

theorem Work.best (a : Work E h f []) : Best E h f := a.above.best fun u v e => by
  rcases Int.lt_or_le (f v + 1) (f u) with h1 | h1
  · exact absurd (a.todo u v e h1) (by simp)
  · exact h1

end
end Acq.Low
