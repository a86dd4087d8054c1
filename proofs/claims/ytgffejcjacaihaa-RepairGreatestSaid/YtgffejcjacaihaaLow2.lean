/- Plain: the worklist of repair.Lower over the rows of a net. -/
import Derived.Test.YtgffejcjacaihaaLowPlain
import Derived.Test.YtgffejcjacaihaaNet
set_option linter.unnecessarySimpa false
set_option linter.unusedVariables false
namespace Acq.Low
open Acq

/-- While `x` is looked at: steep arcs end at it only out of those of `T`, which are still to come. -/
structure LookT (E : Nat → Nat → Prop) (h f : Nat → Int) (Q : List (Int × Nat)) (x : Nat) (T : Nat → Prop) : Prop where
  above : Above E h f
  todo : ∀ u v, E u v → f v + 1 < f u → (v = x ∧ T u) ∨ (f v, v) ∈ Q
  old : ∀ k v, (k, v) ∈ Q → f v ≤ k

section
variable {E : Nat → Nat → Prop} {h f : Nat → Int} {Q Q' : List (Int × Nat)} {x : Nat} {T T' : Nat → Prop}

theorem Work.takeT {k : Int} (a : Work E h f ((k, x) :: Q)) (hT : ∀ u, E u x → T u) : LookT E h f Q x T := by
  refine ⟨a.above, fun u v e hs => ?_, fun k v hm => a.old k v (List.mem_cons_of_mem _ hm)⟩
  rcases List.mem_cons.1 (a.todo u v e hs) with h1 | h1
  · simp only [Prod.mk.injEq] at h1
    obtain ⟨_, rfl⟩ := h1
    exact .inl ⟨rfl, hT u e⟩
  · exact .inr h1

theorem LookT.pass (a : LookT E h f Q x T) (hT : ∀ u, E u x → f x + 1 < f u → T u → T' u) : LookT E h f Q x T' :=
  ⟨a.above, fun u v e hs => by
    rcases a.todo u v e hs with ⟨rfl, h1⟩ | h1
    · exact .inl ⟨rfl, hT u e hs h1⟩
    · exact .inr h1, a.old⟩

theorem LookT.perm (a : LookT E h f Q x T) (hp : ∀ p, p ∈ Q' ↔ p ∈ Q) : LookT E h f Q' x T :=
  ⟨a.above, fun u v e hs => (a.todo u v e hs).imp id (hp _).2, fun k v hm => a.old k v ((hp _).1 hm)⟩

theorem LookT.lower {u : Nat} (a : LookT E h f Q x T) (hux : u ≠ x) (e : E u x) (hs : f x + 1 < f u) (hT : ∀ z, z ≠ u → T z → T' z) : LookT E h (upd f u (f x + 1)) ((f x + 1, u) :: Q) x T' := by
  refine ⟨a.above.lower e hs, fun y v e' hs' => ?_, fun k v hm => ?_⟩
  · by_cases hv : v = u
    · subst hv
      right
      simp [upd]
    · have hfv : upd f u (f x + 1) v = f v := by simp [upd, hv]
      rw [hfv] at hs' ⊢
      have hfy : upd f u (f x + 1) y ≤ f y := by simp only [upd]; split; (rename_i h; subst h; omega); exact Int.le_refl _
      rcases a.todo y v e' (by omega) with ⟨rfl, h2⟩ | h1
      · refine .inl ⟨rfl, hT y (fun hyu => ?_) h2⟩
        subst hyu
        simp [upd] at hs'
      · exact .inr (List.mem_cons_of_mem _ h1)
  · rcases List.mem_cons.1 hm with h1 | h1
    · simp only [Prod.mk.injEq] at h1
      obtain ⟨rfl, rfl⟩ := h1
      simp [upd]
    · have := a.old k v h1
      simp only [upd]; split
      · rename_i h; subst h; omega
      · exact this

theorem LookT.done (a : LookT E h f Q x T) (hT : ∀ u, ¬ T u) : Work E h f Q := by
  refine ⟨a.above, fun u v e hs => ?_, a.old⟩
  rcases a.todo u v e hs with ⟨rfl, h2⟩ | h1
  · exact absurd h2 (hT u)
  · exact h1

theorem Work.start (hQ : ∀ k v, (k, v) ∈ Q → h v = k) (hall : ∀ u v, E u v → (h v, v) ∈ Q) : Work E h h Q :=
  ⟨Above.start E h, fun u v e _ => hall u v e, fun k v hm => by rw [hQ k v hm]; exact Int.le_refl _⟩

end

/-- A list of heights as a function. -/
def fn (f : List Int) : Nat → Int := fun v => f.getD v 0

theorem fn_get {f : List Int} {v : Nat} {x : Int} (h : f[v]? = some x) : fn f v = x := by simp [fn, List.getD_eq_getElem?_getD, h]

theorem fn_set {f : List Int} {u : Nat} (hu : u < f.length) (x : Int) : fn (f.set u x) = upd (fn f) u x := by
  funext v
  simp only [fn, upd, List.getD_eq_getElem?_getD, List.getElem?_set]
  by_cases h : v = u
  · subst h; simp [hu]
  · rw [if_neg (Ne.symm h), if_neg h]

def sumN : List Int → Nat
  | [] => 0
  | x :: r => x.toNat + sumN r

theorem sumN_set : ∀ {f : List Int} {u : Nat} {x y : Int}, f[u]? = some x → 0 ≤ y → y < x → sumN (f.set u y) + 1 ≤ sumN f
  | [], u, x, y, h, _, _ => by simp at h
  | a :: r, 0, x, y, h, h0, h1 => by
    simp at h; subst h
    show y.toNat + sumN r + 1 ≤ a.toNat + sumN r
    omega
  | a :: r, u + 1, x, y, h, h0, h1 => by
    rw [List.getElem?_cons_succ] at h
    have := sumN_set h h0 h1
    show a.toNat + sumN (r.set u y) + 1 ≤ a.toNat + sumN r
    omega

theorem sumN_le {N : Nat} : ∀ {f : List Int}, (∀ x ∈ f, x ≤ (N : Int)) → sumN f ≤ f.length * N
  | [], _ => by simp [sumN]
  | x :: r, h => by
    have h1 := h x (by simp)
    have h2 := sumN_le (f := r) (fun y hy => h y (by simp [hy]))
    rw [sumN, List.length_cons, Nat.succ_mul]
    omega

/-- An open arc of a net leads from `u` to `v`, and `u` is not the source. -/
def Open (G : Net) (res : List Int) (u v : Nat) : Prop := u ≠ G.S ∧ ∃ (a : Nat) (e : Ent), G.E[a]? = some e ∧ e.tl = u ∧ e.hd = v ∧ 0 < res.getD a 0

/-- Where the entries of a vertex begin. -/
def off (G : Net) (v : Nat) : Nat := (allTo G.ar v).length

/-- Still to come: those whose entry at `x` stands at `a` or behind. -/
def Still (G : Net) (res : List Int) (x a : Nat) (u : Nat) : Prop := ∃ (a' b : Nat) (e : Ent), a ≤ a' ∧ a' < off G (x + 1) ∧ G.E[a']? = some e ∧ e.hd = u ∧ (revTo G.E G.E.length)[a']? = some b ∧ 0 < res.getD b 0

section
variable {G : Net} {res : List Int}

theorem Ok.ends' (hG : G.Ok) : ∀ a ∈ G.ar, a.fr < G.N ∧ a.to < G.N := fun a ha => ⟨(hG.ends a ha).1, (hG.ends a ha).2.1⟩

theorem first_get (G : Net) {v : Nat} (hv : v ≤ G.N) : G.first[v]? = some (off G v : Int) := by
  rw [Net.first, natI, List.getElem?_map, get_firstTo (by omega)]; rfl

theorem off_mono (G : Net) {v n : Nat} (h : v ≤ n) : off G v ≤ off G n := len_mono h

theorem off_all (G : Net) : off G G.N = G.E.length := rfl

/-- What stands at an entry of `x`. -/
theorem at_entry (hG : G.Ok) {x a : Nat} (hx : x < G.N) (h1 : off G x ≤ a) (h2 : a < off G (x + 1)) : ∃ (e : Ent) (b : Nat), G.E[a]? = some e ∧ e.tl = x ∧ e.hd < G.N ∧ e.hd ≠ x ∧ G.head[a]? = some (e.hd : Int) ∧ G.rev[a]? = some (b : Int) ∧ b < G.E.length ∧
    (revTo G.E G.E.length)[a]? = some b ∧ ∃ f, G.E[b]? = some f ∧ f.tl = e.hd ∧ f.hd = x := by
  have hlt : a < G.E.length := Nat.lt_of_lt_of_le h2 (off_mono G (by omega : x + 1 ≤ G.N))
  obtain ⟨e, he⟩ : ∃ e, G.E[a]? = some e := ⟨_, List.getElem?_eq_getElem hlt⟩
  obtain ⟨b, f, g1, g2, g3, g4, g5, g6, g7, g8⟩ := (rev_spec (Ok.ends' hG) _ (Nat.le_refl _)).2 a hlt e he
  have htl : e.tl = x := (tl_iff he hx).2 ⟨h1, h2⟩
  have hhd : e.hd < G.N := by
    have := (mem_allTo.1 (List.mem_of_getElem? g2)).1
    omega
  refine ⟨e, b, he, htl, hhd, by omega, by simp [Net.head, he], ?_, (List.getElem?_eq_some_iff.1 g2).1, g1, f, g2, g5, by omega⟩
  rw [Net.rev, natI, List.getElem?_map]
  show Option.map _ ((revTo (allTo G.ar G.N) (allTo G.ar G.N).length)[a]?) = _
  rw [g1]; rfl

/-- An open arc that ends at `x` is the other one of an entry of `x`. -/
theorem still_of_open (hG : G.Ok) {x u : Nat} (hx : x < G.N) (h : Open G res u x) : Still G res x (off G x) u := by
  obtain ⟨_, b, e, he, h1, h2, h3⟩ := h
  have hb := (List.getElem?_eq_some_iff.1 he).1
  obtain ⟨a, f, g1, g2, g3, g4, g5, g6, g7, g8⟩ := (rev_spec (Ok.ends' hG) _ (Nat.le_refl _)).2 b hb e he
  have hr := rev_rev (Ok.ends' hG) g1
  have ht := (tl_iff g2 hx).1 (by omega)
  exact ⟨a, b, f, ht.1, ht.2, g2, by omega, hr, h3⟩

theorem open_of_rev {x u b : Nat} {f : Ent} (hb : G.E[b]? = some f) (h1 : f.tl = u) (h2 : f.hd = x) (hu : u ≠ G.S) (h3 : 0 < res.getD b 0) : Open G res u x := ⟨hu, b, f, hb, h1, h2, h3⟩

theorem still_end (G : Net) (res : List Int) (x : Nat) (u : Nat) : ¬ Still G res x (off G (x + 1)) u := by
  rintro ⟨a', _, _, h1, h2, _⟩
  omega

theorem still_next {x a u : Nat} (h : Still G res x a u) : (∃ (b : Nat) (e : Ent), G.E[a]? = some e ∧ e.hd = u ∧ (revTo G.E G.E.length)[a]? = some b ∧ 0 < res.getD b 0) ∨ Still G res x (a + 1) u := by
  obtain ⟨a', b, e, h1, h2, h3, h4, h5, h6⟩ := h
  by_cases ha : a' = a
  · subst ha; exact .inl ⟨b, e, h3, h4, h5, h6⟩
  · exact .inr ⟨a', b, e, by omega, h2, h3, h4, h5, h6⟩

theorem still_less {x a u : Nat} (h : Still G res x (a + 1) u) : Still G res x a u := by
  obtain ⟨a', b, e, h1, h2⟩ := h
  exact ⟨a', b, e, by omega, h2⟩

end
end Acq.Low
