/- Plain: the rows that acequiaref02.Make makes of a net. No program in sight. -/
namespace Acq

/-- An arc of a net. -/
structure A3 where
  fr : Nat
  to : Nat
  cap : Int
deriving DecidableEq

/-- A residual arc: where it begins, where it ends, its capacity, the arc that it is of, and whether it goes back. -/
structure Ent where
  tl : Nat
  hd : Nat
  cap : Int
  arc : Nat
  back : Bool
deriving DecidableEq

def ent (v k : Nat) (a : A3) : List Ent :=
  if a.fr = a.to then [] else (if a.fr = v then [⟨v, a.to, a.cap, k, false⟩] else []) ++ (if a.to = v then [⟨v, a.fr, 0, k, true⟩] else [])

/-- The entries of vertex `v` out of the first arcs. -/
def rowTo (as : List A3) (v : Nat) : Nat → List Ent
  | 0 => []
  | k + 1 => rowTo as v k ++ (match as[k]? with | some a => ent v k a | none => [])

def allTo (as : List A3) : Nat → List Ent
  | 0 => []
  | v + 1 => allTo as v ++ rowTo as v as.length

def firstTo (as : List A3) : Nat → List Nat
  | 0 => []
  | v + 1 => firstTo as v ++ [(allTo as v).length]

/-- The other ones of the same arc, among the first `j`. -/
def revRow (es : List Ent) (i : Nat) : Nat → List Nat
  | 0 => []
  | j + 1 => revRow es i j ++ (if (es[i]?.map (·.arc)) = (es[j]?.map (·.arc)) ∧ i ≠ j then [j] else [])

def revTo (es : List Ent) : Nat → List Nat
  | 0 => []
  | i + 1 => revTo es i ++ revRow es i es.length

section
variable {as : List A3}

theorem mem_ent {v k : Nat} {a : A3} {e : Ent} : e ∈ ent v k a ↔ a.fr ≠ a.to ∧ e.tl = v ∧ e.arc = k ∧ ((e.back = false ∧ a.fr = v ∧ e.hd = a.to ∧ e.cap = a.cap) ∨ (e.back = true ∧ a.to = v ∧ e.hd = a.fr ∧ e.cap = 0)) := by
  obtain ⟨tl, hd, cap, arc, back⟩ := e
  unfold ent
  split
  · simp [*]
  · rename_i h
    simp only [List.mem_append]
    by_cases h1 : a.fr = v <;> by_cases h2 : a.to = v <;> simp [h1, h2] <;> (try omega) <;> (cases back <;> simp <;> omega)

theorem mem_rowTo {v : Nat} {e : Ent} : ∀ {k : Nat}, e ∈ rowTo as v k ↔ e.arc < k ∧ ∃ a, as[e.arc]? = some a ∧ e ∈ ent v e.arc a
  | 0 => by simp [rowTo]
  | k + 1 => by
    rw [rowTo, List.mem_append, mem_rowTo]
    constructor
    · rintro (⟨h1, h2⟩ | h)
      · exact ⟨by omega, h2⟩
      · cases hk : as[k]? with
        | none => rw [hk] at h; simp at h
        | some a =>
          rw [hk] at h
          have hm := mem_ent.1 h
          exact ⟨by omega, a, by rw [hm.2.2.1]; exact hk, by rw [hm.2.2.1]; exact h⟩
    · rintro ⟨h1, a, h2, h3⟩
      by_cases h : e.arc < k
      · exact .inl ⟨h, a, h2, h3⟩
      · have : e.arc = k := by omega
        right
        rw [← this, h2]
        exact h3

theorem mem_allTo {e : Ent} : ∀ {n : Nat}, e ∈ allTo as n ↔ e.tl < n ∧ ∃ a, as[e.arc]? = some a ∧ e ∈ ent e.tl e.arc a
  | 0 => by simp [allTo]
  | n + 1 => by
    rw [allTo, List.mem_append, mem_allTo, mem_rowTo]
    constructor
    · rintro (⟨h1, h2⟩ | ⟨h1, a, h2, h3⟩)
      · exact ⟨by omega, h2⟩
      · have := (mem_ent.1 h3).2.1
        exact ⟨by omega, a, h2, by rw [this]; exact h3⟩
    · rintro ⟨h1, a, h2, h3⟩
      by_cases h : e.tl < n
      · exact .inl ⟨h, a, h2, h3⟩
      · have : e.tl = n := by omega
        exact .inr ⟨(List.getElem?_eq_some_iff.1 h2).1, a, h2, by rw [← this]; exact h3⟩

theorem len_firstTo : ∀ n, (firstTo as n).length = n
  | 0 => rfl
  | n + 1 => by rw [firstTo, List.length_append, len_firstTo n]; rfl

theorem get_firstTo : ∀ {n v : Nat}, v < n → (firstTo as n)[v]? = some (allTo as v).length
  | 0, _, h => by omega
  | n + 1, v, h => by
    rw [firstTo]
    by_cases hv : v < n
    · rw [List.getElem?_append_left (by rw [len_firstTo]; exact hv), get_firstTo hv]
    · have : v = n := by omega
      subst this
      rw [List.getElem?_append_right (by rw [len_firstTo]; omega), len_firstTo, Nat.sub_self]; rfl

theorem allTo_prefix {v n : Nat} (h : v ≤ n) : ∃ r, allTo as n = allTo as v ++ r := by
  induction n with
  | zero =>
    have hv : v = 0 := by omega
    subst hv
    exact ⟨[], by simp⟩
  | succ n ih =>
    by_cases hv : v ≤ n
    · obtain ⟨r, hr⟩ := ih hv
      exact ⟨r ++ rowTo as n as.length, by rw [allTo, hr, List.append_assoc]⟩
    · obtain rfl : v = n + 1 := by omega
      exact ⟨[], by simp⟩

theorem len_mono {v n : Nat} (h : v ≤ n) : (allTo as v).length ≤ (allTo as n).length := by
  obtain ⟨r, hr⟩ := allTo_prefix (as := as) h
  rw [hr, List.length_append]; omega

/-- Which vertex an entry is of is told by where it stands. -/
theorem tl_iff {n v p : Nat} {e : Ent} (hp : (allTo as n)[p]? = some e) (hv : v < n) : e.tl = v ↔ (allTo as v).length ≤ p ∧ p < (allTo as (v + 1)).length := by
  have key : ∀ u, u ≤ n → (p < (allTo as u).length ↔ e.tl < u) := by
    intro u hu
    obtain ⟨r, hr⟩ := allTo_prefix (as := as) hu
    constructor
    · intro h
      rw [hr, List.getElem?_append_left h] at hp
      exact (mem_allTo.1 (List.mem_of_getElem? hp)).1
    · intro h
      rcases Nat.lt_or_ge p (allTo as u).length with h1 | h1
      · exact h1
      · exfalso
        -- what stands behind begins at a vertex that is not below
        have hr2 : ∀ {m}, u ≤ m → ∀ r, allTo as m = allTo as u ++ r → ∀ x ∈ r, u ≤ x.tl := by
          intro m
          induction m with
          | zero => intro hm r he x hx; obtain rfl : u = 0 := by omega
                    omega
          | succ m ih =>
            intro hm r he x hx
            by_cases hum : u ≤ m
            · obtain ⟨r', hr'⟩ := allTo_prefix (as := as) hum
              rw [allTo, hr', List.append_assoc] at he
              have := List.append_cancel_left he
              rw [← this, List.mem_append] at hx
              rcases hx with hx | hx
              · exact ih hum r' hr' x hx
              · obtain ⟨_, a, _, h3⟩ := mem_rowTo.1 hx
                have := (mem_ent.1 h3).2.1
                omega
            · obtain rfl : u = m + 1 := by omega
              have : r = [] := by
                have := congrArg List.length he
                rw [List.length_append] at this
                exact List.eq_nil_of_length_eq_zero (by omega)
              rw [this] at hx; simp at hx
        rw [hr, List.getElem?_append_right h1] at hp
        have := hr2 hu r hr e (List.mem_of_getElem? hp)
        omega
  have h1 := key v (by omega)
  have h2 := key (v + 1) (by omega)
  omega

/-! Each arc's two. -/
theorem nodup_ent (v k : Nat) (a : A3) : ((ent v k a).map fun e => (e.arc, e.back)).Nodup := by
  unfold ent
  split
  · simp
  · by_cases h1 : a.fr = v <;> by_cases h2 : a.to = v <;> simp [h1, h2]

theorem nodup_rowTo (v : Nat) : ∀ k, ((rowTo as v k).map fun e => (e.arc, e.back)).Nodup
  | 0 => by simp [rowTo]
  | k + 1 => by
    rw [rowTo, List.map_append, List.nodup_append]
    refine ⟨nodup_rowTo v k, ?_, ?_⟩
    · cases as[k]? with
      | none => simp
      | some a => exact nodup_ent v k a
    · intro x hx y hy hxy
      subst hxy
      obtain ⟨e, he, rfl⟩ := List.mem_map.1 hx
      obtain ⟨e', he', h⟩ := List.mem_map.1 hy
      have h1 := (mem_rowTo.1 he).1
      cases hk : as[k]? with
      | none => rw [hk] at he'; simp at he'
      | some a =>
        rw [hk] at he'
        have h2 := (mem_ent.1 he').2.2.1
        simp at h; omega

theorem nodup_allTo : ∀ n, ((allTo as n).map fun e => (e.arc, e.back)).Nodup
  | 0 => by simp [allTo]
  | n + 1 => by
    rw [allTo, List.map_append, List.nodup_append]
    refine ⟨nodup_allTo n, nodup_rowTo n _, ?_⟩
    intro x hx y hy hxy
    subst hxy
    obtain ⟨e, he, rfl⟩ := List.mem_map.1 hx
    obtain ⟨e', he', h⟩ := List.mem_map.1 hy
    obtain ⟨h1, a, h2, h3⟩ := mem_allTo.1 he
    obtain ⟨h4, b, h5, h6⟩ := mem_rowTo.1 he'
    simp only [Prod.mk.injEq] at h
    rw [h.1, h2] at h5
    obtain rfl := Option.some.inj h5
    have m1 := mem_ent.1 h3
    have m2 := mem_ent.1 h6
    rw [h.2] at m2
    rcases m1.2.2.2 with ⟨b1, c1, _⟩ | ⟨b1, c1, _⟩ <;> rcases m2.2.2.2 with ⟨b2, c2, _⟩ | ⟨b2, c2, _⟩ <;> simp_all

theorem key_inj {n i j : Nat} {e f : Ent} (hi : (allTo as n)[i]? = some e) (hj : (allTo as n)[j]? = some f) (h1 : e.arc = f.arc) (h2 : e.back = f.back) : i = j := by
  have hn := nodup_allTo (as := as) n
  have li := (List.getElem?_eq_some_iff.1 hi).1
  refine (List.getElem?_inj (by rw [List.length_map]; exact li) hn).1 ?_
  rw [List.getElem?_map, List.getElem?_map, hi, hj]
  simp [h1, h2]

/-- The other one of the same arc. -/
theorem other {n i : Nat} {e : Ent} (hw : ∀ a ∈ as, a.fr < n ∧ a.to < n) (hi : (allTo as n)[i]? = some e) : ∃ j f, (allTo as n)[j]? = some f ∧ f.arc = e.arc ∧ f.back = !e.back ∧ f.tl = e.hd ∧ f.hd = e.tl ∧ e.hd ≠ e.tl ∧ j ≠ i := by
  obtain ⟨h1, a, h2, h3⟩ := mem_allTo.1 (List.mem_of_getElem? hi)
  obtain ⟨h4, _, _, h5⟩ := mem_ent.1 h3
  have hwa := hw a (List.mem_of_getElem? h2)
  have hf : ∃ f : Ent, f ∈ allTo as n ∧ f.arc = e.arc ∧ f.back = !e.back ∧ f.tl = e.hd ∧ f.hd = e.tl ∧ e.hd ≠ e.tl := by
    rcases h5 with ⟨hb, h6, h7, h8⟩ | ⟨hb, h6, h7, h8⟩
    · exact ⟨⟨a.to, a.fr, 0, e.arc, true⟩, mem_allTo.2 ⟨hwa.2, a, h2, mem_ent.2 ⟨h4, rfl, rfl, .inr ⟨rfl, rfl, rfl, rfl⟩⟩⟩, rfl, by rw [hb]; rfl, h7.symm, h6, by omega⟩
    · exact ⟨⟨a.fr, a.to, a.cap, e.arc, false⟩, mem_allTo.2 ⟨hwa.1, a, h2, mem_ent.2 ⟨h4, rfl, rfl, .inl ⟨rfl, rfl, rfl, rfl⟩⟩⟩, rfl, by rw [hb]; rfl, h7.symm, h6, by omega⟩
  obtain ⟨f, hf, g1, g2, g3, g4, g5⟩ := hf
  obtain ⟨j, hj⟩ := List.mem_iff_getElem?.1 hf
  refine ⟨j, f, hj, g1, g2, g3, g4, g5, fun h => ?_⟩
  subst h
  rw [hi] at hj
  obtain rfl := Option.some.inj hj
  omega

theorem revRow_at {es : List Ent} {i j : Nat} {e : Ent} (hi : es[i]? = some e) (hj : j ≠ i) (h1 : es[j]?.map (·.arc) = some e.arc) (hu : ∀ k f, es[k]? = some f → f.arc = e.arc → k = i ∨ k = j) :
    ∀ m, revRow es i m = if j < m then [j] else []
  | 0 => rfl
  | m + 1 => by
    rw [revRow, revRow_at hi hj h1 hu m, hi]
    by_cases hm : m = j
    · subst hm
      rw [h1]
      simp [Ne.symm hj]
    · have hne : ¬ ((some e).map (·.arc) = es[m]?.map (·.arc) ∧ i ≠ m) := by
        rintro ⟨h2, h3⟩
        cases hem : es[m]? with
        | none => rw [hem] at h2; simp at h2
        | some f =>
          rw [hem] at h2
          simp at h2
          rcases hu m f hem h2.symm with h | h <;> omega
      rw [if_neg hne, List.append_nil]
      by_cases h : j < m
      · rw [if_pos h, if_pos (by omega)]
      · rw [if_neg h, if_neg (by omega)]

/-- Rev: of each its other one. -/
theorem rev_spec {n : Nat} (hw : ∀ a ∈ as, a.fr < n ∧ a.to < n) : ∀ i, i ≤ (allTo as n).length → (revTo (allTo as n) i).length = i ∧ ∀ k, k < i → ∀ e, (allTo as n)[k]? = some e → ∃ j f, (revTo (allTo as n) i)[k]? = some j ∧ (allTo as n)[j]? = some f ∧ f.arc = e.arc ∧ f.back = !e.back ∧ f.tl = e.hd ∧ f.hd = e.tl ∧ e.hd ≠ e.tl ∧ j ≠ k
  | 0, _ => ⟨rfl, fun k hk => by omega⟩
  | i + 1, hi => by
    obtain ⟨hl, hs⟩ := rev_spec hw i (by omega)
    obtain ⟨e, he⟩ : ∃ e, (allTo as n)[i]? = some e := ⟨_, List.getElem?_eq_getElem (by omega)⟩
    obtain ⟨j, f, hj, g1, g2, g3, g4, g5, g6⟩ := other hw he
    have hr : revRow (allTo as n) i (allTo as n).length = [j] := by
      rw [revRow_at he g6 (by rw [hj]; simp [g1]) ?_ _, if_pos (List.getElem?_eq_some_iff.1 hj).1]
      intro k f' hk hf'
      by_cases hb : f'.back = e.back
      · exact .inl (key_inj hk he hf' hb)
      · refine .inr (key_inj hk hj (by rw [hf', g1]) ?_)
        rw [g2]; cases h1 : f'.back <;> cases h2 : e.back <;> simp_all
    rw [revTo, hr]
    refine ⟨by rw [List.length_append, hl]; rfl, fun k hk e' he' => ?_⟩
    by_cases hki : k < i
    · obtain ⟨j', f', h1, h2⟩ := hs k hki e' he'
      exact ⟨j', f', by rw [List.getElem?_append_left (by omega)]; exact h1, h2⟩
    · obtain rfl : k = i := by omega
      rw [he] at he'
      obtain rfl := Option.some.inj he'
      exact ⟨j, f, by rw [List.getElem?_append_right (by omega), hl, Nat.sub_self]; rfl, hj, g1, g2, g3, g4, g5, g6⟩

/-- And of the other one it is the first. -/
theorem rev_rev {n a b : Nat} (hw : ∀ x ∈ as, x.fr < n ∧ x.to < n) (h : (revTo (allTo as n) (allTo as n).length)[a]? = some b) : (revTo (allTo as n) (allTo as n).length)[b]? = some a := by
  obtain ⟨hl, hs⟩ := rev_spec hw _ (Nat.le_refl _)
  have ha : a < (allTo as n).length := by have := (List.getElem?_eq_some_iff.1 h).1; omega
  obtain ⟨e, he⟩ : ∃ e, (allTo as n)[a]? = some e := ⟨_, List.getElem?_eq_getElem ha⟩
  obtain ⟨j, f, h1, h2, g1, g2, _⟩ := hs a ha e he
  rw [h] at h1
  obtain rfl := Option.some.inj h1
  obtain ⟨j', f', h3, h4, k1, k2, _⟩ := hs b (List.getElem?_eq_some_iff.1 h2).1 f h2
  have : j' = a := key_inj h4 he (by rw [k1, g1]) (by rw [k2, g2]; simp)
  rw [this] at h3; exact h3

/-- Not more than two of an arc. -/
theorem len_ent (v k : Nat) (a : A3) : (ent v k a).length ≤ 2 := by
  unfold ent; split <;> (try split) <;> (try split) <;> simp

theorem len_rowTo (v : Nat) : ∀ k, (rowTo as v k).length ≤ 2 * k
  | 0 => Nat.le_refl _
  | k + 1 => by
    rw [rowTo, List.length_append]
    have := len_rowTo v k
    cases as[k]? with
    | none => simp; omega
    | some a => have := len_ent v k a; simp; omega

theorem len_allTo : ∀ n, (allTo as n).length ≤ n * (2 * as.length)
  | 0 => by simp [allTo]
  | n + 1 => by
    rw [allTo, List.length_append, Nat.succ_mul]
    have := len_allTo n
    have := len_rowTo (as := as) n as.length
    omega

end
end Acq
