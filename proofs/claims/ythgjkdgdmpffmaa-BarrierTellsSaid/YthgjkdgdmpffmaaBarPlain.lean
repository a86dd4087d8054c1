/- The plain law of the barrier: an abstract crowd of workers at a sense-reversing barrier (no program in sight). -/
namespace Acq.Bar

inductive St where | old | idle | come | wait | reset | turn
  deriving DecidableEq

/-- Generation `g`, and where each worker stands. -/
structure Abs where
  g : Nat
  sts : List St

def St.here : St → Bool
  | .wait => true
  | .reset => true
  | _ => false

def St.lvl : St → Nat
  | .old => 0
  | .idle => 1
  | .come => 2
  | .wait => 3
  | .reset => 3
  | .turn => 4

/-- What the cell Count holds. -/
def Abs.count (n : Nat) (a : Abs) : Nat := if .turn ∈ a.sts then n else n - a.sts.countP St.here

def Abs.step (n : Nat) (a : Abs) (i : Nat) : Abs :=
  match a.sts[i]? with
  | some .old => { a with sts := a.sts.set i .idle }
  | some .idle => { a with sts := a.sts.set i .come }
  | some .come => if a.count n = 1 then { a with sts := a.sts.set i .reset } else { a with sts := a.sts.set i .wait }
  | some .reset => { a with sts := a.sts.set i .turn }
  | some .turn => { g := a.g + 1, sts := (List.replicate n .old).set i .idle }
  | _ => a

/-- Nobody at the reset, and somebody who has not come; or one at the reset, and all others wait. -/
structure Abs.ok (n : Nat) (a : Abs) : Prop where
  len : a.sts.length = n
  young : a.g = 0 → .old ∉ a.sts
  either : ((∀ i : Nat, a.sts[i]? ≠ some St.reset ∧ a.sts[i]? ≠ some St.turn) ∧ ∃ i : Nat, ∃ s, a.sts[i]? = some s ∧ s ≠ St.wait) ∨
    (∃ i : Nat, (a.sts[i]? = some .reset ∨ a.sts[i]? = some .turn) ∧ ∀ (j : Nat) (s : St), j ≠ i → a.sts[j]? = some s → s = St.wait)

theorem get_lt {α} {l : List α} {i : Nat} {x : α} (h : l[i]? = some x) : i < l.length := by
  rcases Nat.lt_or_ge i l.length with h' | h'
  · exact h'
  · simp [List.getElem?_eq_none h'] at h

/-- If all but one are counted, and that one is not. -/
theorem countP_all_but {α} (p : α → Bool) : ∀ (l : List α) (i : Nat) (x : α), l[i]? = some x → p x = false → (∀ (j : Nat) s, j ≠ i → l[j]? = some s → p s = true) → l.countP p + 1 = l.length
  | [], i, x, h, _, _ => by simp at h
  | y :: l, 0, x, h, hx, ho => by
    simp at h; subst h
    have : ∀ s ∈ l, p s = true := by
      intro s hs
      obtain ⟨k, hk⟩ := List.getElem?_of_mem hs
      exact ho (k + 1) s (by omega) (by simpa using hk)
    simp [hx, List.countP_eq_length.2 this]
  | y :: l, i + 1, x, h, hx, ho => by
    have hy : p y = true := ho 0 y (by omega) (by simp)
    have ih := countP_all_but p l i x (by simpa using h) hx (fun j s hj hs => ho (j + 1) s (by omega) (by simpa using hs))
    simp [hy]; omega

theorem countP_lt_of {α} (p : α → Bool) (l : List α) (i : Nat) (x : α) (h : l[i]? = some x) (hx : p x = false) : l.countP p < l.length := by
  have h1 := List.countP_le_length (p := p) (l := l)
  rcases Nat.lt_or_ge (l.countP p) l.length with h' | h'
  · exact h'
  · have := List.countP_eq_length.1 (by omega : l.countP p = l.length) x (List.mem_of_getElem? h)
    simp [hx] at this

/-- Two that are not counted. -/
theorem countP_two {α} (p : α → Bool) : ∀ (l : List α) (i j : Nat) (x y : α), i ≠ j → l[i]? = some x → l[j]? = some y → p x = false → p y = false → l.countP p + 2 ≤ l.length
  | [], i, j, x, y, _, h, _, _, _ => by simp at h
  | z :: l, 0, 0, x, y, hne, _, _, _, _ => by omega
  | z :: l, 0, j + 1, x, y, _, h, h', hx, hy => by
    simp at h; subst h
    have := countP_lt_of p l j y (by simpa using h') hy
    simp [hx]; omega
  | z :: l, i + 1, 0, x, y, _, h, h', hx, hy => by
    simp at h'; subst h'
    have := countP_lt_of p l i x (by simpa using h) hx
    simp [hy]; omega
  | z :: l, i + 1, j + 1, x, y, hne, h, h', hx, hy => by
    have := countP_two p l i j x y (by omega) (by simpa using h) (by simpa using h') hx hy
    have h2 : (z :: l).countP p ≤ l.countP p + 1 := by
      rw [List.countP_cons]; split <;> omega
    simp; omega

theorem set_get {α} {l : List α} {i : Nat} (x : α) (h : i < l.length) (j : Nat) : (l.set i x)[j]? = if i = j then some x else l[j]? := by
  rw [List.getElem?_set]; simp [h]

section
variable {n : Nat} {a : Abs}

theorem turn_mem_iff : .turn ∈ a.sts ↔ ∃ i : Nat, a.sts[i]? = some .turn :=
  ⟨fun h => List.getElem?_of_mem h, fun ⟨_, h⟩ => List.mem_of_getElem? h⟩

/-- One who is coming is the last one just if the count is 1: then all others wait. -/
theorem come_last (h : a.ok n) {i : Nat} (hi : a.sts[i]? = some .come) (hc : a.count n = 1) : ∀ (j : Nat) s, j ≠ i → a.sts[j]? = some s → s = .wait := by
  rcases h.either with ⟨hno, _⟩ | ⟨k, hk, ho⟩
  · intro j s hj hs
    have ht : .turn ∉ a.sts := fun hm => by obtain ⟨k, hk⟩ := turn_mem_iff.1 hm; exact (hno k).2 hk
    rw [Abs.count, if_neg ht] at hc
    have hl := h.len
    cases s with
    | wait => rfl
    | reset => exact ((hno j).1 hs).elim
    | turn => exact ((hno j).2 hs).elim
    | _ =>
      have := countP_two St.here a.sts i j _ _ (Ne.symm hj) hi hs rfl rfl
      omega
  · have : i ≠ k := by rintro rfl; rw [hi] at hk; simp at hk
    have := ho i _ this hi
    simp at this

theorem count_of_last (h : a.ok n) {i : Nat} (hi : a.sts[i]? = some .come) (ho : ∀ (j : Nat) s, j ≠ i → a.sts[j]? = some s → s = .wait) : a.count n = 1 := by
  have ht : .turn ∉ a.sts := fun hm => by
    obtain ⟨k, hk⟩ := turn_mem_iff.1 hm
    by_cases e : k = i
    · subst e; rw [hi] at hk; simp at hk
    · have := ho k _ e hk; simp at this
  rw [Abs.count, if_neg ht]
  have := countP_all_but St.here a.sts i _ hi rfl (fun j s hj hs => by rw [ho j s hj hs]; rfl)
  have := h.len
  omega

/-- The count, while one comes, is from 1 on. -/
theorem count_pos (h : a.ok n) {i : Nat} (hi : a.sts[i]? = some .come) : 1 ≤ a.count n := by
  unfold Abs.count
  split
  · have := get_lt hi; rw [h.len] at this; omega
  · have := countP_lt_of St.here a.sts i _ hi rfl
    rw [h.len] at this; omega

theorem count_le (a : Abs) (n : Nat) : a.count n ≤ n := by unfold Abs.count; split <;> omega

theorem step_ok (h : a.ok n) {i : Nat} (hi : i < n) : (a.step n i).ok n := by
  have hl := h.len
  obtain ⟨s, hs⟩ : ∃ s, a.sts[i]? = some s := ⟨_, List.getElem?_eq_getElem (by omega)⟩
  have hil : i < a.sts.length := by omega
  unfold Abs.step
  rw [hs]
  cases s with
  | old =>
    refine ⟨by simp [hl], ?_, ?_⟩
    · intro hg; exact (h.young hg (List.mem_of_getElem? hs)).elim
    · left
      rcases h.either with ⟨hno, _⟩ | ⟨k, hk, ho⟩
      · refine ⟨fun j => ?_, i, .idle, by simp [set_get _ hil], by simp⟩
        simp only [set_get _ hil]
        split
        · simp
        · exact hno j
      · by_cases e : i = k
        · subst e; rw [hs] at hk; simp at hk
        · have := ho i _ e hs; simp at this
  | idle =>
    refine ⟨by simp [hl], ?_, ?_⟩
    · intro hg hm
      have hm' := List.mem_or_eq_of_mem_set hm
      simp at hm'
      exact h.young hg hm'
    · left
      rcases h.either with ⟨hno, _⟩ | ⟨k, hk, ho⟩
      · refine ⟨fun j => ?_, i, .come, by simp [set_get _ hil], by simp⟩
        simp only [set_get _ hil]
        split
        · simp
        · exact hno j
      · by_cases e : i = k
        · subst e; rw [hs] at hk; simp at hk
        · have := ho i _ e hs; simp at this
  | come =>
    dsimp only
    split
    · rename_i hc
      have ho := come_last h hs hc
      refine ⟨by simp [hl], ?_, ?_⟩
      · intro hg hm
        have hm' := List.mem_or_eq_of_mem_set hm
        simp at hm'
        exact h.young hg hm'
      · right
        refine ⟨i, .inl (by simp [set_get _ hil]), fun j s hj hsj => ?_⟩
        simp only [set_get _ hil] at hsj
        rw [if_neg (fun e => hj e.symm)] at hsj
        exact ho j s hj hsj
    · rename_i hc
      refine ⟨by simp [hl], ?_, ?_⟩
      · intro hg hm
        have hm' := List.mem_or_eq_of_mem_set hm
        simp at hm'
        exact h.young hg hm'
      · left
        rcases h.either with ⟨hno, _⟩ | ⟨k, hk, ho⟩
        · refine ⟨fun j => ?_, ?_⟩
          · simp only [set_get _ hil]
            split
            · simp
            · exact hno j
          · -- if all others waited it would be the last one
            by_cases hall : ∀ (j : Nat) s, j ≠ i → a.sts[j]? = some s → s = .wait
            · exact (hc (count_of_last h hs hall)).elim
            · simp only [Classical.not_forall] at hall
              obtain ⟨j, s, hj, hsj, hne⟩ := hall
              exact ⟨j, s, by simp only [set_get _ hil]; rw [if_neg (fun e => hj e.symm)]; exact hsj, hne⟩
        · by_cases e : i = k
          · subst e; rw [hs] at hk; simp at hk
          · have := ho i _ e hs; simp at this
  | wait => exact h
  | reset =>
    rcases h.either with ⟨hno, _⟩ | ⟨k, hk, ho⟩
    · exact ((hno i).1 hs).elim
    · have e : i = k := by
        by_cases e : i = k
        · exact e
        · have := ho i _ e hs; simp at this
      subst e
      refine ⟨by simp [hl], ?_, ?_⟩
      · intro hg hm
        have hm' := List.mem_or_eq_of_mem_set hm
        simp at hm'
        exact h.young hg hm'
      · right
        refine ⟨i, .inr (by simp [set_get _ hil]), fun j s hj hsj => ?_⟩
        simp only [set_get _ hil] at hsj
        rw [if_neg (fun e => hj e.symm)] at hsj
        exact ho j s hj hsj
  | turn =>
    refine ⟨by simp, by simp, ?_⟩
    left
    have hil' : i < (List.replicate n St.old).length := by simpa using hi
    refine ⟨fun j => ?_, i, .idle, by simp [set_get _ hil'], by simp⟩
    simp only [set_get _ hil']
    split
    · simp
    · rw [List.getElem?_replicate]; split <;> simp

theorem step_g (a : Abs) (i : Nat) : a.g ≤ (a.step n i).g := by
  unfold Abs.step
  split <;> (try split) <;> simp

end

def Abs.round (n : Nat) (a : Abs) : Nat → Abs
  | 0 => a
  | k + 1 => (a.round n k).step n k

theorem round_ok {n : Nat} {a : Abs} (h : a.ok n) : ∀ k, k ≤ n → (a.round n k).ok n
  | 0, _ => h
  | k + 1, hk => step_ok (round_ok h k (by omega)) (by omega)

theorem round_g {n : Nat} {a : Abs} : ∀ k, a.g ≤ (a.round n k).g
  | 0 => Nat.le_refl _
  | k + 1 => Nat.le_trans (round_g k) (step_g _ _)

/-- All but those below `j` are at level `k` at least; those below at `k + 1`. -/
def Q (_n G k j : Nat) (a : Abs) : Prop :=
  G < a.g ∨ (a.g = G ∧ ∀ (i : Nat) s, a.sts[i]? = some s → k ≤ s.lvl ∧ (i < j → k + 1 ≤ s.lvl))

theorem Q_step {n G k j : Nat} {a : Abs} (hk : k < 3) (hl : a.sts.length = n) (hj : j < n) (h : Q n G k j a) : Q n G k (j + 1) (a.step n j) := by
  rcases h with h | ⟨hg, h⟩
  · exact .inl (Nat.lt_of_lt_of_le h (step_g _ _))
  · obtain ⟨s, hs⟩ : ∃ s, a.sts[j]? = some s := ⟨_, List.getElem?_eq_getElem (by omega)⟩
    have hjl : j < a.sts.length := by omega
    have key : ∀ t : St, k + 1 ≤ t.lvl → Q n G k (j + 1) { a with sts := a.sts.set j t } := by
      intro t ht
      refine .inr ⟨hg, fun i u hu => ?_⟩
      simp only [set_get _ hjl] at hu
      split at hu
      · simp at hu; subst hu; exact ⟨by omega, fun _ => ht⟩
      · rename_i hne
        have := h i u hu
        exact ⟨this.1, fun hi => this.2 (by omega)⟩
    have hlv := (h j s hs).1
    unfold Abs.step
    rw [hs]
    cases s with
    | old => exact key _ (by simp [St.lvl] at hlv ⊢; omega)
    | idle => exact key _ (by simp [St.lvl] at hlv ⊢; omega)
    | come => dsimp only; split <;> exact key _ (by simp [St.lvl] at hlv ⊢; omega)
    | wait =>
      refine .inr ⟨hg, fun i u hu => ?_⟩
      have := h i u hu
      refine ⟨this.1, fun hi => ?_⟩
      by_cases e : i = j
      · subst e; rw [hs] at hu; simp at hu; subst hu; simp [St.lvl]; omega
      · exact this.2 (by omega)
    | reset => exact key _ (by simp [St.lvl]; omega)
    | turn => exact .inl (by simp [hg])

theorem Q_round {n G k : Nat} {a : Abs} (hk : k < 3) (hok : a.ok n) (h : Q n G k 0 a) : ∀ j, j ≤ n → Q n G k j (a.round n j)
  | 0, _ => h
  | j + 1, hj => Q_step hk (round_ok hok j (by omega)).len (by omega) (Q_round hk hok h j (by omega))

theorem Q_next {n G k : Nat} {a : Abs} (hl : a.sts.length = n) (h : Q n G k n a) : Q n G (k + 1) 0 a := by
  rcases h with h | ⟨hg, h⟩
  · exact .inl h
  · exact .inr ⟨hg, fun i s hs => ⟨(h i s hs).2 (by have := get_lt hs; omega), by omega⟩⟩

/-- One is about to pass, all others wait. -/
def R (_n G j : Nat) (a : Abs) : Prop :=
  G < a.g ∨ (a.g = G ∧ ∃ i, (a.sts[i]? = some .turn ∨ (a.sts[i]? = some .reset ∧ j ≤ i)) ∧ ∀ (k : Nat) s, k ≠ i → a.sts[k]? = some s → s = .wait)

theorem R_of_Q {n G : Nat} {a : Abs} (hok : a.ok n) (h : Q n G 3 0 a) : R n G 0 a := by
  rcases h with h | ⟨hg, h⟩
  · exact .inl h
  · refine .inr ⟨hg, ?_⟩
    rcases hok.either with ⟨hno, i, s, hs, hne⟩ | ⟨i, hi, ho⟩
    · have := (h i s hs).1
      cases s with
      | wait => exact (hne rfl).elim
      | reset => exact ((hno i).1 hs).elim
      | turn => exact ((hno i).2 hs).elim
      | _ => simp [St.lvl] at this
    · exact ⟨i, by rcases hi with hi | hi <;> simp [hi], ho⟩

theorem R_step {n G j : Nat} {a : Abs} (hl : a.sts.length = n) (hj : j < n) (h : R n G j a) : R n G (j + 1) (a.step n j) := by
  rcases h with h | ⟨hg, i, hi, ho⟩
  · exact .inl (Nat.lt_of_lt_of_le h (step_g _ _))
  · have hjl : j < a.sts.length := by omega
    by_cases e : j = i
    · subst e
      unfold Abs.step
      rcases hi with hi | ⟨hi, _⟩
      · rw [hi]; exact .inl (by simp [hg])
      · rw [hi]
        refine .inr ⟨hg, j, .inl (by simp [set_get _ hjl]), fun k s hk hs => ?_⟩
        simp only [set_get _ hjl] at hs
        rw [if_neg (fun e => hk e.symm)] at hs
        exact ho k s hk hs
    · obtain ⟨s, hs⟩ : ∃ s, a.sts[j]? = some s := ⟨_, List.getElem?_eq_getElem (by omega)⟩
      have := ho j s e hs
      subst this
      have hst : a.step n j = a := by unfold Abs.step; rw [hs]
      rw [hst]
      refine .inr ⟨hg, i, ?_, ho⟩
      rcases hi with hi | ⟨hi, hji⟩
      · exact .inl hi
      · exact .inr ⟨hi, by omega⟩

theorem R_round {n G : Nat} {a : Abs} (hok : a.ok n) (h : R n G 0 a) : ∀ j, j ≤ n → R n G j (a.round n j)
  | 0, _ => h
  | j + 1, hj => R_step (round_ok hok j (by omega)).len (by omega) (R_round hok h j (by omega))

/-- One is about to pass for sure. -/
def T (_n G j : Nat) (a : Abs) : Prop :=
  G < a.g ∨ (a.g = G ∧ ∃ i, j ≤ i ∧ a.sts[i]? = some .turn ∧ ∀ (k : Nat) s, k ≠ i → a.sts[k]? = some s → s = .wait)

theorem T_of_R {n G : Nat} {a : Abs} (hl : a.sts.length = n) (h : R n G n a) : T n G 0 a := by
  rcases h with h | ⟨hg, i, hi, ho⟩
  · exact .inl h
  · rcases hi with hi | ⟨hi, hn⟩
    · exact .inr ⟨hg, i, by omega, hi, ho⟩
    · have := get_lt hi; omega

theorem T_step {n G j : Nat} {a : Abs} (hl : a.sts.length = n) (hj : j < n) (h : T n G j a) : T n G (j + 1) (a.step n j) := by
  rcases h with h | ⟨hg, i, hji, hi, ho⟩
  · exact .inl (Nat.lt_of_lt_of_le h (step_g _ _))
  · by_cases e : j = i
    · subst e
      unfold Abs.step
      rw [hi]; exact .inl (by simp [hg])
    · obtain ⟨s, hs⟩ : ∃ s, a.sts[j]? = some s := ⟨_, List.getElem?_eq_getElem (by omega)⟩
      have := ho j s e hs
      subst this
      have hst : a.step n j = a := by unfold Abs.step; rw [hs]
      rw [hst]
      exact .inr ⟨hg, i, by omega, hi, ho⟩

theorem T_round {n G : Nat} {a : Abs} (hok : a.ok n) (h : T n G 0 a) : ∀ j, j ≤ n → T n G j (a.round n j)
  | 0, _ => h
  | j + 1, hj => T_step (round_ok hok j (by omega)).len (by omega) (T_round hok h j (by omega))

def Abs.rounds (n : Nat) (a : Abs) : Nat → Abs
  | 0 => a
  | k + 1 => (a.rounds n k).round n n

theorem rounds_ok {n : Nat} {a : Abs} (h : a.ok n) : ∀ k, (a.rounds n k).ok n
  | 0 => h
  | k + 1 => round_ok (rounds_ok h k) n (Nat.le_refl _)

/-- Five rounds: one generation at least. -/
theorem five {n : Nat} {a : Abs} (h : a.ok n) : a.g < (a.rounds n 5).g := by
  have q0 : Q n a.g 0 0 a := .inr ⟨rfl, fun _ _ _ => ⟨Nat.zero_le _, by omega⟩⟩
  have q1 : Q n a.g 1 0 (a.rounds n 1) := Q_next (rounds_ok h 1).len (Q_round (by omega) (rounds_ok h 0) q0 n (Nat.le_refl _))
  have q2 : Q n a.g 2 0 (a.rounds n 2) := Q_next (rounds_ok h 2).len (Q_round (by omega) (rounds_ok h 1) q1 n (Nat.le_refl _))
  have q3 : Q n a.g 3 0 (a.rounds n 3) := Q_next (rounds_ok h 3).len (Q_round (by omega) (rounds_ok h 2) q2 n (Nat.le_refl _))
  have r4 : T n a.g 0 (a.rounds n 4) := T_of_R (rounds_ok h 4).len (R_round (rounds_ok h 3) (R_of_Q (rounds_ok h 3) q3) n (Nat.le_refl _))
  have t5 : T n a.g n (a.rounds n 5) := T_round (rounds_ok h 4) r4 n (Nat.le_refl _)
  rcases t5 with t5 | ⟨hg, i, hi, hs, _⟩
  · exact t5
  · have := get_lt hs; have := (rounds_ok h 5).len; omega

theorem rounds_add {n : Nat} {a : Abs} (j : Nat) : ∀ k, (a.rounds n j).rounds n k = a.rounds n (j + k)
  | 0 => rfl
  | k + 1 => by show ((a.rounds n j).rounds n k).round n n = (a.rounds n (j + k)).round n n; rw [rounds_add j k]

theorem ten {n : Nat} {a : Abs} (h : a.ok n) : a.g + 2 ≤ (a.rounds n 10).g := by
  have h1 := five h
  have h2 := five (rounds_ok h 5)
  rw [rounds_add 5 5, show 5 + 5 = 10 from rfl] at h2
  omega

/-- How often a worker is done. -/
def Abs.done (a : Abs) (i : Nat) : Nat := if a.sts[i]? = some .old then a.g - 1 else a.g

theorem done_le (a : Abs) (i : Nat) : a.done i ≤ a.g ∧ a.g ≤ a.done i + 1 := by unfold Abs.done; split <;> omega

theorem ten_done {n : Nat} {a : Abs} (h : a.ok n) (i : Nat) : a.done i < (a.rounds n 10).done i := by
  have h1 := ten h
  have h2 := (done_le a i).1
  have h3 := (done_le (a.rounds n 10) i).2
  omega

end Acq.Bar
