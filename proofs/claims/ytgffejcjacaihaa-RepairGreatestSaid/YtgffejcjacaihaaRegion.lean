/- A region that draws its order, walked once: what only reads is taken first, under facts that need hold only until the first operation of a given set (the stores at the end) has come up. No program is named. -/
import Derived.OrdersHeld
import Derived.StillTail
set_option linter.unusedVariables false
namespace Acq
open Go

section
variable {P : Program} {ops : Array Oper} {Q : Exit → Act → World → Prop} {T : List Nat} {F : World → Prop}

/-- The facts hold as long as none of `T` has come up. -/
def Still (T : List Nat) (F : World → Prop) (listed : Array Bool) (w : World) : Prop := (∀ t ∈ T, listed.getD t false = false) → F w

/-- Whoever is listed, what it waits for is listed. -/
def Closed (ops : Array Oper) (listed : Array Bool) : Prop :=
  ∀ j oj, ops[j]? = some oj → listed.getD j false = true → ∀ e ∈ oj.after, Region.binds .any e = true → listed.getD e.on false = true

theorem Closed.set {listed : Array Bool} {i : Nat} (h : Closed ops listed) (hi : i ∈ Region.ready .any ops listed) : Closed ops (listed.setIfInBounds i true) := by
  obtain ⟨_, oi, hoi, hall⟩ := mem_ready.1 hi
  intro j oj hj hl e he hb
  by_cases hij : i = j
  · subst hij
    have : oj = oi := Option.some.inj (hj.symm.trans hoi)
    subst this
    exact getD_set_true (hall e he hb)
  · rw [getD_set_ne false hij] at hl
    exact getD_set_true (h j oj hj hl e he hb)

/-- Does `t` wait for `i`, at once or through others? -/
def reach (ops : Array Oper) : Nat → Nat → Nat → Bool
  | 0, _, _ => false
  | f + 1, t, i =>
    match ops[t]? with
    | some o => o.after.any fun e => Region.binds .any e && (e.on == i || reach ops f e.on i)
    | none => false

theorem reach_listed {listed : Array Bool} (h : Closed ops listed) : ∀ (f t i : Nat), reach ops f t i = true → listed.getD t false = true → listed.getD i false = true
  | 0, _, _, h', _ => by simp [reach] at h'
  | f + 1, t, i, hr, hl => by
    unfold reach at hr
    split at hr
    · rename_i o ho
      obtain ⟨e, he, hb⟩ := Array.any_eq_true'.1 hr
      simp only [Bool.and_eq_true, Bool.or_eq_true, beq_iff_eq] at hb
      have h1 := h t o ho hl e he hb.1
      rcases hb.2 with h2 | h2
      · rw [← h2]; exact h1
      · exact reach_listed h f e.on i h2 h1
    · cases hr

/-- Whatever order is picked from here on. -/
def wpAnyL (P : Program) (ops : Array Oper) (Q : Exit → Act → World → Prop) (T : List Nat) (F : World → Prop) : Nat → Array Bool → Act → World → Prop
  | 0, listed, a, w => Region.ready .any ops listed = [] ∧ Q .normal a w
  | fuel + 1, listed, a, w =>
    (Region.ready .any ops listed = [] → Q .normal a w) ∧
    ∀ i ∈ Region.ready .any ops listed, wpOp P ops Q i (fun a' w' => Still T F (listed.setIfInBounds i true) w' ∧ wpAnyL P ops Q T F fuel (listed.setIfInBounds i true) a' w') a w

theorem wpAny_of_L : ∀ (fuel : Nat) (listed : Array Bool) (a : Act) (w : World), wpAnyL P ops Q T F fuel listed a w → wpAny P .any ops Q fuel listed a w
  | 0, _, _, _, h => h
  | fuel + 1, _, _, _, h => ⟨h.1, fun i hi => wpOp_mono (fun a' w' h' => wpAny_of_L fuel _ a' w' h'.2) (h.2 i hi)⟩

theorem Still.less {listed : Array Bool} {i : Nat} {w : World} (hi : i ∉ T) (h : Still T F (listed.setIfInBounds i true) w) : Still T F listed w := fun hT => h fun t ht => by
  rw [getD_set_ne false (fun e => hi (by rw [e]; exact ht))]; exact hT t ht

theorem Still.more {listed : Array Bool} {i : Nat} {w : World} (h : Still T F listed w) : Still T F (listed.setIfInBounds i true) w := fun hT => h fun t ht => by
  have := hT t ht
  cases hl : listed.getD t false with
  | false => rfl
  | true => rw [getD_set_true hl] at this; cases this

theorem Still.off {listed : Array Bool} {w : World} (t : Nat) (h : T.contains t = true) (h' : listed.getD t false = true) : Still T F listed w := fun hT => by
  rw [hT t (by simpa using h)] at h'; cases h'

/-- The worlds in which number `i` may come up. -/
def Ahead (ops : Array Oper) (T : List Nat) (F : World → Prop) (i : Nat) (w : World) : Prop := ∃ L, Closed ops L ∧ L.getD i false = false ∧ Still T F L w

theorem wpAnyL_first {i : Nat} {oi : Oper} {v : Value} (hi : ops[i]? = some oi) (hsel : ∀ (j : Nat) (o : Oper) cs b, ops[j]? = some o → o.op ≠ .select cs b)
    (hQ : ∀ c a w, Q (.panic c) (a.put oi.dst v) w → Q (.panic c) a w) (hiT : i ∉ T) :
    ∀ (fuel : Nat) (listed : Array Bool) (a : Act) (w : World), Closed ops listed →
      (∀ j oj, ops[j]? = some oj → j ≠ i → listed.getD j true = false → (∀ e ∈ oj.after, Region.binds .any e = true → e.on ≠ i) → oi.apart ops oj = true) →
      i ∈ Region.ready .any ops listed → YieldsIf P ops (Ahead ops T F i) oi v a → Still T F listed w →
      wpAnyL P ops Q T F fuel (listed.setIfInBounds i true) (a.put oi.dst v) w → wpAnyL P ops Q T F (fuel + 1) listed a w := by
  intro fuel
  induction fuel with
  | zero =>
    intro listed a w hcl _ hr hy hS H
    have hun := (mem_ready.1 hr).1
    refine ⟨fun h => (by rw [h] at hr; cases hr), fun j hj => ?_⟩
    by_cases hji : j = i
    · subst hji; exact hy.wpOp hi ⟨listed, hcl, getD_both hun, hS⟩ ⟨hS.more, H⟩
    · have := ready_mono hj hji
      rw [H.1] at this
      cases this
  | succ fuel ih =>
    intro listed a w hcl hfree hr hy hS H
    have hun := (mem_ready.1 hr).1
    refine ⟨fun h => (by rw [h] at hr; cases hr), fun j hj => ?_⟩
    by_cases hji : j = i
    · subst hji; exact hy.wpOp hi ⟨listed, hcl, getD_both hun, hS⟩ ⟨hS.more, H⟩
    · have h1 := H.2 j (ready_mono hj hji)
      obtain ⟨hjun, oj, hoj, hall⟩ := mem_ready.1 hj
      have hnot : ∀ e ∈ oj.after, Region.binds .any e = true → e.on ≠ i := fun e he hb heq => by
        have h1 := hall e he hb
        have h0 := (mem_ready.1 hr).1
        rw [heq] at h1
        rw [getD_both h0] at h1; cases h1
      have h2 := wpOp_putIf hoj (hfree j oj hoj hji hjun hnot) (fun cs b => hsel i oi cs b hi) (fun cs b => hsel j oj cs b hoj) hQ hy h1
      have hfree' : ∀ k ok, ops[k]? = some ok → k ≠ i → (listed.setIfInBounds j true).getD k true = false →
          (∀ e ∈ ok.after, Region.binds .any e = true → e.on ≠ i) → oi.apart ops ok = true := fun k ok hk hki hun hno => by
        refine hfree k ok hk hki ?_ hno
        by_cases hjk : j = k
        · subst hjk; exact hjun
        · rw [getD_set_ne true hjk] at hun; exact hun
      refine wpOp_mono (fun a' w' h3 => ?_) h2
      have h4 : Still T F (listed.setIfInBounds j true) w' := by
        have := h3.2.1
        rw [Array.setIfInBounds_comm _ _ (Ne.symm hji)] at this
        exact this.less hiT
      refine ⟨h4, ih (listed.setIfInBounds j true) a' w' (hcl.set hj) hfree' (ready_mono hr (Ne.symm hji)) h3.1 h4 ?_⟩
      rw [Array.setIfInBounds_comm _ _ hji]
      exact h3.2.2

/-- A state of the walk: what is listed is closed, the facts stand. -/
def WR (P : Program) (ops : Array Oper) (Q : Exit → Act → World → Prop) (T : List Nat) (F : World → Prop) (fuel : Nat) (listed : Array Bool) (a : Act) (w : World) : Prop :=
  Closed ops listed → Still T F listed w → wpAnyL P ops Q T F fuel listed a w

variable {i : Nat} {oi : Oper} {v : Value} {fuel : Nat} {listed : Array Bool} {a : Act} {w : World}

/-- An operation that reads no memory is taken first. -/
theorem wr_pure (i : Nat) {oi : Oper} (v : Value) (hi_ : ops.toList[i]? = some oi) (hs : Region.noSelect ops = true) (hf : Region.free .any ops listed i = true) (hr : (Region.ready .any ops listed).contains i = true)
    (hQ : ∀ c a w, Q (.panic c) (a.put oi.dst v) w → Q (.panic c) a w) (hT : T.contains i = false)
    (hw : Region.wanted oi (yielded ops a.tmps) = true) (hy : ∀ w, (execOp a.eval oi).run P w = .ok (.value v) w)
    (h : WR P ops Q T F fuel (listed.setIfInBounds i true) (a.put oi.dst v) w) : WR P ops Q T F (fuel + 1) listed a w := fun hcl hS =>
  have hi : ops[i]? = some oi := by simpa using hi_
  have hr' : i ∈ Region.ready .any ops listed := by simpa using hr
  wpAnyL_first hi (Region.noSelect_spec hs) hQ (by simpa using hT) fuel listed a w hcl (Region.free_spec hi hf) hr' (.inl ⟨hw, fun w _ => hy w⟩) hS (h (hcl.set hr') hS.more)

/-- One that is passed over. -/
theorem wr_skip (i : Nat) {oi : Oper} (hi_ : ops.toList[i]? = some oi) (hs : Region.noSelect ops = true) (hf : Region.free .any ops listed i = true) (hr : (Region.ready .any ops listed).contains i = true)
    (hQ : ∀ c a w, Q (.panic c) (a.put oi.dst undef) w → Q (.panic c) a w) (hT : T.contains i = false)
    (hw : Region.wanted oi (yielded ops a.tmps) = false)
    (h : WR P ops Q T F fuel (listed.setIfInBounds i true) (a.put oi.dst undef) w) : WR P ops Q T F (fuel + 1) listed a w := fun hcl hS =>
  have hi : ops[i]? = some oi := by simpa using hi_
  have hr' : i ∈ Region.ready .any ops listed := by simpa using hr
  wpAnyL_first hi (Region.noSelect_spec hs) hQ (by simpa using hT) fuel listed a w hcl (Region.free_spec hi hf) hr' (.inr ⟨hw, rfl⟩) hS (h (hcl.set hr') hS.more)

/-- One that reads memory is taken first, if all of `T` wait for it. -/
theorem wr_read (i : Nat) {oi : Oper} (v : Value) (hi_ : ops.toList[i]? = some oi) (hs : Region.noSelect ops = true) (hf : Region.free .any ops listed i = true) (hr : (Region.ready .any ops listed).contains i = true)
    (hQ : ∀ c a w, Q (.panic c) (a.put oi.dst v) w → Q (.panic c) a w) (hT : T.contains i = false) (hw8 : (T.all fun t => reach ops ops.size t i) = true)
    (hw : Region.wanted oi (yielded ops a.tmps) = true) (hy : ∀ w, F w → (execOp a.eval oi).run P w = .ok (.value v) w)
    (h : WR P ops Q T F fuel (listed.setIfInBounds i true) (a.put oi.dst v) w) : WR P ops Q T F (fuel + 1) listed a w := fun hcl hS =>
  have hi : ops[i]? = some oi := by simpa using hi_
  have hr' : i ∈ Region.ready .any ops listed := by simpa using hr
  wpAnyL_first hi (Region.noSelect_spec hs) hQ (by simpa using hT) fuel listed a w hcl (Region.free_spec hi hf) hr' (.inl ⟨hw, fun w ⟨L, hL, hn, hSt⟩ => hy w (hSt fun t ht => by
    cases hl : L.getD t false with
    | false => rfl
    | true =>
      have := reach_listed hL ops.size t i (List.all_eq_true.1 hw8 t ht) hl
      rw [hn] at this; cases this)⟩) hS (h (hcl.set hr') hS.more)

/-- The only one that may come up is carried out. -/
theorem wr_do (i : Nat) {oi : Oper} (hi_ : ops.toList[i]? = some oi) (hr : Region.ready .any ops listed = [i]) (hw : Region.wanted oi (yielded ops a.tmps) = true)
    (h : ∀ K : Act → World → Prop, (∀ a' w', Still T F (listed.setIfInBounds i true) w' ∧ WR P ops Q T F fuel (listed.setIfInBounds i true) a' w' → K a' w') → oi.wp P a w K Q) : WR P ops Q T F (fuel + 1) listed a w := fun hcl hS =>
  have hi : ops[i]? = some oi := by simpa using hi_
  ⟨fun h0 => (by rw [hr] at h0; cases h0), fun j hj => by
    rw [hr] at hj
    obtain rfl : j = i := by simpa using hj
    have hm : j ∈ Region.ready .any ops listed := by rw [hr]; simp
    unfold wpOp
    rw [hi]
    simp only [hw, if_true]
    refine .inl (Oper.wp_mono (fun a' w' h' => ?_) (h _ fun _ _ h' => h'))
    exact ⟨h'.1, h'.2 (hcl.set hm) h'.1⟩⟩

/-- Either of two that may come up. -/
theorem wr_two (i j : Nat) {oi oj : Oper} (hi_ : ops.toList[i]? = some oi) (hj_ : ops.toList[j]? = some oj) (hr : Region.ready .any ops listed = [i, j]) (hwi : Region.wanted oi (yielded ops a.tmps) = true) (hwj : Region.wanted oj (yielded ops a.tmps) = true)
    (h : ∀ K : Act → World → Prop, (∀ a' w', Still T F (listed.setIfInBounds i true) w' ∧ WR P ops Q T F fuel (listed.setIfInBounds i true) a' w' → K a' w') → oi.wp P a w K Q)
    (h' : ∀ K : Act → World → Prop, (∀ a' w', Still T F (listed.setIfInBounds j true) w' ∧ WR P ops Q T F fuel (listed.setIfInBounds j true) a' w' → K a' w') → oj.wp P a w K Q) : WR P ops Q T F (fuel + 1) listed a w := fun hcl hS =>
  have hi : ops[i]? = some oi := by simpa using hi_
  have hj : ops[j]? = some oj := by simpa using hj_
  ⟨fun h0 => (by rw [hr] at h0; cases h0), fun k hk => by
    have hm := hk
    rw [hr] at hk
    have hk' : k = i ∨ k = j := by simpa using hk
    rcases hk' with rfl | rfl
    · unfold wpOp
      rw [hi]
      simp only [hwi, if_true]
      refine .inl (Oper.wp_mono (fun a' w' h' => ?_) (h _ fun _ _ h' => h'))
      exact ⟨h'.1, h'.2 (hcl.set hm) h'.1⟩
    · unfold wpOp
      rw [hj]
      simp only [hwj, if_true]
      refine .inl (Oper.wp_mono (fun a' w' h' => ?_) (h' _ fun _ _ h' => h'))
      exact ⟨h'.1, h'.2 (hcl.set hm) h'.1⟩⟩

/-- All have come up. -/
theorem wr_done (hr : Region.ready .any ops listed = []) (h : Q .normal a w) : ∀ fuel, WR P ops Q T F fuel listed a w
  | 0 => fun _ _ => ⟨hr, h⟩
  | _ + 1 => fun _ _ => ⟨fun _ => h, by rw [hr]; simp⟩

/-! A group of operations that may come up in any order: what they leave is told by a relation that each of them keeps. -/
/-- One more is listed. -/
def upd (l : Nat → Bool) (i : Nat) : Nat → Bool := fun j => if j = i then true else l j

theorem upd_same (l : Nat → Bool) (i : Nat) : upd l i i = true := by simp [upd]
theorem upd_ne (l : Nat → Bool) {i j : Nat} (h : j ≠ i) : upd l i j = l j := by simp [upd, h]

/-- Nothing but the group may come up ahead of all the group; and the group waits for nothing but what is listed, and its own earlier ones. -/
def groupOk (ops : Array Oper) (listed : Array Bool) (R : List Nat) : Bool :=
  listed.size == ops.size && R.all (fun r => decide (r < ops.size) && !listed.getD r false) &&
  (List.range ops.size).all (fun j => listed.getD j true || R.contains j || R.all fun r => ((ops[j]?).map fun o => o.after.any fun e => Region.binds .any e && e.on == r).getD false) &&
  R.all fun r => ((ops[r]?).map fun o => o.after.all fun e => !Region.binds .any e || listed.getD e.on false || (R.contains e.on && decide (e.on < r))).getD false

theorem least_of (p : Nat → Bool) (R : List Nat) (h : ∃ r ∈ R, p r = false) : ∃ r ∈ R, p r = false ∧ ∀ q ∈ R, q < r → p q = true := by
  obtain ⟨r, hr, hp⟩ := h
  induction r using Nat.strongRecOn with
  | ind r ih =>
    by_cases hq : ∃ q ∈ R, q < r ∧ p q = false
    · obtain ⟨q, hqR, hlt, hpq⟩ := hq
      exact ih q hlt hqR hpq
    · refine ⟨r, hr, hp, fun q hqR hlt => ?_⟩
      cases hpq : p q with
      | true => rfl
      | false => exact absurd ⟨q, hqR, hlt, hpq⟩ hq

theorem getD_two {L : Array Bool} {j : Nat} (h : j < L.size) : L.getD j true = L.getD j false := by simp [Array.getD, h]

theorem filter_upd (L : Array Bool) (i : Nat) : ∀ (R : List Nat), R.Nodup → i ∈ R → L.getD i false = false → i < L.size →
    (R.filter fun r => L.getD r false == false).length = (R.filter fun r => (L.setIfInBounds i true).getD r false == false).length + 1
  | [], _, h, _, _ => by simp at h
  | x :: R, hnd, hi, hu, hs => by
    have hnd' := List.nodup_cons.1 hnd
    by_cases hx : x = i
    · subst hx
      have e1 : (L.setIfInBounds x true).getD x false = true := by simp [Array.getD, hs]
      have e2 : (R.filter fun r => L.getD r false == false) = R.filter fun r => (L.setIfInBounds x true).getD r false == false := by
        apply List.filter_congr
        intro r hr
        rw [getD_set_ne false (fun (e : x = r) => hnd'.1 (by rw [e]; exact hr))]
      rw [List.filter_cons, if_pos (by rw [hu]; rfl), List.filter_cons, if_neg (by rw [e1]; simp), List.length_cons, e2]
    · have hiR : i ∈ R := by
        rcases List.mem_cons.1 hi with h | h
        · exact absurd h.symm hx
        · exact h
      have ih := filter_upd L i R hnd'.2 hiR hu hs
      have e1 : (L.setIfInBounds i true).getD x false = L.getD x false := getD_set_ne false (fun e => hx e.symm)
      rw [List.filter_cons, List.filter_cons, e1]
      split
      · simp only [List.length_cons]; omega
      · exact ih

theorem fold_get (R : List Nat) : ∀ (L : Array Bool) (j : Nat), (R.foldl (fun L r => L.setIfInBounds r true) L)[j]? = if j ∈ R ∧ j < L.size then some true else L[j]? := by
  induction R with
  | nil => intro L j; simp
  | cons r R ih =>
    intro L j
    rw [List.foldl_cons, ih, Array.size_setIfInBounds]
    by_cases h : j ∈ R ∧ j < L.size
    · rw [if_pos h, if_pos ⟨List.mem_cons_of_mem _ h.1, h.2⟩]
    · rw [if_neg h]
      by_cases hj : j = r
      · subst hj
        by_cases hs : j < L.size
        · rw [if_pos ⟨by simp, hs⟩]; simp [hs]
        · rw [if_neg (fun h => hs h.2)]; simp [Nat.le_of_not_lt hs]
      · rw [if_neg (fun h' => h ⟨(List.mem_cons.1 h'.1).resolve_left hj, h'.2⟩), Array.getElem?_setIfInBounds_ne (fun e => hj e.symm)]

theorem wr_group_aux {R : List Nat} {I : (Nat → Bool) → Act → World → Prop} {listed : Array Bool} {f : Nat} (hok : groupOk ops listed R = true) (hnd : R.Nodup)
    (hstep : ∀ i ∈ R, ∀ (l : Nat → Bool) a w, (∀ o, ops[i]? = some o → ∀ e ∈ o.after, Region.binds .any e = true → l e.on = true) → l i = false → F w → I l a w → wpOp P ops Q i (fun a' w' => F w' ∧ I (upd l i) a' w') a w)
    (hend : ∀ l a w, (∀ r ∈ R, l r = true) → I l a w → F w → wpAnyL P ops Q T F f (R.foldl (fun L r => L.setIfInBounds r true) listed) a w) :
    ∀ (k : Nat) (L : Array Bool) (a : Act) (w : World), L.size = ops.size → (∀ j, j ∉ R → L.getD j true = listed.getD j true) → (R.filter fun r => L.getD r false == false).length = k →
      I (fun j => L.getD j false) a w → F w → wpAnyL P ops Q T F (k + f) L a w := by
  simp only [groupOk, Bool.and_eq_true, List.all_eq_true, decide_eq_true_eq, beq_iff_eq] at hok
  obtain ⟨⟨⟨hsz, hlt⟩, hout⟩, hin⟩ := hok
  intro k
  induction k with
  | zero =>
    intro L a w hL hag hk hI hF
    have hall : ∀ r ∈ R, L.getD r false = true := fun r hr => by
      cases h : L.getD r false with
      | true => rfl
      | false =>
        have := List.length_eq_zero_iff.1 hk
        have h2 : r ∈ R.filter fun r => L.getD r false == false := List.mem_filter.2 ⟨hr, by rw [h]; rfl⟩
        rw [this] at h2; cases h2
    have hLe : L = R.foldl (fun L r => L.setIfInBounds r true) listed := by
      apply Array.ext_getElem?
      intro j
      rw [fold_get]
      by_cases hj : j < ops.size
      · have h1 : L[j]? = some (L.getD j true) := by simp [Array.getD, hL, hj]
        have h2 : listed[j]? = some (listed.getD j true) := by simp [Array.getD, hsz, hj]
        by_cases hr : j ∈ R
        · rw [if_pos ⟨hr, by omega⟩, h1, getD_two (by omega), hall j hr]
        · rw [if_neg (fun h => hr h.1), h1, h2, hag j hr]
      · rw [if_neg (by omega), Array.getElem?_eq_none (by omega), Array.getElem?_eq_none (by omega)]
    have := hend _ a w hall hI hF
    rw [← hLe] at this
    rwa [Nat.zero_add]
  | succ k ih =>
    intro L a w hL hag hk hI hF
    have hex : ∃ r ∈ R, L.getD r false = false := by
      cases hf : R.filter fun r => L.getD r false == false with
      | nil => rw [hf] at hk; simp at hk
      | cons r t =>
        have : r ∈ R.filter fun r => L.getD r false == false := by rw [hf]; simp
        obtain ⟨h1, h2⟩ := List.mem_filter.1 this
        exact ⟨r, h1, by simpa using h2⟩
    rw [show k + 1 + f = (k + f) + 1 by omega]
    have hmem : ∀ i ∈ Region.ready .any ops L, i ∈ R := by
      intro i hi
      obtain ⟨hun, o, ho, hd⟩ := mem_ready.1 hi
      by_cases hiR : i ∈ R
      · exact hiR
      · exfalso
        have hio : i < ops.size := by
          rcases Nat.lt_or_ge i ops.size with h | h
          · exact h
          · rw [Array.getElem?_eq_none h] at ho; cases ho
        have h1 := hout i (List.mem_range.2 hio)
        rw [Bool.or_eq_true, Bool.or_eq_true, List.all_eq_true] at h1
        rcases h1 with (h1 | h1) | h1
        · rw [← hag i hiR, hun] at h1; cases h1
        · exact hiR (by simpa using h1)
        · obtain ⟨r, hr, hrf⟩ := hex
          have h2 := h1 r hr
          rw [ho] at h2
          simp only [Option.map_some, Option.getD_some] at h2
          obtain ⟨e, he, hb⟩ := Array.any_eq_true'.1 h2
          simp only [Bool.and_eq_true, beq_iff_eq] at hb
          have h3 := hd e he hb.1
          rw [hb.2, hrf] at h3; cases h3
    refine ⟨fun h0 => ?_, fun i hi => ?_⟩
    · exfalso
      obtain ⟨r, hr, hrf, hmin⟩ := least_of (fun r => L.getD r false) R hex
      have h1 := hin r hr
      have hro := (hlt r hr)
      have ho : ops[r]? = some ops[r] := Array.getElem?_eq_getElem hro.1
      rw [ho] at h1
      simp only [Option.map_some, Option.getD_some] at h1
      have : r ∈ Region.ready .any ops L := mem_ready.2 ⟨by rw [getD_two (by omega)]; exact hrf, _, ho, fun e he hb => by
        have h2 := Array.all_eq_true'.1 h1 e he
        rw [hb] at h2
        simp only [Bool.not_true, Bool.false_or, Bool.or_eq_true, Bool.and_eq_true, decide_eq_true_eq] at h2
        rcases h2 with h2 | ⟨h2, h3⟩
        · have hnR : e.on ∉ R := fun hm => by
            have := (hlt _ hm).2
            rw [h2] at this; simp at this
          have h4 := hag e.on hnR
          have hs2 : e.on < listed.size := by
            rcases Nat.lt_or_ge e.on listed.size with h | h
            · exact h
            · simp [Array.getD, Nat.not_lt.2 h] at h2
          rw [getD_two (by omega), getD_two hs2, h2] at h4
          exact h4
        · exact hmin _ (by simpa using h2) h3⟩
      rw [h0] at this; cases this
    · have hiR := hmem i hi
      obtain ⟨hun, o, ho, hd⟩ := mem_ready.1 hi
      have hio : i < ops.size := by
        rcases Nat.lt_or_ge i ops.size with h | h
        · exact h
        · rw [Array.getElem?_eq_none h] at ho; cases ho
      have huf : L.getD i false = false := by rw [← getD_two (by omega)]; exact hun
      refine wpOp_mono (fun a' w' h' => ?_) (hstep i hiR (fun j => L.getD j false) a w (fun o' ho' e he hb => by
        rw [ho] at ho'; cases ho'; exact hd e he hb) huf hF hI)
      refine ⟨fun _ => h'.1, ih _ a' w' (by rw [Array.size_setIfInBounds]; exact hL) (fun j hj => ?_) ?_ ?_ h'.1⟩
      · rw [getD_set_ne true (fun (e : i = j) => hj (by rw [← e]; exact hiR))]; exact hag j hj
      · have := filter_upd L i R hnd hiR huf (by omega)
        omega
      · have : (fun j => (L.setIfInBounds i true).getD j false) = upd (fun j => L.getD j false) i := by
          funext j
          by_cases hj : j = i
          · subst hj; rw [upd_same]; simp [Array.getD, hL, hio]
          · rw [upd_ne _ hj, getD_set_ne false (fun e => hj e.symm)]
        rw [this]; exact h'.2

/-- What an operation by its number does. -/
theorem wpOp_of (i : Nat) {oi : Oper} {K : Act → World → Prop} (hi_ : ops.toList[i]? = some oi) (hw : Region.wanted oi (yielded ops a.tmps) = true) (h : oi.wp P a w K Q) : wpOp P ops Q i K a w := by
  have hi : ops[i]? = some oi := by simpa using hi_
  unfold wpOp
  rw [hi]
  simp only [hw, if_true]
  exact .inl h

/-- THE GROUP. -/
theorem wr_group (R : List Nat) (I : (Nat → Bool) → Act → World → Prop) (hok : groupOk ops listed R = true) (hnd : R.Nodup) (hT : T.all (fun t => !listed.getD t false) = true)
    (hI : ∀ l : Nat → Bool, (∀ r ∈ R, l r = false) → F w → I l a w)
    (hstep : ∀ i ∈ R, ∀ (l : Nat → Bool) a w, (∀ o, ops[i]? = some o → ∀ e ∈ o.after, Region.binds .any e = true → l e.on = true) → l i = false → F w → I l a w → wpOp P ops Q i (fun a' w' => F w' ∧ I (upd l i) a' w') a w)
    (hend : ∀ l a w, (∀ r ∈ R, l r = true) → I l a w → F w → WR P ops Q T F fuel (R.foldl (fun L r => L.setIfInBounds r true) listed) a w) : WR P ops Q T F (R.length + fuel) listed a w := fun hcl hS => by
  have hF : F w := hS fun t ht => by
    have := List.all_eq_true.1 hT t ht
    simpa using this
  have hok' := hok
  simp only [groupOk, Bool.and_eq_true, List.all_eq_true, decide_eq_true_eq, beq_iff_eq] at hok'
  obtain ⟨⟨⟨hsz, hlt⟩, hout⟩, hin⟩ := hok'
  have hun : ∀ r ∈ R, listed.getD r false = false := fun r hr => by simpa using (hlt r hr).2
  have hclE : Closed ops (R.foldl (fun L r => L.setIfInBounds r true) listed) := by
    intro j oj hj hl e he hb
    have hjs : j < ops.size := by
      rcases Nat.lt_or_ge j ops.size with h | h
      · exact h
      · rw [Array.getElem?_eq_none h] at hj; cases hj
    have key : ∀ q, (R.foldl (fun L r => L.setIfInBounds r true) listed).getD q false = if q ∈ R ∧ q < listed.size then true else listed.getD q false := by
      intro q
      rw [Array.getD_eq_getD_getElem?, fold_get]
      split
      · rfl
      · rw [Array.getD_eq_getD_getElem?]
    rw [key] at hl ⊢
    by_cases hjR : j ∈ R
    · have h1 := hin j hjR
      rw [hj] at h1
      simp only [Option.map_some, Option.getD_some] at h1
      have h2 := Array.all_eq_true'.1 h1 e he
      rw [hb] at h2
      simp only [Bool.not_true, Bool.false_or, Bool.or_eq_true, Bool.and_eq_true, decide_eq_true_eq] at h2
      rcases h2 with h2 | ⟨h2, _⟩
      · split
        · rfl
        · exact h2
      · have hm : e.on ∈ R := by simpa using h2
        have := (hlt _ hm).1
        rw [if_pos ⟨hm, by omega⟩]
    · rw [if_neg (fun h => hjR h.1)] at hl
      have := hcl j oj hj hl e he hb
      split
      · rfl
      · exact this
  refine wr_group_aux hok hnd hstep (fun l a w h1 h2 h3 => hend l a w h1 h2 h3 hclE (fun _ => h3)) R.length listed a w hsz (fun _ _ => rfl) ?_ (hI _ hun hF) hF
  rw [List.filter_eq_self.2 (fun r hr => by rw [hun r hr]; rfl)]

/-- Some slots of a frame, by the operations that fill them. -/
def putAll (a : Act) : List (Nat × Tmp) → (Nat → Value) → Act
  | [], _ => a
  | (i, d) :: r, vs => (putAll a r vs).put (some d) (vs i)

theorem putAll_comm (a : Act) (d e : Tmp) (u v : Value) (h : d ≠ e) : (a.put (some d) u).put (some e) v = (a.put (some e) v).put (some d) u := by
  simp only [Act.put]
  rw [Array.setIfInBounds_comm _ _ h]

theorem putAll_upd (a : Act) (v : Value) (i : Nat) (d : Tmp) : ∀ (L : List (Nat × Tmp)) (vs : Nat → Value), (L.map (·.1)).Nodup → (L.map (·.2)).Nodup → (i, d) ∈ L →
    (putAll a L vs).put (some d) v = putAll a L (fun j => if j = i then v else vs j)
  | [], _, _, _, h => by simp at h
  | (j, e) :: L, vs, h1, h2, hm => by
    have h1' := List.nodup_cons.1 h1
    have h2' := List.nodup_cons.1 h2
    by_cases hj : j = i
    · subst hj
      have he : d = e := by
        rcases List.mem_cons.1 hm with h | h
        · exact (Prod.mk.injEq .. ▸ h : j = j ∧ d = e).2
        · exact absurd (List.mem_map.2 ⟨_, h, rfl⟩) h1'.1
      subst he
      have e2 : ∀ (L : List (Nat × Tmp)), j ∉ L.map (·.1) → putAll a L vs = putAll a L (fun q => if q = j then v else vs q) := by
        intro L
        induction L with
        | nil => intro _; rfl
        | cons x L ih =>
          intro hn
          obtain ⟨q, z⟩ := x
          simp only [List.map_cons, List.mem_cons, not_or] at hn
          simp only [putAll]
          rw [ih hn.2, if_neg (fun h => hn.1 h.symm)]
      simp only [putAll, if_true]
      rw [← e2 L h1'.1]
      simp only [Act.put, Array.setIfInBounds_setIfInBounds]
    · have hm' : (i, d) ∈ L := by
        rcases List.mem_cons.1 hm with h | h
        · exact absurd (Prod.mk.injEq .. ▸ h : i = j ∧ d = e).1.symm hj
        · exact h
      have hde : d ≠ e := fun h => h2'.1 (List.mem_map.2 ⟨_, hm', h⟩)
      simp only [putAll]
      rw [if_neg hj, putAll_comm _ _ _ _ _ (Ne.symm hde), putAll_upd a v i d L vs h1'.2 h2'.2 hm']

/-- The group, its slots apart: 'J' tells what they hold, and the world. -/
theorem wr_groupV (L : List (Nat × Tmp)) (J : (Nat → Bool) → (Nat → Value) → World → Prop) (hok : groupOk ops listed (L.map (·.1)) = true) (hnd : (L.map (·.1)).Nodup) (hnd2 : (L.map (·.2)).Nodup) (hT : T.all (fun t => !listed.getD t false) = true)
    (h0 : putAll a L (fun _ => undef) = a) (hdst : L.all (fun x => ((ops.toList[x.1]?).map fun o => o.dst == some x.2).getD false) = true) (hJ : ∀ l : Nat → Bool, (∀ r ∈ L.map (·.1), l r = false) → F w → J l (fun _ => undef) w)
    (hstep : ∀ x ∈ L, ∀ (l : Nat → Bool) vs w, (∀ o, ops[x.1]? = some o → ∀ e ∈ o.after, Region.binds .any e = true → l e.on = true) → l x.1 = false → F w → J l vs w →
      ∀ K : Act → World → Prop, (∀ v w', F w' → J (upd l x.1) (fun j => if j = x.1 then v else vs j) w' → K ((putAll a L vs).put (some x.2) v) w') → wpOp P ops Q x.1 K (putAll a L vs) w)
    (hend : ∀ l vs w, (∀ r ∈ L.map (·.1), l r = true) → J l vs w → F w → WR P ops Q T F fuel ((L.map (·.1)).foldl (fun L r => L.setIfInBounds r true) listed) (putAll a L vs) w) : WR P ops Q T F ((L.map (·.1)).length + fuel) listed a w := by
  refine wr_group (L.map (·.1)) (fun l b w => ∃ vs, b = putAll a L vs ∧ J l vs w) hok hnd hT (fun l hl hF => ⟨_, h0.symm, hJ l hl hF⟩) ?_ ?_
  · rintro i hi l b w hd hu hF ⟨vs, rfl, hj⟩
    obtain ⟨x, hx, rfl⟩ := List.mem_map.1 hi
    refine hstep x hx l vs w hd hu hF hj _ (fun v w' hF' hj' => ⟨hF', _, putAll_upd a v x.1 x.2 L vs hnd hnd2 hx, hj'⟩)
  · rintro l b w hl ⟨vs, rfl, hj⟩ hF
    exact hend l vs w hl hj hF

/-- The beginning. -/
theorem wr_begin (T : List Nat) (F : World → Prop) {id : Nat} (hm : P.follows .mixedOrders = true) (hF : F w.drew)
    (h : WR P ops Q T F ops.size (Array.replicate ops.size false) a w.drew) : (Code.region id ops true).wp P Q a w :=
  wp_region_any hm (wpAny_of_L _ _ _ _ (h (fun j _ _ hl => by rw [getD_replicate_false] at hl; cases hl) fun _ => hF))

end
end Acq
