/- The crowd in memory is the abstract one: a step of the machine is a step of it. -/
import Derived.Test.YthgjkdgdmpffmaaCNew
import Derived.Test.YthgjkdgdmpffmaaBarPlain
set_option linter.unusedSimpArgs false
set_option linter.unusedVariables false
namespace Acq
open Go Go.RowKit Go.Proofs Bar

def valsOf (n : Nat) (c : Nat) (g : Nat) : List Int := ((List.replicate (lay14 n).size (0 : Int)).set (lay14 n).count (c : Int)).set (lay14 n).sense ((g % 2 : Nat) : Int)

theorem valsOf_len (n c g : Nat) : (valsOf n c g).length = (lay14 n).size := by simp [valsOf]
theorem lay14_lt (n : Nat) : (lay14 n).count < (lay14 n).size ∧ (lay14 n).sense < (lay14 n).size ∧ (lay14 n).count ≠ (lay14 n).sense := by
  simp only [Lay.count, Lay.sense, Lay.size, lay14]; omega
theorem valsOf_count (n c g : Nat) : (valsOf n c g)[(lay14 n).count]? = some (c : Int) := by
  obtain ⟨h1, h2, h3⟩ := lay14_lt n
  simp [valsOf, List.getElem?_set, h1, Ne.symm h3]
theorem valsOf_sense (n c g : Nat) : (valsOf n c g)[(lay14 n).sense]? = some ((g % 2 : Nat) : Int) := by
  obtain ⟨h1, h2, h3⟩ := lay14_lt n
  simp [valsOf, List.getElem?_set, h2]
theorem valsOf_set_count (n c g d : Nat) : (valsOf n c g).set (lay14 n).count (d : Int) = valsOf n d g := by
  obtain ⟨h1, h2, h3⟩ := lay14_lt n
  unfold valsOf
  rw [List.set_comm _ _ h3.symm, List.set_set]
theorem valsOf_set_sense (n c g d : Nat) : (valsOf n c g).set (lay14 n).sense ((d % 2 : Nat) : Int) = valsOf n c d := by
  unfold valsOf
  rw [List.set_set]

/-- What a worker's own three cells hold. -/
def arrOf (g : Nat) : St → ArrS
  | .old => ⟨4, ((g % 2 : Nat) : Int), false⟩
  | .idle => ⟨5, 0, false⟩
  | .come => ⟨1, (((g + 1) % 2 : Nat) : Int), false⟩
  | .wait => ⟨4, (((g + 1) % 2 : Nat) : Int), false⟩
  | .reset => ⟨2, (((g + 1) % 2 : Nat) : Int), true⟩
  | .turn => ⟨3, (((g + 1) % 2 : Nat) : Int), true⟩

def beganOf (g : Nat) : St → Nat
  | .old => g
  | .idle => g
  | _ => g + 1

def doneOf (g : Nat) : St → Nat
  | .old => g - 1
  | _ => g

/-- The crowd in memory, seen as the abstract one. -/
def Rep (X : Nat → Prop) (n : Nat) (a : Abs) (w : World) (base pc pb ab nb bb db : Nat) : Prop :=
  ∃ A lv, CM w base pc pb ab nb bb db (lay14 n).cells n (valsOf n (a.count n) a.g) A (a.sts.map (beganOf a.g)) (a.sts.map (doneOf a.g)) lv (List.replicate a.g 1) ∧ n * 17 ≤ A.length ∧
    (∀ (i : Nat) s, a.sts[i]? = some s → s ≠ .idle → ArrL A (i * 17) (lay14 n).count (lay14 n).sense n (arrOf a.g s)) ∧ ∀ q, lv.ownBlock = some q → ¬ X q

theorem putAt_other {A : List Value} {oa oa' ci si : Nat} {wk : Int} {x : ArrS} (h : ArrL A oa ci si wk x) (cs : List Value) (hc : cs.length = 17) (hl : oa' + 17 ≤ A.length) (ho : oa + 17 ≤ oa' ∨ oa' + 17 ≤ oa) : ArrL (putAt A oa' cs) oa ci si wk x := by
  have e : ∀ k, k < 17 → (putAt A oa' cs)[oa + k]? = A[oa + k]? := by
    intro k hk
    rw [putAt_get cs A oa' _ (by omega), if_neg (by omega)]
  obtain ⟨h1, h2, h3, h4, h5, h6⟩ := h
  exact ⟨by rw [e _ (by omega)]; exact h1, by rw [e _ (by omega)]; exact h2, by rw [e _ (by omega)]; exact h3, by rw [e _ (by omega)]; exact h4, by rw [e _ (by omega)]; exact h5, by rw [e _ (by omega)]; exact h6⟩

theorem putAt_fresh {A : List Value} (l : Lay) (oa : Nat) (hl : oa + 17 ≤ A.length) : ArrL (putAt A oa l.arr) oa l.count l.sense l.workers ⟨0, 0, false⟩ := by
  have e : ∀ k, k < 17 → (putAt A oa l.arr)[oa + k]? = l.arr[k]? := by
    intro k hk
    rw [putAt_get l.arr A oa _ (by show oa + 17 ≤ _; exact hl), if_pos (by show _ ∧ oa + k < oa + 17; omega), Nat.add_sub_cancel_left]
  exact ⟨by rw [e _ (by omega)]; rfl, by rw [e _ (by omega)]; rfl, by rw [e _ (by omega)]; rfl, by rw [e _ (by omega)]; rfl, by rw [e _ (by omega)]; rfl, by rw [e _ (by omega)]; rfl⟩

theorem map_set_same {α β : Type} (f : α → β) {l : List α} {i : Nat} {x y : α} (h : l[i]? = some x) (he : f x = f y) : (l.set i y).map f = l.map f := by
  rw [List.map_set]
  exact list_set_self (by simp [h, he])

theorem map_ext_get {α β : Type} (f g : α → β) (l l' : List α) (hl : l.length = l'.length) (h : ∀ (i : Nat) x y, l[i]? = some x → l'[i]? = some y → f x = g y) : l.map f = l'.map g := by
  apply List.ext_getElem?
  intro i
  simp only [List.getElem?_map]
  by_cases hi : i < l.length
  · have h1 := List.getElem?_eq_getElem hi
    have h2 := List.getElem?_eq_getElem (show i < l'.length by omega)
    rw [h1, h2]
    simp only [Option.map_some, Option.some.injEq]
    exact h i _ _ h1 h2
  · rw [List.getElem?_eq_none (by omega), List.getElem?_eq_none (by omega)]; rfl

section
variable {n : Nat} {a : Abs}

theorem countP_set {α : Type} (p : α → Bool) : ∀ (l : List α) (i : Nat) (x y : α), l[i]? = some x → (l.set i y).countP p + (if p x then 1 else 0) = l.countP p + (if p y then 1 else 0)
  | [], i, x, y, h => by simp at h
  | z :: l, 0, x, y, h => by
    simp at h; subst h
    simp only [List.set_cons_zero, List.countP_cons]; omega
  | z :: l, i + 1, x, y, h => by
    have ih := countP_set p l i x y (by simpa using h)
    simp only [List.set_cons_succ, List.countP_cons]; omega

theorem no_turn_of (h : a.ok n) {i : Nat} {s : St} (hi : a.sts[i]? = some s) (hs : s ≠ .wait) (hr : s ≠ .reset) (ht : s ≠ .turn) : (∀ j : Nat, a.sts[j]? ≠ some .turn) := by
  rcases h.either with ⟨hno, _⟩ | ⟨k, hk, ho⟩
  · exact fun j => (hno j).2
  · by_cases e : i = k
    · subst e; rcases hk with hk | hk <;> rw [hi] at hk <;> simp at hk <;> contradiction
    · exact absurd (ho i s e hi) hs

theorem not_turn_mem (h : ∀ j : Nat, a.sts[j]? ≠ some .turn) : .turn ∉ a.sts := fun hm => by
  obtain ⟨k, hk⟩ := turn_mem_iff.1 hm; exact h k hk

/-- The count, when one goes from a stand to another one, and nobody turns. -/
theorem count_set (h : ∀ j : Nat, a.sts[j]? ≠ some .turn) {i : Nat} {s t : St} (hi : a.sts[i]? = some s) (ht : t ≠ .turn) (g : Nat) :
    (Abs.mk g (a.sts.set i t)).count n = n - (a.sts.countP St.here + (if t.here then 1 else 0) - (if s.here then 1 else 0)) := by
  have hm : St.turn ∉ a.sts.set i t := fun hm => by
    rcases List.mem_or_eq_of_mem_set hm with hm | hm
    · exact not_turn_mem h hm
    · exact ht hm.symm
  rw [Abs.count, if_neg hm]
  have := countP_set St.here a.sts i s t hi
  show n - (a.sts.set i t).countP St.here = _
  split at this <;> split at this <;> simp_all <;> omega

theorem count_here {i : Nat} {s : St} (hi : a.sts[i]? = some s) : a.sts.countP St.here ≤ a.sts.length ∧ (s.here = false → a.sts.countP St.here < a.sts.length) :=
  ⟨List.countP_le_length, fun h => countP_lt_of St.here a.sts i s hi h⟩

theorem CM.belowX {X : Nat → Prop} {w w' : World} {base pc pb ab nb bb db : Nat} {ls : List Value} {vals : List Int} {A : List Value} {began done : List Nat} {lv : Value} {lasts : List Nat} (h : CM w base pc pb ab nb bb db ls n vals A began done lv lasts)
    {S : List Nat} (hF : Fr S w w') (hS : ∀ x ∈ S, x ∈ [pc, pb, ab, nb, bb, db]) (hX6 : ∀ q ∈ [pc, pb, ab, nb, bb, db], ¬ X q) (hXs : ∀ q, X q → q < w.heap.size) : BelowX base X w w' := hF.belowX (fun x hx => ⟨h.ge x (hS x hx), hX6 x (hS x hx)⟩) h.base_le hXs

/-- One goes from a stand to another one, its times as they were. -/
theorem Rep.of {X : Nat → Prop} {w' : World} {base pc pb ab nb bb db : Nat} {A : List Value} {lv : Value} {i : Nat} {s t : St} {c' : Nat} {r : ArrS} {done' : List Nat} (hs : a.sts[i]? = some s) (hb : beganOf a.g s = beganOf a.g t) (hd : done' = (a.sts.set i t).map (doneOf a.g))
    (hl : n * 17 ≤ A.length) (hC : CM w' base pc pb ab nb bb db (lay14 n).cells n (valsOf n c' a.g) (putArr A (i * 17) r) (a.sts.map (beganOf a.g)) done' lv (List.replicate a.g 1))
    (hc : c' = (Abs.mk a.g (a.sts.set i t)).count n) (hr : t ≠ .idle → r = arrOf a.g t ∧ ∃ x, ArrL A (i * 17) (lay14 n).count (lay14 n).sense n x)
    (hA : ∀ (j : Nat) s, j ≠ i → a.sts[j]? = some s → s ≠ .idle → ArrL A (j * 17) (lay14 n).count (lay14 n).sense n (arrOf a.g s)) (hX : ∀ q, lv.ownBlock = some q → ¬ X q) : Rep X n ⟨a.g, a.sts.set i t⟩ w' base pc pb ab nb bb db := by
  refine ⟨putArr A (i * 17) r, lv, ?_, by rw [putArr_len]; exact hl, ?_, hX⟩
  · subst hc; subst hd
    rw [← map_set_same (beganOf a.g) hs hb] at hC
    exact hC
  · intro j u hu hne
    simp only [List.getElem?_set] at hu
    split at hu
    · rename_i e; subst e
      have : u = t := by split at hu <;> simp at hu; exact hu.symm
      subst this
      obtain ⟨h1, x, h2⟩ := hr hne
      subst h1; exact h2.put _
    · rename_i e
      exact (hA j u (fun h => e h.symm) hu hne).put_other _ (by omega)

/-- What a step of the crowd comes to. -/
def StepRep (X : Nat → Prop) (n : Nat) (a : Abs) (i : Nat) (base pc pb ab nb bb db : Nat) (w : World) (e : Ending) (w' : World) : Prop :=
  e = .returned (.bool true) ∧ Rep X n (a.step n i) w' base pc pb ab nb bb db ∧ BelowX base X w w'

set_option maxHeartbeats 2000000 in
theorem step_rep {w : World} {base pc pb ab nb bb db : Nat} (X : Nat → Prop) (hXs : ∀ q, X q → q < w.heap.size) (hX6 : ∀ q ∈ [pc, pb, ab, nb, bb, db], ¬ X q) (hR : Rep X n a w base pc pb ab nb bb db) (hok : a.ok n) (hn : n ≤ 64) (i : Nat) (hi : i < n) (hg : a.g < 900000) :
    Calls Try.prog 7 #[.pointer (some ⟨pc, 0, none⟩), .int .i64 i] w (StepRep X n a i base pc pb ab nb bb db w) := by
  obtain ⟨A, lv, hC, hAl, hArr, hXl⟩ := hR
  have hlen := hok.len
  obtain ⟨s, hs⟩ : ∃ s, a.sts[i]? = some s := ⟨_, List.getElem?_eq_getElem (by omega)⟩
  have hil : i < a.sts.length := by omega
  have hi17 : i * 17 + 17 ≤ A.length := by omega
  have hdis := hC.dis
  simp only [List.nodup_cons, List.mem_cons, List.not_mem_nil, not_or, or_false] at hdis
  have hpn : pb ≠ nb := by omega
  have han : ab ≠ nb := by omega
  have hlw : (lay14 n).workers = n := rfl
  obtain ⟨hc1, hs1, hcs⟩ := lay14_lt n
  have vc := valsOf_count n (a.count n) a.g
  have vs := valsOf_sense n (a.count n) a.g
  have vl := valsOf_len n (a.count n) a.g
  have hfin : ∀ b, a.step n i = b → ∀ e w', (e = Ending.returned (.bool true) ∧ Rep X n b w' base pc pb ab nb bb db ∧ BelowX base X w w') → StepRep X n a i base pc pb ab nb bb db w e w' := fun b hb e w' h => by
    unfold StepRep; rw [hb]; exact h
  have hAo : ∀ (j : Nat) s, j ≠ i → a.sts[j]? = some s → s ≠ .idle → ArrL A (j * 17) (lay14 n).count (lay14 n).sense n (arrOf a.g s) := fun j s _ h1 h2 => hArr j s h1 h2
  cases s with
  | old =>
    have hA := hArr i _ hs (by simp)
    have hg1 : 1 ≤ a.g := by
      rcases Nat.eq_zero_or_pos a.g with h | h
      · exact absurd (List.mem_of_getElem? hs) (hok.young h)
      · exact h
    have hnt := no_turn_of hok hs (by simp) (by simp) (by simp)
    refine (step_done X hXs hX6 hXl hC rfl i hi a.g (a.g - 1) (by simp [hs, beganOf]) (by simp [hs, doneOf]) (by omega) (⟨5, ((a.g % 2 : Nat) : Int), false⟩, valsOf n (a.count n) a.g) rfl (List.replicate a.g 1) (by simp) (by simp; omega) (lay14 n).count (lay14 n).sense n hn (by simp [hlen]) (hA.put _) ?_ (by omega)
      (fun W hb hB => Step_wait_yes hA hb hB hpn han vs)).mono ?_
    · intro x hx
      obtain ⟨s, hs, rfl⟩ := List.mem_map.1 hx
      cases s <;> simp [beganOf] <;> omega
    · rintro e w' ⟨rfl, lv', hC', hB', hXl'⟩
      refine hfin ⟨a.g, a.sts.set i .idle⟩ (by unfold Abs.step; rw [hs]) _ _ ⟨rfl, ?_, hB'⟩
      refine Rep.of hs rfl ?_ hAl hC' ?_ (fun h => absurd rfl h) hAo hXl'
      · rw [List.map_set]; simp only [doneOf]; rw [show a.g - 1 + 1 = a.g by omega]
      · rw [count_set hnt hs (by simp)]; simp [St.here, Abs.count, not_turn_mem hnt]
  | idle =>
    have hnt := no_turn_of hok hs (by simp) (by simp) (by simp)
    have hfr := putAt_fresh (A := A) (lay14 n) (i * 17) hi17
    rw [hlw] at hfr
    refine (step_new hC i hi a.g (by simp [hs, beganOf]) (by simp [hs, doneOf]) (by omega) hi17 (⟨1, (((a.g + 1) % 2 : Nat) : Int), false⟩, valsOf n (a.count n) a.g) (by simp) (fun W hb hB => ?_)).mono ?_
    · by_cases h0 : a.g % 2 = 0
      · have h1 : (a.g + 1) % 2 = 1 := by omega
        rw [h1]; rw [h0] at vs
        exact Step_look_zero hfr hb hB hpn han vs
      · have h1 : (a.g + 1) % 2 = 0 := by omega
        rw [h1]
        exact Step_look_one hfr hb hB hpn han _ vs (by omega)
    · rintro e w' ⟨rfl, hC', hF'⟩
      refine hfin ⟨a.g, a.sts.set i .come⟩ (by unfold Abs.step; rw [hs]) _ _ ⟨rfl, ?_, hC.belowX hF' (by simp) hX6 hXs⟩
      refine ⟨putArr (putAt A (i * 17) (lay14 n).arr) (i * 17) ⟨1, (((a.g + 1) % 2 : Nat) : Int), false⟩, lv, ?_, by rw [putArr_len, putAt_len]; exact hAl, ?_, hXl⟩
      · have e1 : (a.sts.set i .come).map (beganOf a.g) = (a.sts.map (beganOf a.g)).set i (a.g + 1) := by rw [List.map_set]; rfl
        have e2 : (a.sts.set i .come).map (doneOf a.g) = a.sts.map (doneOf a.g) := map_set_same _ hs rfl
        have e3 : (Abs.mk a.g (a.sts.set i .come)).count n = a.count n := by rw [count_set hnt hs (by simp)]; simp [St.here, Abs.count, not_turn_mem hnt]
        show CM w' base pc pb ab nb bb db _ n (valsOf n ((Abs.mk a.g (a.sts.set i .come)).count n) a.g) _ ((a.sts.set i .come).map (beganOf a.g)) ((a.sts.set i .come).map (doneOf a.g)) lv _
        rw [e1, e2, e3]; exact hC'
      · intro j u hu hne
        simp only [List.getElem?_set] at hu
        split at hu
        · rename_i e; subst e
          have : u = .come := by first | simpa using hu.symm | (split at hu <;> simp at hu; exact hu.symm)
          subst this
          exact hfr.put _
        · rename_i e
          exact (putAt_other (hArr j u hu hne) _ rfl hi17 (by omega)).put_other _ (by omega)
  | come =>
    have hA := hArr i _ hs (by simp)
    have hnt := no_turn_of hok hs (by simp) (by simp) (by simp)
    have hcp := count_pos hok hs
    have hcl := count_le a n
    have hce : a.count n = n - a.sts.countP St.here := by simp [Abs.count, not_turn_mem hnt]
    have hch := (count_here hs).2 rfl
    by_cases hc : a.count n = 1
    · refine (step_on hC rfl i hi (a.g + 1) a.g (by simp [hs, beganOf]) (by simp [hs, doneOf]) (by omega) (⟨2, (((a.g + 1) % 2 : Nat) : Int), true⟩, (valsOf n (a.count n) a.g).set (lay14 n).count 0) (by simp)
        (fun W hb hB => Step_come_end hA hb hB hpn han (by rw [vc, hc]; rfl))).mono ?_
      rintro e w' ⟨rfl, hC', hF'⟩
      refine hfin ⟨a.g, a.sts.set i .reset⟩ (by unfold Abs.step; rw [hs]; simp [hc]) _ _ ⟨rfl, ?_, hC.belowX hF' (by simp) hX6 hXs⟩
      have e1 : (valsOf n (a.count n) a.g).set (lay14 n).count 0 = valsOf n 0 a.g := valsOf_set_count n _ _ 0
      rw [e1] at hC'
      refine Rep.of hs rfl (map_set_same (y := .reset) (doneOf a.g) hs rfl).symm hAl hC' ?_ (fun _ => ⟨rfl, _, hA⟩) hAo hXl
      rw [count_set hnt hs (by simp)]; simp [St.here]; omega
    · refine (step_on hC rfl i hi (a.g + 1) a.g (by simp [hs, beganOf]) (by simp [hs, doneOf]) (by omega) (⟨4, (((a.g + 1) % 2 : Nat) : Int), false⟩, (valsOf n (a.count n) a.g).set (lay14 n).count ((a.count n : Int) - 1)) (by simp)
        (fun W hb hB => Step_come_more hA hb hB hpn han _ vc (by omega) (by omega) (by omega))).mono ?_
      rintro e w' ⟨rfl, hC', hF'⟩
      refine hfin ⟨a.g, a.sts.set i .wait⟩ (by unfold Abs.step; rw [hs]; simp [hc]) _ _ ⟨rfl, ?_, hC.belowX hF' (by simp) hX6 hXs⟩
      have e1 : (valsOf n (a.count n) a.g).set (lay14 n).count ((a.count n : Int) - 1) = valsOf n (a.count n - 1) a.g := by
        rw [show ((a.count n : Int) - 1) = ((a.count n - 1 : Nat) : Int) by omega]; exact valsOf_set_count n _ _ _
      rw [e1] at hC'
      refine Rep.of hs rfl (map_set_same (y := .wait) (doneOf a.g) hs rfl).symm hAl hC' ?_ (fun _ => ⟨rfl, _, hA⟩) hAo hXl
      rw [count_set hnt hs (by simp)]; simp [St.here]; omega
  | wait =>
    have hA := hArr i _ hs (by simp)
    refine (step_on hC rfl i hi (a.g + 1) a.g (by simp [hs, beganOf]) (by simp [hs, doneOf]) (by omega) (⟨4, (((a.g + 1) % 2 : Nat) : Int), false⟩, valsOf n (a.count n) a.g) (by simp)
      (fun W hb hB => Step_wait_no hA hb hB hpn han _ vs (by omega))).mono ?_
    rintro e w' ⟨rfl, hC', hF'⟩
    have est : a.sts.set i .wait = a.sts := list_set_self hs
    refine hfin ⟨a.g, a.sts.set i .wait⟩ (by unfold Abs.step; rw [hs, est]) _ _ ⟨rfl, ?_, hC.belowX hF' (by simp) hX6 hXs⟩
    refine Rep.of hs rfl (map_set_same _ hs rfl).symm hAl hC' (by rw [est]) (fun _ => ⟨rfl, _, hA⟩) hAo hXl
  | reset =>
    have hA := hArr i _ hs (by simp)
    refine (step_on hC rfl i hi (a.g + 1) a.g (by simp [hs, beganOf]) (by simp [hs, doneOf]) (by omega) (⟨3, (((a.g + 1) % 2 : Nat) : Int), true⟩, (valsOf n (a.count n) a.g).set (lay14 n).count (n : Int)) (by simp)
      (fun W hb hB => Step_reset hA hb hB hpn han (by omega))).mono ?_
    rintro e w' ⟨rfl, hC', hF'⟩
    refine hfin ⟨a.g, a.sts.set i .turn⟩ (by unfold Abs.step; rw [hs]) _ _ ⟨rfl, ?_, hC.belowX hF' (by simp) hX6 hXs⟩
    rw [valsOf_set_count] at hC'
    refine Rep.of hs rfl (map_set_same (y := .turn) (doneOf a.g) hs rfl).symm hAl hC' ?_ (fun _ => ⟨rfl, _, hA⟩) hAo hXl
    have : St.turn ∈ a.sts.set i .turn := List.mem_of_getElem? (i := i) (by simp [List.getElem?_set, hil])
    simp [Abs.count, this]
  | turn =>
    have hA := hArr i _ hs (by simp)
    have ho : ∀ (j : Nat) (s : St), j ≠ i → a.sts[j]? = some s → s = .wait := by
      rcases hok.either with ⟨hno, _⟩ | ⟨k, hk, ho⟩
      · exact absurd hs (hno i).2
      · by_cases e : i = k
        · subst e; exact ho
        · exact absurd (ho i _ e hs) (by simp)
    have htm : St.turn ∈ a.sts := List.mem_of_getElem? hs
    have hcn : a.count n = n := by simp [Abs.count, htm]
    refine (step_done X hXs hX6 hXl hC rfl i hi (a.g + 1) a.g (by simp [hs, beganOf]) (by simp [hs, doneOf]) (by omega) (⟨5, (((a.g + 1) % 2 : Nat) : Int), true⟩, (valsOf n (a.count n) a.g).set (lay14 n).sense (((a.g + 1) % 2 : Nat) : Int)) rfl (List.replicate (a.g + 1) 1)
      (by intro _; exact ⟨by simp, by rw [List.replicate_succ']⟩) (by simp) (lay14 n).count (lay14 n).sense n hn (by simp [hlen]) (hA.put _) ?_ (by omega)
      (fun W hb hB => Step_turn hA hb hB hpn han (by omega))).mono ?_
    · intro x hx
      obtain ⟨s, hsm, rfl⟩ := List.mem_map.1 hx
      obtain ⟨k, hk⟩ := List.getElem?_of_mem hsm
      by_cases e : k = i
      · subst e; rw [hs] at hk; simp at hk; subst hk; simp [beganOf]
      · rw [ho k s e hk]; simp [beganOf]
    · rintro e w' ⟨rfl, lv', hC', hB', hXl'⟩
      refine hfin ⟨a.g + 1, (List.replicate n .old).set i .idle⟩ (by unfold Abs.step; rw [hs]) _ _ ⟨rfl, ?_, hB'⟩
      have hlr : i < (List.replicate n St.old).length := by simpa using hi
      refine ⟨putArr A (i * 17) ⟨5, (((a.g + 1) % 2 : Nat) : Int), true⟩, lv', ?_, by rw [putArr_len]; exact hAl, ?_, hXl'⟩
      · rw [valsOf_set_sense, hcn] at hC'
        have e1 : ((List.replicate n St.old).set i .idle).map (beganOf (a.g + 1)) = a.sts.map (beganOf a.g) := by
          refine map_ext_get _ _ _ _ (by simp [hlen]) (fun k x y hx hy => ?_)
          simp only [List.getElem?_set, List.getElem?_replicate] at hx
          by_cases e : k = i
          · subst e; rw [hs] at hy; simp at hy; subst hy; simp [hi] at hx; subst hx; rfl
          · rw [if_neg (fun h => e h.symm)] at hx
            rw [ho k y e hy]
            split at hx <;> simp at hx; subst hx; rfl
        have e2 : ((List.replicate n St.old).set i .idle).map (doneOf (a.g + 1)) = (a.sts.map (doneOf a.g)).set i (a.g + 1) := by
          rw [List.map_set]
          congr 1
          refine map_ext_get _ _ _ _ (by simp [hlen]) (fun k x y hx hy => ?_)
          simp only [List.getElem?_replicate] at hx
          split at hx <;> simp at hx; subst hx
          by_cases e : k = i
          · subst e; rw [hs] at hy; simp at hy; subst hy; rfl
          · rw [ho k y e hy]; rfl
        have e3 : (Abs.mk (a.g + 1) ((List.replicate n St.old).set i .idle)).count n = n := by
          have hm : St.turn ∉ (List.replicate n St.old).set i .idle := fun hm => by
            rcases List.mem_or_eq_of_mem_set hm with hm | hm
            · have := List.eq_of_mem_replicate hm; simp at this
            · simp at hm
          rw [Abs.count, if_neg hm]
          have : ((List.replicate n St.old).set i .idle).countP St.here = 0 := by
            rw [List.countP_eq_zero]
            intro x hx
            rcases List.mem_or_eq_of_mem_set hx with hm | hm
            · rw [List.eq_of_mem_replicate hm]; simp [St.here]
            · rw [hm]; simp [St.here]
          show n - ((List.replicate n St.old).set i .idle).countP St.here = n
          rw [this]; rfl
        show CM w' base pc pb ab nb bb db _ n (valsOf n ((Abs.mk (a.g + 1) ((List.replicate n St.old).set i .idle)).count n) (a.g + 1)) _ (((List.replicate n St.old).set i .idle).map (beganOf (a.g + 1))) (((List.replicate n St.old).set i .idle).map (doneOf (a.g + 1))) lv' _
        rw [e1, e2, e3]; exact hC'
      · intro j u hu hne
        simp only [List.getElem?_set, List.getElem?_replicate] at hu
        by_cases e : j = i
        · subst e; simp [hi] at hu; exact absurd hu.symm hne
        · rw [if_neg (fun h => e h.symm)] at hu
          have hj : j < n := by split at hu <;> simp_all
          rw [if_pos hj] at hu
          obtain rfl : u = .old := by simpa using hu.symm
          obtain ⟨y, hy⟩ : ∃ y, a.sts[j]? = some y := ⟨_, List.getElem?_eq_getElem (by omega)⟩
          obtain rfl := ho j y e hy
          exact (hArr j _ hy (by simp)).put_other _ (by omega)

end
end Acq
