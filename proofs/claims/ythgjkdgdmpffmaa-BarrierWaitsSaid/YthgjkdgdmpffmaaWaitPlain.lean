/- The plain law of BarrierWaits, on the abstract crowd. -/
import Derived.Test.YthgjkdgdmpffmaaBarPlain
set_option linter.unusedSimpArgs false
set_option linter.unusedVariables false
namespace Acq.Bar

/-- A step of one that has not passed so often yet. -/
def Abs.cstep (n T : Nat) (a : Abs) (i : Nat) : Abs := if a.done i < T then a.step n i else a

def Abs.cround (n T : Nat) (a : Abs) : Nat → Abs
  | 0 => a
  | k + 1 => (a.cround n T k).cstep n T k

def Abs.crounds (n T : Nat) (a : Abs) : Nat → Abs
  | 0 => a
  | r + 1 => (a.crounds n T r).cround n T n

theorem cstep_ok {n T : Nat} {a : Abs} (h : a.ok n) {i : Nat} (hi : i < n) : (a.cstep n T i).ok n := by
  unfold Abs.cstep; split
  · exact step_ok h hi
  · exact h

theorem cround_ok {n T : Nat} {a : Abs} (h : a.ok n) : ∀ k, k ≤ n → (a.cround n T k).ok n
  | 0, _ => h
  | k + 1, hk => cstep_ok (cround_ok h k (by omega)) (by omega)

theorem crounds_ok {n T : Nat} {a : Abs} (h : a.ok n) : ∀ r, (a.crounds n T r).ok n
  | 0 => h
  | r + 1 => cround_ok (crounds_ok h r) n (Nat.le_refl _)

/-- All have begun their last one. -/
def Late (T : Nat) (a : Abs) : Prop := a.g = T ∧ ∀ s ∈ a.sts, s = .old ∨ s = .idle

theorem cstep_early {n T : Nat} {a : Abs} (h : a.g < T) (i : Nat) : a.cstep n T i = a.step n i := by
  have := (done_le a i).1
  unfold Abs.cstep; rw [if_pos (by omega)]

theorem step_hits {n T : Nat} {a : Abs} (h : a.g < T) (i : Nat) : (a.step n i).g < T ∨ Late T (a.step n i) := by
  unfold Abs.step
  split
  · exact .inl h
  · exact .inl h
  · split <;> exact .inl h
  · exact .inl h
  · by_cases e : a.g + 1 < T
    · exact .inl e
    · refine .inr ⟨by show a.g + 1 = T; omega, fun s hs => ?_⟩
      rcases List.mem_or_eq_of_mem_set hs with hm | hm
      · exact .inl (List.eq_of_mem_replicate hm)
      · exact .inr hm
  · exact .inl h

theorem late_step {n T : Nat} {a : Abs} (h : Late T a) (i : Nat) : Late T (a.cstep n T i) := by
  unfold Abs.cstep; split
  · obtain ⟨hg, hs⟩ := h
    cases he : a.sts[i]? with
    | none => unfold Abs.step; rw [he]; exact ⟨hg, hs⟩
    | some s =>
      rcases hs s (List.mem_of_getElem? he) with rfl | rfl
      · unfold Abs.step; rw [he]
        refine ⟨hg, fun s hs' => ?_⟩
        rcases List.mem_or_eq_of_mem_set hs' with hm | hm
        · exact hs s hm
        · exact .inr hm
      · have hd : a.done i = a.g := by unfold Abs.done; rw [he]; simp
        omega
  · exact h

theorem late_round {n T : Nat} {a : Abs} (h : Late T a) : ∀ k, Late T (a.cround n T k)
  | 0 => h
  | k + 1 => late_step (late_round h k) k

theorem early_round {n T : Nat} {a : Abs} (h : a.g < T) : ∀ k, (a.cround n T k = a.round n k ∧ (a.cround n T k).g < T) ∨ Late T (a.cround n T k)
  | 0 => .inl ⟨rfl, h⟩
  | k + 1 => by
    rcases early_round h k with ⟨he, hg⟩ | hl
    · have e1 : a.cround n T (k + 1) = (a.round n k).step n k := by
        show (a.cround n T k).cstep n T k = _
        rw [cstep_early hg, he]
      rw [e1]
      rw [he] at hg
      rcases step_hits (n := n) hg k with h1 | h1
      · exact .inl ⟨rfl, h1⟩
      · exact .inr h1
    · exact .inr (late_step hl k)

theorem early_rounds {n T : Nat} {a : Abs} (h : a.g < T) : ∀ r, (a.crounds n T r = a.rounds n r ∧ (a.crounds n T r).g < T) ∨ Late T (a.crounds n T r)
  | 0 => .inl ⟨rfl, h⟩
  | r + 1 => by
    rcases early_rounds h r with ⟨he, hg⟩ | hl
    · have := early_round (n := n) hg n
      have e1 : a.crounds n T (r + 1) = (a.crounds n T r).cround n T n := rfl
      have e2 : a.rounds n (r + 1) = (a.crounds n T r).round n n := by rw [he]; rfl
      rw [e1, e2]; exact this
    · exact .inr (late_round hl n)

theorem five_more {n : Nat} {a : Abs} (h : a.ok n) : ∀ j, a.g + j ≤ (a.rounds n (5 * j)).g
  | 0 => Nat.le_refl _
  | j + 1 => by
    have h1 := five_more h j
    have h2 := five (rounds_ok h (5 * j))
    rw [rounds_add] at h2
    rw [Nat.mul_succ]; omega

theorem late_after {n T : Nat} {a : Abs} (h : a.ok n) (hg : a.g < T) : Late T (a.crounds n T (5 * T)) := by
  rcases early_rounds (n := n) hg (5 * T) with ⟨he, hl⟩ | hl
  · rw [he] at hl
    have := five_more h T
    omega
  · exact hl

theorem late_idle {n T : Nat} {a : Abs} (h : Late T a) (hT : 0 < T) (hl : a.sts.length = n) : ∀ k, k ≤ n → (a.cround n T k).sts.length = n ∧ ∀ i, i < k → (a.cround n T k).sts[i]? = some .idle
  | 0, _ => ⟨hl, fun i hi => by omega⟩
  | k + 1, hk => by
    obtain ⟨h1, h2⟩ := late_idle h hT hl k (by omega)
    obtain ⟨h3, h4⟩ := late_round (n := n) h k
    have hkl : k < (a.cround n T k).sts.length := by omega
    have he := List.getElem?_eq_getElem hkl
    show ((a.cround n T k).cstep n T k).sts.length = n ∧ ∀ i, i < k + 1 → ((a.cround n T k).cstep n T k).sts[i]? = some .idle
    rcases h4 _ (List.getElem_mem hkl) with hs | hs
    · rw [hs] at he
      have hd : (a.cround n T k).done k < T := by unfold Abs.done; rw [he]; simp; omega
      have e1 : (a.cround n T k).cstep n T k = { (a.cround n T k) with sts := (a.cround n T k).sts.set k .idle } := by
        unfold Abs.cstep; rw [if_pos hd]; unfold Abs.step; rw [he]
      rw [e1]
      refine ⟨by simp [h1], fun i hi => ?_⟩
      simp only [set_get _ hkl]
      split
      · rfl
      · rename_i e; exact h2 i (by omega)
    · rw [hs] at he
      have hd : ¬ (a.cround n T k).done k < T := by unfold Abs.done; rw [he]; simp; omega
      have e1 : (a.cround n T k).cstep n T k = a.cround n T k := by unfold Abs.cstep; rw [if_neg hd]
      rw [e1]
      refine ⟨h1, fun i hi => ?_⟩
      by_cases e : i = k
      · subst e; exact he
      · exact h2 i (by omega)

theorem all_idle_of {n T : Nat} {a : Abs} (hg : a.g = T) (hl : a.sts.length = n) (h : ∀ i, i < n → a.sts[i]? = some .idle) : a = ⟨T, List.replicate n .idle⟩ := by
  obtain ⟨g, sts⟩ := a
  simp only at hg hl h
  subst hg
  congr 1
  apply List.ext_getElem?
  intro i
  rw [List.getElem?_replicate]
  split
  · exact h i (by assumption)
  · exact List.getElem?_eq_none (by omega)

theorem idle_stays {n T : Nat} : ∀ k, (Abs.mk T (List.replicate n .idle)).cround n T k = ⟨T, List.replicate n .idle⟩
  | 0 => rfl
  | k + 1 => by
    show ((Abs.mk T (List.replicate n .idle)).cround n T k).cstep n T k = _
    rw [idle_stays k]
    have hd : ¬ (Abs.mk T (List.replicate n .idle)).done k < T := by
      unfold Abs.done
      have : (Abs.mk T (List.replicate n St.idle)).sts[k]? ≠ some .old := by
        simp only [List.getElem?_replicate]; split <;> simp
      rw [if_neg this]; simp
    unfold Abs.cstep; rw [if_neg hd]

theorem idle_stays_rounds {n T : Nat} : ∀ r, (Abs.mk T (List.replicate n .idle)).crounds n T r = ⟨T, List.replicate n .idle⟩
  | 0 => rfl
  | r + 1 => by
    show ((Abs.mk T (List.replicate n .idle)).crounds n T r).cround n T n = _
    rw [idle_stays_rounds r, idle_stays n]

theorem crounds_add {n T : Nat} {a : Abs} (j : Nat) : ∀ k, (a.crounds n T j).crounds n T k = a.crounds n T (j + k)
  | 0 => rfl
  | k + 1 => by show ((a.crounds n T j).crounds n T k).cround n T n = (a.crounds n T (j + k)).cround n T n; rw [crounds_add j k]

/-- Behind thirty rounds a time all have passed just so often. -/
theorem passed {n T : Nat} (h : (Abs.mk 0 (List.replicate n .idle)).ok n) : (Abs.mk 0 (List.replicate n .idle)).crounds n T (30 * T) = ⟨T, List.replicate n .idle⟩ := by
  rcases Nat.eq_zero_or_pos T with rfl | hT
  · rfl
  · have h1 : Late T ((Abs.mk 0 (List.replicate n .idle)).crounds n T (5 * T)) := late_after h hT
    have hl := (crounds_ok (T := T) h (5 * T)).len
    have h2 := late_idle h1 hT hl n (Nat.le_refl _)
    have h3 := late_round (n := n) h1 n
    have e1 : (Abs.mk 0 (List.replicate n .idle)).crounds n T (5 * T + 1) = ⟨T, List.replicate n .idle⟩ := all_idle_of h3.1 h2.1 h2.2
    have e2 := crounds_add (n := n) (T := T) (a := ⟨0, List.replicate n .idle⟩) (5 * T + 1) (30 * T - (5 * T + 1))
    rw [e1, idle_stays_rounds, show 5 * T + 1 + (30 * T - (5 * T + 1)) = 30 * T by omega] at e2
    exact e2.symm

/-- One has not come; all others may. -/
structure Ph (n T k : Nat) (a : Abs) : Prop where
  g : a.g = T
  len : a.sts.length = n
  kk : a.sts[k]? = some .idle
  ho : ∀ (i : Nat) s, i ≠ k → a.sts[i]? = some s → s = .idle ∨ s = .come ∨ s = .wait

theorem Ph.begin {n T k : Nat} (hk : k < n) : Ph n T k ⟨T, List.replicate n .idle⟩ :=
  ⟨rfl, by simp, by simp [hk], fun i s _ hs => .inl (by simp only [List.getElem?_replicate] at hs; split at hs <;> simp at hs; exact hs.symm)⟩

theorem Ph.done {n T k : Nat} {a : Abs} (h : Ph n T k a) (i : Nat) : a.done i = T := by
  unfold Abs.done
  rw [if_neg, h.g]
  intro ho
  by_cases e : i = k
  · subst e; rw [h.kk] at ho; simp at ho
  · rcases h.ho i _ e ho with h | h | h <;> simp at h

theorem Ph.no_turn {n T k : Nat} {a : Abs} (h : Ph n T k a) : .turn ∉ a.sts := fun hm => by
  obtain ⟨i, hi⟩ := turn_mem_iff.1 hm
  by_cases e : i = k
  · subst e; rw [h.kk] at hi; simp at hi
  · rcases h.ho i _ e hi with h | h | h <;> simp at h

/-- How far one is. -/
def St.up : St → St
  | .idle => .come
  | _ => .wait

theorem Ph.step {n T k : Nat} {a : Abs} (h : Ph n T k a) {i : Nat} (hi : i < n) (hk : i ≠ k) : ∃ s, a.sts[i]? = some s ∧ a.step n i = { a with sts := a.sts.set i s.up } ∧ Ph n T k (a.step n i) := by
  have hil : i < a.sts.length := by rw [h.len]; exact hi
  have hs := List.getElem?_eq_getElem hil
  have key : ∀ t : St, (t = .idle ∨ t = .come ∨ t = .wait) → Ph n T k { a with sts := a.sts.set i t } := by
    intro t ht
    refine ⟨h.g, by simp [h.len], ?_, fun j s hj hsj => ?_⟩
    · simp only [set_get _ hil]; rw [if_neg hk]; exact h.kk
    · simp only [set_get _ hil] at hsj
      split at hsj
      · simp at hsj; subst hsj; exact ht
      · exact h.ho j s hj hsj
  rcases h.ho i _ hk hs with e | e | e
  · rw [e] at hs
    have e1 : a.step n i = { a with sts := a.sts.set i .come } := by unfold Abs.step; rw [hs]
    exact ⟨_, hs, e1, by rw [e1]; exact key _ (by simp)⟩
  · rw [e] at hs
    have hc : a.count n ≠ 1 := by
      rw [Abs.count, if_neg h.no_turn]
      have := countP_two St.here a.sts i k _ _ hk hs h.kk rfl rfl
      rw [h.len] at this; omega
    have e1 : a.step n i = { a with sts := a.sts.set i .wait } := by unfold Abs.step; rw [hs]; simp [hc]
    exact ⟨_, hs, e1, by rw [e1]; exact key _ (by simp)⟩
  · rw [e] at hs
    have e1 : a.step n i = a := by unfold Abs.step; rw [hs]
    have e2 : a.sts.set i .wait = a.sts := by
      apply List.ext_getElem?; intro j; simp only [set_get _ hil]; split
      · rename_i e; subst e; rw [hs]
      · rfl
    exact ⟨_, hs, by rw [e1]; show a = { a with sts := a.sts.set i .wait }; rw [e2], by rw [e1]; exact h⟩

/-- So many of the others wait. -/
def Wt (n T k m : Nat) (a : Abs) : Prop := Ph n T k a ∧ ∀ i, i < m → i ≠ k → a.sts[i]? = some .wait

theorem Wt.two {n T k m : Nat} {a : Abs} (h : Wt n T k m a) (hm : m < n) (hk : m ≠ k) : Wt n T k (m + 1) ((a.step n m).step n m) := by
  obtain ⟨hp, hw⟩ := h
  have hml : m < a.sts.length := by rw [hp.len]; exact hm
  obtain ⟨s, hs, e1, hp1⟩ := hp.step hm hk
  obtain ⟨s2, hs2, e2, hp2⟩ := hp1.step hm hk
  refine ⟨hp2, fun i hi hik => ?_⟩
  have h2 : s2 = s.up := by
    rw [e1] at hs2; simp only [set_get _ hml] at hs2; simpa using hs2.symm
  subst h2
  rw [e2]
  have hml1 : m < (a.step n m).sts.length := by rw [hp1.len]; exact hm
  simp only [set_get _ hml1]
  split
  · cases s <;> rfl
  · rename_i e
    rw [e1]
    simp only [set_get _ hml]
    rw [if_neg e]
    exact hw i (by omega) hik

theorem Wt.skip {n T k m : Nat} {a : Abs} (h : Wt n T k m a) (hk : m = k) : Wt n T k (m + 1) a := ⟨h.1, fun i hi hik => h.2 i (by omega) hik⟩

/-- The last one comes: four steps. -/
def last4 (n T k : Nat) (a : Abs) : Nat → Abs
  | 0 => a
  | j + 1 => (last4 n T k a j).step n k

theorem last4_any {n T k : Nat} {a : Abs} (h : Wt n T k n a) (hk : k < n) :
    last4 n T k a 1 = ⟨T, a.sts.set k .come⟩ ∧ last4 n T k a 2 = ⟨T, a.sts.set k .reset⟩ ∧ last4 n T k a 3 = ⟨T, a.sts.set k .turn⟩ ∧ last4 n T k a 4 = ⟨T + 1, (List.replicate n .old).set k .idle⟩ := by
  obtain ⟨hp, hw⟩ := h
  have hkl : k < a.sts.length := by rw [hp.len]; exact hk
  have e1 : last4 n T k a 1 = ⟨T, a.sts.set k .come⟩ := by
    show a.step n k = _
    unfold Abs.step; rw [hp.kk, ← hp.g]
  have hc : (Abs.mk T (a.sts.set k .come)).count n = 1 := by
    have ht : St.turn ∉ a.sts.set k .come := fun hm => by
      rcases List.mem_or_eq_of_mem_set hm with hm | hm
      · exact hp.no_turn hm
      · simp at hm
    rw [Abs.count, if_neg ht]
    have := countP_all_but St.here (a.sts.set k .come) k .come (by simp [set_get _ hkl]) rfl (fun j s hj hs => by
      simp only [set_get _ hkl] at hs
      rw [if_neg (fun e => hj e.symm)] at hs
      have := hw j (by have := get_lt hs; rw [hp.len] at this; exact this) hj
      rw [this] at hs; simp at hs; subst hs; rfl)
    have hl : (a.sts.set k .come).length = n := by simp [hp.len]
    show n - (a.sts.set k .come).countP St.here = 1
    omega
  have g1 : (a.sts.set k .come)[k]? = some .come := by simp [set_get _ hkl]
  have e2 : last4 n T k a 2 = ⟨T, a.sts.set k .reset⟩ := by
    show (last4 n T k a 1).step n k = _
    rw [e1]; unfold Abs.step
    show (match (a.sts.set k .come)[k]? with | some .old => _ | some .idle => _ | some .come => _ | some .reset => _ | some .turn => _ | _ => _) = _
    rw [g1]; simp [hc, List.set_set]
  have g2 : (a.sts.set k .reset)[k]? = some .reset := by simp [set_get _ hkl]
  have e3 : last4 n T k a 3 = ⟨T, a.sts.set k .turn⟩ := by
    show (last4 n T k a 2).step n k = _
    rw [e2]; unfold Abs.step
    show (match (a.sts.set k .reset)[k]? with | some .old => _ | some .idle => _ | some .come => _ | some .reset => _ | some .turn => _ | _ => _) = _
    rw [g2]; simp [List.set_set]
  have g3 : (a.sts.set k .turn)[k]? = some .turn := by simp [set_get _ hkl]
  have e4 : last4 n T k a 4 = ⟨T + 1, (List.replicate n .old).set k .idle⟩ := by
    show (last4 n T k a 3).step n k = _
    rw [e3]; unfold Abs.step
    show (match (a.sts.set k .turn)[k]? with | some .old => _ | some .idle => _ | some .come => _ | some .reset => _ | some .turn => _ | _ => _) = _
    rw [g3]
  exact ⟨e1, e2, e3, e4⟩

theorem last4_ok {n T k : Nat} {a : Abs} (h : a.ok n) (hk : k < n) : ∀ j, (last4 n T k a j).ok n
  | 0 => h
  | j + 1 => step_ok (last4_ok h hk j) hk

theorem last4_done {n T k : Nat} {a : Abs} (h : Wt n T k n a) (hk : k < n) : ∀ j, j ≤ 4 → (last4 n T k a j).done k = if j = 4 then T + 1 else T := by
  have hkl : k < a.sts.length := by rw [h.1.len]; exact hk
  obtain ⟨e1, e2, e3, e4⟩ := last4_any h hk
  intro j hj
  have : j = 0 ∨ j = 1 ∨ j = 2 ∨ j = 3 ∨ j = 4 := by omega
  rcases this with rfl | rfl | rfl | rfl | rfl
  · exact h.1.done k
  · rw [e1]; unfold Abs.done; simp [set_get _ hkl]
  · rw [e2]; unfold Abs.done; simp [set_get _ hkl]
  · rw [e3]; unfold Abs.done; simp [set_get _ hkl]
  · rw [e4]; unfold Abs.done; simp [hk]

theorem last4_g {n T k : Nat} {a : Abs} (h : Wt n T k n a) (hk : k < n) : ∀ j, j ≤ 4 → (last4 n T k a j).g ≤ T + 1 := by
  obtain ⟨e1, e2, e3, e4⟩ := last4_any h hk
  intro j hj
  have : j = 0 ∨ j = 1 ∨ j = 2 ∨ j = 3 ∨ j = 4 := by omega
  rcases this with rfl | rfl | rfl | rfl | rfl
  · show a.g ≤ _; have := h.1.g; omega
  · rw [e1]; show T ≤ T + 1; omega
  · rw [e2]; show T ≤ T + 1; omega
  · rw [e3]; show T ≤ T + 1; omega
  · rw [e4]; show T + 1 ≤ T + 1; omega

/-- So many of the others have passed. -/
structure Fn5 (n T k m : Nat) (a : Abs) : Prop where
  g : a.g = T + 1
  len : a.sts.length = n
  kk : a.sts[k]? = some .idle
  lo : ∀ i, i < m → i < n → i ≠ k → a.sts[i]? = some .idle
  hi : ∀ i, m ≤ i → i < n → i ≠ k → a.sts[i]? = some .old

theorem Fn5.begin {n T k : Nat} (hk : k < n) : Fn5 n T k 0 ⟨T + 1, (List.replicate n .old).set k .idle⟩ := by
  have hl : k < (List.replicate n St.old).length := by simpa using hk
  refine ⟨rfl, by simp, by simp [set_get _ hl], fun i hi => by omega, fun i _ hi hik => ?_⟩
  simp only [set_get _ hl]; rw [if_neg (fun e => hik e.symm)]; simp [hi]

theorem Fn5.step {n T k m : Nat} {a : Abs} (h : Fn5 n T k m a) (hm : m < n) (hk : m ≠ k) : a.done m = T ∧ (a.step n m).done m = T + 1 ∧ Fn5 n T k (m + 1) (a.step n m) := by
  have hs := h.hi m (Nat.le_refl _) hm hk
  have hml : m < a.sts.length := by rw [h.len]; exact hm
  have e1 : a.step n m = { a with sts := a.sts.set m .idle } := by unfold Abs.step; rw [hs]
  refine ⟨by unfold Abs.done; rw [hs, h.g]; simp, ?_, ?_⟩
  · rw [e1]; unfold Abs.done; simp [set_get _ hml, h.g]
  · rw [e1]
    refine ⟨h.g, by simp [h.len], ?_, fun i hi hin hik => ?_, fun i hi hin hik => ?_⟩
    · simp only [set_get _ hml]; rw [if_neg hk]; exact h.kk
    · simp only [set_get _ hml]
      split
      · rfl
      · exact h.lo i (by omega) hin hik
    · simp only [set_get _ hml]
      rw [if_neg (by omega)]; exact h.hi i (by omega) hin hik

theorem Fn5.skip {n T k m : Nat} {a : Abs} (h : Fn5 n T k m a) (hk : m = k) : Fn5 n T k (m + 1) a := ⟨h.g, h.len, h.kk, fun i hi hin hik => h.lo i (by omega) hin hik, fun i hi hin hik => h.hi i (by omega) hin hik⟩

theorem Fn5.count {n T k : Nat} {a : Abs} (h : Fn5 n T k n a) : a.count n = n := by
  have hall : ∀ s ∈ a.sts, s = .idle := by
    intro s hs
    obtain ⟨i, hi⟩ := List.getElem?_of_mem hs
    have hin := get_lt hi
    rw [h.len] at hin
    by_cases e : i = k
    · subst e; rw [h.kk] at hi; simpa using hi.symm
    · rw [h.lo i hin hin e] at hi; simpa using hi.symm
  have ht : St.turn ∉ a.sts := fun hm => by have := hall _ hm; simp at this
  rw [Abs.count, if_neg ht]
  have : a.sts.countP St.here = 0 := by
    rw [List.countP_eq_zero]
    intro s hs; rw [hall s hs]; simp [St.here]
  omega

end Acq.Bar
