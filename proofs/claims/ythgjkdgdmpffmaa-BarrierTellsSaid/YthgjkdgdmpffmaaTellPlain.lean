/- The plain law of BarrierTells: the program's Arrive and the document's machine tell the same. -/
import Derived.Test.YthgjkdgdmpffmaaRef14
import Derived.Test.YthgjkdgdmpffmaaAwake
set_option linter.unusedSimpArgs false
set_option linter.unusedVariables false
namespace Acq
open Go Go.RowKit Go.Proofs

/-- An Arrive of the program and a machine of the document that stand alike. -/
def Rel (x : ArrS) (y : RefS) : Prop :=
  y.done = false ∧ y.own = x.ow ∧ y.last = x.lst ∧ ((x.nx = 0 ∧ y.at_ = 0 ∧ x.lst = false) ∨ (x.nx = 1 ∧ y.at_ = 1 ∧ x.lst = false) ∨ (x.nx = 2 ∧ y.at_ = 2 ∧ x.lst = true) ∨ (x.nx = 3 ∧ y.at_ = 3 ∧ x.lst = true) ∨ (x.nx = 4 ∧ 2 ≤ y.at_ ∧ x.lst = false))

theorem rel_new : Rel ⟨0, 0, false⟩ ⟨0, 0, false, false⟩ := ⟨rfl, rfl, rfl, .inl ⟨rfl, rfl, rfl⟩⟩

theorem Rel.nx {x : ArrS} {y : RefS} (h : Rel x y) : x.nx = 0 ∨ x.nx = 1 ∨ x.nx = 2 ∨ x.nx = 3 ∨ x.nx = 4 := by
  obtain ⟨_, _, _, h⟩ := h; omega

theorem rel_step {x : ArrS} {y : RefS} (h : Rel x y) {ci si : Nat} {wk : Int} {vals : List Int} {c s : Int} (hc : vals[ci]? = some c) (hs : vals[si]? = some s) :
    (arrStep ci si wk x vals).2 = (refStep ci si wk y vals).2 ∧ (refStep ci si wk y vals).1.last = (arrStep ci si wk x vals).1.lst ∧ (refStep ci si wk y vals).1.done = decide ((arrStep ci si wk x vals).1.nx = 5) ∧
      ((refStep ci si wk y vals).1.done = false → Rel (arrStep ci si wk x vals).1 (refStep ci si wk y vals).1) ∧ (refStep ci si wk y vals).1.at_ ≤ y.at_ + 1 := by
  obtain ⟨nx, ow, lst⟩ := x
  obtain ⟨at_, own, last, done⟩ := y
  obtain ⟨h1, h2, h3, h4⟩ := h
  simp only at h1 h2 h3 h4
  subst h1; subst h2; subst h3
  rcases h4 with ⟨rfl, rfl, rfl⟩ | ⟨rfl, rfl, rfl⟩ | ⟨rfl, rfl, rfl⟩ | ⟨rfl, rfl, rfl⟩ | ⟨rfl, h, rfl⟩
  · simp [arrStep, refStep, Rel]
  · by_cases h1 : c = 1
    · subst h1; simp [arrStep, refStep, Rel, hc]
    · have e : (c - 1 == 0) = false := by simp; omega
      simp [arrStep, refStep, Rel, hc, h1, e]
  · simp [arrStep, refStep, Rel]
  · simp [arrStep, refStep, Rel]
  · have e0 : ¬ at_ = 0 := by omega
    have e1 : ¬ at_ = 1 := by omega
    by_cases h1 : s = own
    · subst h1; simp [arrStep, refStep, Rel, hs, e0, e1]
    · simp [arrStep, refStep, Rel, hs, e0, e1, h1]; omega

/-- The counts stay small. -/
def Vals (n k : Nat) (vals : List Int) : Prop := vals.length = (lay14 n).size ∧ ∃ c s, vals[9]? = some c ∧ vals[10]? = some s ∧ -(k : Int) ≤ c ∧ c ≤ 64

theorem vals_new (n : Nat) (h2 : n ≤ 64) : Vals n 0 (bank14 n) := by
  have hl : (bank14 n).length = (lay14 n).size := by simp [bank14]
  refine ⟨hl, n, 0, ?_, ?_, by omega, by omega⟩
  · rw [bank14]
    rw [List.getElem?_set_ne (by show (10 : Nat) ≠ 9; omega)]
    rw [show (lay14 n).count = 9 from rfl, List.getElem?_set_self (by simp [Lay.size, lay14]; omega)]
  · rw [bank14, show (lay14 n).sense = 10 from rfl, List.getElem?_set_self (by simp [Lay.size, lay14]; omega)]

theorem vals_step {n k : Nat} (hn : n ≤ 64) {vals : List Int} (h : Vals n k vals) (x : ArrS) : Vals n (k + 1) (arrStep 9 10 n x vals).2 := by
  obtain ⟨hl, c, s, hc, hs, h1, h2⟩ := h
  have l1 := (List.getElem?_eq_some_iff.1 hc).1
  have l2 := (List.getElem?_eq_some_iff.1 hs).1
  have same : Vals n (k + 1) vals := ⟨hl, c, s, hc, hs, by omega, h2⟩
  have setc : ∀ v : Int, -((k + 1 : Nat) : Int) ≤ v → v ≤ 64 → Vals n (k + 1) (vals.set 9 v) := fun v hv1 hv2 => ⟨by simp [hl], v, s, by rw [List.getElem?_set_self l1], by rw [List.getElem?_set_ne (by omega)]; exact hs, hv1, hv2⟩
  unfold arrStep
  split
  · exact same
  · split
    · split
      · exact setc 0 (by omega) (by omega)
      · rw [hc]; exact setc (c - 1) (by omega) (by omega)
    · split
      · exact setc n (by omega) (by omega)
      · split
        · exact ⟨by simp [hl], c, x.ow, by rw [List.getElem?_set_ne (by omega)]; exact hc, by rw [List.getElem?_set_self l2], by omega, h2⟩
        · exact same

section
variable {w : World} {g : Nat} {xs : List Int} {c : Nat}

/-- A step of the document, whatever the stage. -/
theorem step14_any {x : ArrS} {y : RefS} (h : Rel x y) (hat : y.at_ ≤ 1000000) (n : Nat) {vals : List Int} (k : Nat) (hk : k ≤ 1000000) (hV : Vals n k vals) (hn : n ≤ 64) (hR : Row64 w g vals) :
    Calls Try.prog 13 #[.agg y.cells.toArray, .agg (lay14 n).cells.toArray, .slice (some ⟨g, 0, none⟩) vals.length c] w (RefPost g vals.length w (refStep 9 10 n y vals)) := by
  obtain ⟨hl, cv, sv, hc, hs, h1, h2⟩ := hV
  have hsz : vals.length ≤ 524288 := by rw [hl]; simp [Lay.size, lay14]; omega
  have l1 := (List.getElem?_eq_some_iff.1 hc).1
  have l2 := (List.getElem?_eq_some_iff.1 hs).1
  obtain ⟨at_, own, last, done⟩ := y
  obtain ⟨hd, _, e3, h4⟩ := h
  simp only at hd e3 h4 hat
  subst hd; subst e3
  rcases h4 with ⟨_, rfl, h5⟩ | ⟨_, rfl, h5⟩ | ⟨_, rfl, h5⟩ | ⟨_, rfl, h5⟩ | ⟨_, h, h5⟩
  · have e : refStep 9 10 n ⟨0, own, x.lst, false⟩ vals = (⟨1, if sv = 0 then 1 else 0, x.lst, false⟩, vals) := by simp [refStep, hs]
    rw [e]; exact step14_look _ _ _ _ _ _ _ _ _ _ _ _ 9 10 own x.lst sv hs _ rfl hR hsz
  · have e : refStep 9 10 n ⟨1, own, x.lst, false⟩ vals = (⟨2, own, cv - 1 == 0, false⟩, vals.set 9 (cv - 1)) := by simp [refStep, hc]
    rw [e, h5]; exact step14_come _ _ _ _ _ _ _ _ _ _ _ _ 9 10 own cv hc (by omega) (by omega) hR hsz
  · rw [h5]
    have e : refStep 9 10 n ⟨2, own, true, false⟩ vals = (⟨3, own, true, false⟩, vals.set 9 n) := by simp [refStep]
    rw [e]; exact step14_reset _ _ _ _ _ _ _ _ _ _ _ _ 9 10 own l1 hR hsz
  · rw [h5]
    have e : refStep 9 10 n ⟨3, own, true, false⟩ vals = (⟨4, own, true, true⟩, vals.set 10 own) := by simp [refStep]
    rw [e]; exact step14_turn _ _ _ _ _ _ _ _ _ _ _ _ 9 10 own l2 hR hsz
  · rw [h5]
    have e : refStep 9 10 n ⟨at_, own, false, false⟩ vals = (⟨at_ + 1, own, false, sv == own⟩, vals) := by
      have e0 : ¬ at_ = 0 := by omega
      have e1 : ¬ at_ = 1 := by omega
      simp [refStep, hs, e0, e1]
    rw [e]; exact step14_wait _ _ _ _ _ _ _ _ _ _ _ _ 9 10 own at_ h hat sv hs hR hsz

end

/-- The cells of a machine of the document, in the midst of a list. -/
def RefL (B : List Value) (o : Nat) (y : RefS) : Prop := B[o]? = some (.int .i64 y.at_) ∧ B[o + 1]? = some (.int .i64 y.own) ∧ B[o + 2]? = some (.bool y.last) ∧ B[o + 3]? = some (.bool y.done)

theorem RefL.put {B : List Value} (o : Nat) (y : RefS) (h : o + 4 ≤ B.length) : RefL (putAt B o y.cells) o y := by
  have e : ∀ k v, y.cells[k]? = some v → (putAt B o y.cells)[o + k]? = some v := fun k v hv => by
    have hk : k < 4 := (List.getElem?_eq_some_iff.1 hv).1
    rw [putAt_get _ _ _ _ h, if_pos (by constructor; omega; show o + k < o + 4; omega), Nat.add_sub_cancel_left]; exact hv
  exact ⟨e 0 _ rfl, e 1 _ rfl, e 2 _ rfl, e 3 _ rfl⟩

theorem RefL.put_other {B : List Value} {o o' : Nat} {y : RefS} (z : RefS) (h : RefL B o y) (hl : o' + 4 ≤ B.length) (ho : o + 4 ≤ o' ∨ o' + 4 ≤ o) : RefL (putAt B o' z.cells) o y := by
  have e : ∀ k, k < 4 → (putAt B o' z.cells)[o + k]? = B[o + k]? := fun k hk => by
    rw [putAt_get _ _ _ _ hl, if_neg]; show ¬ (o' ≤ o + k ∧ o + k < o' + 4); omega
  obtain ⟨h0, h1, h2, h3⟩ := h
  exact ⟨(e 0 (by omega)).trans h0, by rw [e _ (by omega)]; exact h1, by rw [e _ (by omega)]; exact h2, by rw [e _ (by omega)]; exact h3⟩

theorem RefL.range {B : List Value} {o : Nat} {y : RefS} (h : RefL B o y) : ∀ (j : Nat) v, y.cells[j]? = some v → B[o + j]? = some v := by
  obtain ⟨h0, h1, h2, h3⟩ := h
  intro j v hv
  have hj : j < 4 := (List.getElem?_eq_some_iff.1 hv).1
  have : j = 0 ∨ j = 1 ∨ j = 2 ∨ j = 3 := by omega
  rcases this with rfl | rfl | rfl | rfl <;> simp [RefS.cells] at hv <;> subst hv
  · exact h0
  · exact h1
  · exact h2
  · exact h3

theorem ArrL.new {A : List Value} (o : Nat) (n : Nat) (h : o + 17 ≤ A.length) : ArrL (putAt A o (lay14 n).arr) o 9 10 n ⟨0, 0, false⟩ := by
  have e : ∀ k v, (lay14 n).arr[k]? = some v → (putAt A o (lay14 n).arr)[o + k]? = some v := fun k v hv => by
    have hk : k < 17 := (List.getElem?_eq_some_iff.1 hv).1
    rw [putAt_get _ _ _ _ h, if_pos (by constructor; omega; show o + k < o + 17; omega), Nat.add_sub_cancel_left]; exact hv
  exact ⟨e 2 _ rfl, e 10 _ rfl, e 11 _ rfl, e 14 _ rfl, e 15 _ rfl, e 16 _ rfl⟩

theorem ArrL.new_other {A : List Value} {o o' n : Nat} {a : ArrS} {m : Nat} (h : ArrL A o 9 10 n a) (hl : o' + 17 ≤ A.length) (ho : o + 17 ≤ o' ∨ o' + 17 ≤ o) : ArrL (putAt A o' (lay14 m).arr) o 9 10 n a := by
  have e : ∀ k, k < 17 → (putAt A o' (lay14 m).arr)[o + k]? = A[o + k]? := fun k hk => by
    rw [putAt_get _ _ _ _ hl, if_neg]; show ¬ (o' ≤ o + k ∧ o + k < o' + 17); omega
  obtain ⟨h1, h2, h3, h4, h5, h6⟩ := h
  exact ⟨by rw [e _ (by omega)]; exact h1, by rw [e _ (by omega)]; exact h2, by rw [e _ (by omega)]; exact h3, by rw [e _ (by omega)]; exact h4, by rw [e _ (by omega)]; exact h5, by rw [e _ (by omega)]; exact h6⟩

/-- Both tables in memory, with the bank's counts and the document's. -/
structure TR (n : Nat) (w : World) (base lb pb ab tb sb g : Nat) (A B : List Value) (V R : List Int) : Prop where
  lay : Blk w lb (lay14 n).cells 28
  bank : Bank w pb ab V
  tab : Blk w tb A 46
  sab : Blk w sb B 49
  mem : Row64 w g R
  lenA : A.length = 153
  lenB : B.length = 36
  dis : [lb, pb, ab, tb, sb].Nodup
  dig : g ∉ [pb, ab, tb, sb]
  ge : ∀ q ∈ [lb, pb, ab, tb, sb], base ≤ q

section
variable {n : Nat} {w w' : World} {base lb pb ab tb sb g g' : Nat} {A B A' : List Value} {V R V' R' : List Int}

theorem TR.refd (h : TR n w base lb pb ab tb sb g A B V R) (hF : Fr [] w w') (hR : Row64 w' g' R') (hg : g' = g ∨ w.heap.size ≤ g') : TR n w' base lb pb ab tb sb g' A B V R' := by
  refine ⟨h.lay.fr hF (by simp), h.bank.fr hF (by simp) (by simp), h.tab.fr hF (by simp), h.sab.fr hF (by simp), hR, h.lenA, h.lenB, h.dis, ?_, h.ge⟩
  rcases hg with rfl | hg
  · exact h.dig
  · have := h.bank.lt; have := h.tab.lt; have := h.sab.lt
    simp; omega

theorem TR.fr0 (h : TR n w base lb pb ab tb sb g A B V R) (hF : Fr [] w w') : TR n w' base lb pb ab tb sb g A B V R := h.refd hF (h.mem.fr hF (by simp)) (.inl rfl)

theorem TR.setB (h : TR n w base lb pb ab tb sb g A B V R) (o : Nat) (cs : List Value) : TR n (w.setCells sb o cs) base lb pb ab tb sb g A (putAt B o cs) V R := by
  have hF : Fr [sb] w (w.setCells sb o cs) := Fr.setCells (by simp) cs o (Fr.refl _ _)
  have hdis := h.dis
  have hdig := h.dig
  simp only [List.nodup_cons, List.mem_cons, List.not_mem_nil, not_or, or_false] at hdis hdig
  exact ⟨h.lay.fr hF (by simp; omega), h.bank.fr hF (by simp; omega) (by simp; omega), h.tab.fr hF (by simp; omega), Blk.setCells cs o h.sab, h.mem.fr hF (by simp; omega), h.lenA, by rw [putAt_len]; exact h.lenB, h.dis, h.dig, h.ge⟩

theorem TR.setA (h : TR n w base lb pb ab tb sb g A B V R) (o : Nat) (cs : List Value) : TR n (w.setCells tb o cs) base lb pb ab tb sb g (putAt A o cs) B V R := by
  have hF : Fr [tb] w (w.setCells tb o cs) := Fr.setCells (by simp) cs o (Fr.refl _ _)
  have hdis := h.dis
  have hdig := h.dig
  simp only [List.nodup_cons, List.mem_cons, List.not_mem_nil, not_or, or_false] at hdis hdig
  exact ⟨h.lay.fr hF (by simp; omega), h.bank.fr hF (by simp; omega) (by simp; omega), Blk.setCells cs o h.tab, h.sab.fr hF (by simp; omega), h.mem.fr hF (by simp; omega), by rw [putAt_len]; exact h.lenA, h.lenB, h.dis, h.dig, h.ge⟩

theorem TR.stepped (h : TR n w base lb pb ab tb sb g A B V R) (hF : Fr [tb, ab] w w') (hA : Blk w' tb A' 46) (hB : Bank w' pb ab V') (hl : A'.length = 153) : TR n w' base lb pb ab tb sb g A' B V' R := by
  have hdis := h.dis
  have hdig := h.dig
  simp only [List.nodup_cons, List.mem_cons, List.not_mem_nil, not_or, or_false] at hdis hdig
  exact ⟨h.lay.fr hF (by simp; omega), hB, hA, h.sab.fr hF (by simp; omega), h.mem.fr hF (by simp; omega), hl, h.lenB, h.dis, h.dig, h.ge⟩

end

def fupd {α : Type} (f : Nat → α) (i : Nat) (v : α) : Nat → α := fun j => if j = i then v else f j

/-- The tables stand alike. -/
structure TL (n k : Nat) (A B : List Value) (xs : Nat → ArrS) (ys : Nat → RefS) (vals : List Int) : Prop where
  lenA : A.length = 153
  lenB : B.length = 36
  vals : Vals n k vals
  at_ : ∀ i, i < 9 → ArrL A (i * 17) 9 10 n (xs i) ∧ RefL B (i * 4) (ys i) ∧ Rel (xs i) (ys i) ∧ (ys i).at_ ≤ k

section
variable {n k : Nat} {A B : List Value} {xs : Nat → ArrS} {ys : Nat → RefS} {vals : List Int}

theorem TL.put (h : TL n k A B xs ys vals) (hn : n ≤ 64) (i : Nat) (hi : i < 9) {A' B' : List Value} {x : ArrS} {y : RefS} (hA : A'.length = 153) (hB : B'.length = 36)
    (h1 : ArrL A' (i * 17) 9 10 n x) (h2 : RefL B' (i * 4) y) (h3 : Rel x y) (h4 : y.at_ ≤ k + 1)
    (oA : ∀ j, j < 9 → j ≠ i → ArrL A (j * 17) 9 10 n (xs j) → ArrL A' (j * 17) 9 10 n (xs j)) (oB : ∀ j, j < 9 → j ≠ i → RefL B (j * 4) (ys j) → RefL B' (j * 4) (ys j)) :
    TL n (k + 1) A' B' (fupd xs i x) (fupd ys i y) (arrStep 9 10 n (xs i) vals).2 := by
  refine ⟨hA, hB, vals_step hn h.vals _, fun j hj => ?_⟩
  by_cases hji : j = i
  · subst hji; simp only [fupd, if_pos]; exact ⟨h1, h2, h3, h4⟩
  · simp only [fupd, if_neg hji]
    obtain ⟨g1, g2, g3, g4⟩ := h.at_ j hj
    exact ⟨oA j hj hji g1, oB j hj hji g2, g3, by omega⟩

theorem TL.step (h : TL n k A B xs ys vals) (hn : n ≤ 64) (i : Nat) (hi : i < 9) (hd : (refStep 9 10 n (ys i) vals).1.done = false) :
    TL n (k + 1) (putArr A (i * 17) (arrStep 9 10 n (xs i) vals).1) (putAt B (i * 4) (refStep 9 10 n (ys i) vals).1.cells) (fupd xs i (arrStep 9 10 n (xs i) vals).1) (fupd ys i (refStep 9 10 n (ys i) vals).1) (arrStep 9 10 n (xs i) vals).2 := by
  obtain ⟨g1, g2, g3, g4⟩ := h.at_ i hi
  obtain ⟨_, c, s, hc, hs, _⟩ := h.vals
  obtain ⟨_, _, _, e4, e5⟩ := rel_step g3 (wk := n) hc hs
  have la := h.lenA; have lb := h.lenB
  exact h.put hn i hi (by rw [putArr_len]; exact h.lenA) (by rw [putAt_len]; exact h.lenB) (g1.put _) (RefL.put _ _ (by omega)) (e4 hd) (by omega)
    (fun j _ hji hj => hj.put_other _ (by omega)) (fun j _ hji hj => hj.put_other _ (by omega) (by omega))

theorem TL.again (h : TL n k A B xs ys vals) (hn : n ≤ 64) (i : Nat) (hi : i < 9) (x : ArrS) (y : RefS) :
    TL n (k + 1) (putAt (putArr A (i * 17) x) (i * 17) (lay14 n).arr) (putAt (putAt B (i * 4) y.cells) (i * 4) (RefS.mk 0 0 false false).cells) (fupd xs i ⟨0, 0, false⟩) (fupd ys i ⟨0, 0, false, false⟩) (arrStep 9 10 n (xs i) vals).2 := by
  have la := h.lenA; have lb := h.lenB
  have la' : (putArr A (i * 17) x).length = 153 := by rw [putArr_len]; exact la
  have lb' : (putAt B (i * 4) y.cells).length = 36 := by rw [putAt_len]; exact lb
  exact h.put hn i hi (by rw [putAt_len]; exact la') (by rw [putAt_len]; exact lb') (ArrL.new _ _ (by omega)) (RefL.put _ _ (by omega)) rel_new (by show 0 ≤ _; omega)
    (fun j _ hji hj => (hj.put_other _ (by omega)).new_other (by omega) (by omega)) (fun j _ hji hj => (hj.put_other _ (by omega) (by omega)).put_other _ (by omega) (by omega))

end
end Acq
