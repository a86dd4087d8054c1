/- container/heap upon a queue: it keeps the bag. -/
import Derived.Test.YtgffejcjacaihaaMeth
set_option linter.unusedSimpArgs false
set_option linter.unnecessarySimpa false
set_option linter.unusedVariables false
namespace Acq
open Go Go.RowKit Go.Proofs

/-- The first `n` are the same, in some order; the others stay. -/
def Bag (n : Nat) (Q Q' : List Spot) : Prop := Q'.length = Q.length ∧ Q'.drop n = Q.drop n ∧ ∀ x, x ∈ Q'.take n ↔ x ∈ Q.take n

theorem Bag.refl (n : Nat) (Q : List Spot) : Bag n Q Q := ⟨rfl, rfl, fun _ => Iff.rfl⟩
theorem Bag.trans {n : Nat} {Q R S : List Spot} (a : Bag n Q R) (b : Bag n R S) : Bag n Q S := ⟨b.1.trans a.1, b.2.1.trans a.2.1, fun x => (b.2.2 x).trans (a.2.2 x)⟩

theorem mem_take_iff {n : Nat} {Q : List Spot} {x : Spot} : x ∈ Q.take n ↔ ∃ k, k < n ∧ Q[k]? = some x := by
  rw [List.mem_iff_getElem?]
  constructor
  · rintro ⟨k, hk⟩
    by_cases h : k < n
    · rw [List.getElem?_take_of_lt h] at hk; exact ⟨k, h, hk⟩
    · rw [List.getElem?_eq_none (by rw [List.length_take]; omega)] at hk; simp at hk
  · rintro ⟨k, h, hk⟩
    exact ⟨k, by rw [List.getElem?_take_of_lt h]; exact hk⟩

theorem bag_swap {n i j : Nat} {Q : List Spot} {p q : Spot} (hi : i < n) (hj : j < n) (hp : Q[i]? = some p) (hq : Q[j]? = some q) : Bag n Q ((Q.set i q).set j p) := by
  have li := (List.getElem?_eq_some_iff.1 hp).1
  have lj := (List.getElem?_eq_some_iff.1 hq).1
  have hg : ∀ k, ((Q.set i q).set j p)[k]? = if k = j then some p else if k = i then some q else Q[k]? := by
    intro k
    rw [List.getElem?_set, List.getElem?_set, List.length_set]
    by_cases h1 : k = j
    · rw [if_pos h1.symm, if_pos h1, if_pos lj]
    · rw [if_neg (Ne.symm h1), if_neg h1]
      by_cases h2 : k = i
      · rw [if_pos h2.symm, if_pos h2, if_pos li]
      · rw [if_neg (Ne.symm h2), if_neg h2]
  refine ⟨by simp, ?_, fun x => ?_⟩
  · apply List.ext_getElem?
    intro k
    rw [List.getElem?_drop, List.getElem?_drop, hg, if_neg (by omega), if_neg (by omega)]
  · rw [mem_take_iff, mem_take_iff]
    constructor
    · rintro ⟨k, hk, h⟩
      rw [hg] at h
      split at h
      · exact ⟨i, hi, hp.trans h⟩
      · split at h
        · exact ⟨j, hj, hq.trans h⟩
        · exact ⟨k, hk, h⟩
    · rintro ⟨k, hk, h⟩
      by_cases h1 : k = i
      · subst h1; exact ⟨j, hj, by rw [hg, if_pos rfl]; exact hp.symm.trans h⟩
      · by_cases h2 : k = j
        · subst h2
          by_cases h3 : i = k
          · omega
          · exact ⟨i, hi, by rw [hg, if_neg h3, if_pos rfl]; exact hq.symm.trans h⟩
        · exact ⟨k, hk, by rw [hg, if_neg h2, if_neg h1]; exact h⟩

section
variable {w w' : World} {base g cap qb : Nat} {Q : List Spot}

theorem up_any (hb : Blk w qb [.slice (some ⟨g, 0, none⟩) Q.length cap] 61) (hqg : qb ≠ g) (h : SpR w base g cap Q) (hm : Q.length ≤ 1000000) (j : Nat) (hj : j < Q.length) :
    Calls Try.prog 39 #[.iface 57 (.pointer (some ⟨qb, 0, none⟩)), .int .i64 j] w fun e w' => e = .returned (.tuple #[]) ∧ ∃ Q', Bag Q.length Q Q' ∧ SpR w' base g cap Q' ∧ Fr [g] w w' := by
  have HB := Lib.hid hb
  generalize hn : Q.length = n at *
  go_enter Try.func39, Try.ntmps39
  go_wp2_with fail
  go_loopw [1, 4] (fun j _ wr => ∃ (j' : Nat) (Q' : List Spot), j = .int .i64 j' ∧ j' < n ∧ Bag n Q Q' ∧ SpR wr base g cap Q' ∧ Fr [g] w wr) (fun j _ _ => (intOf j).toNat)
  case atStart => exact ⟨j, Q, rfl, hj, Bag.refl _ _, h, Fr.refl _ _⟩
  case round =>
    obtain ⟨j', Q1, rfl, hj', hbag, hS, hF⟩ := hrel
    have hl1 : Q1.length = n := by rw [hbag.1, hn]
    have c0 := HB.out.fr hF (by simp; omega) |>.cell (o := 0) rfl
    have HBG := Lib.hid hbag
    clear hbag
    have e1 : wrap64 ((j' : Int) - 1) = (j' : Int) - 1 := by unfold wrap64; omega
    have e3 : ((j' : Int) - 1).tdiv 2 = (((j' - 1) / 2 : Nat) : Int) := by
      rcases Nat.eq_zero_or_pos j' with h0 | h0
      · subst h0; rfl
      · rw [show ((j' : Int) - 1) = ((j' - 1 : Nat) : Int) by omega]; rfl
    have e2 : wrap64 (((j' : Int) - 1).tdiv 2) = (((j' - 1) / 2 : Nat) : Int) := by rw [e3]; unfold wrap64; omega
    by_cases h0 : j' = 0
    · subst h0
      have HF := Lib.hid hF
      have HS := Lib.hid hS
      clear hF hS
      go_wp2_with fail
      go_returns
      exact ⟨rfl, Q1, HBG.out, HS.out, HF.out⟩
    · obtain ⟨i, hi⟩ : ∃ i, i = (j' - 1) / 2 := ⟨_, rfl⟩
      have HE : Hid (((j' : Int) - 1) / 2 = (i : Int)) := Lib.hid (by omega)
      clear e2
      have hij : i < j' := by omega
      clear hi e3
      have q1 : ((i : Int) == (j' : Int)) = false := by simp; omega
      obtain ⟨p, hp⟩ : ∃ p, Q1[i]? = some p := ⟨_, List.getElem?_eq_getElem (by omega)⟩
      obtain ⟨q, hq⟩ : ∃ q, Q1[j']? = some q := ⟨_, List.getElem?_eq_getElem (by omega)⟩
      have hml := meth_less wr qb _ c0
      have HF := Lib.hid hF
      have HS := Lib.hid hS
      have HP := Lib.hid hp
      have HQ := Lib.hid hq
      have HML := Lib.hid hml
      clear hF hS hp hq hml
      go_wp2_with fail
      rw [HML.out, HE.out]
      have hless := less_any HS.out j' i q p HQ.out HP.out
      rw [hl1] at hless
      go_wp2_with fail
      refine hless.mono ?_
      rintro e w2 ⟨rfl, hF2⟩
      have c2 := HB.out.fr (HF.out.trans (hF2.more (by simp))) (by simp; omega) |>.cell (o := 0) rfl
      have HS2 := Lib.hid (HS.out.fr hF2 (by simp))
      have HF2 := Lib.hid (HF.out.trans (hF2.more (S' := [g]) (by simp)))
      clear hF2 hless HML HS c0
      have hsw := swap_any HS2.out i j' p q HP.out HQ.out
      rw [hl1] at hsw
      have HSW := Lib.hid hsw
      have HML := Lib.hid (meth_swap w2 qb _ c2)
      clear hsw
      by_cases hpq : q.1 < p.1
      · have hd : decide (q.1 < p.1) = true := by simp [hpq]
        rw [hd]
        clear hd hpq
        go_wp2_with fail
        rw [HML.out]
        go_wp2_with fail
        refine HSW.out.mono ?_
        rintro e w3 ⟨rfl, hS3, hF3⟩
        have HS3 := Lib.hid hS3
        have HF3 := Lib.hid (HF2.out.trans hF3)
        clear hS3 hF3 HSW HML c2
        go_wp2_with fail
        go_roundw
        case rel => exact ⟨i, _, rfl, by omega, HBG.out.trans (bag_swap (by omega) (by omega) HP.out HQ.out), HS3.out, HF3.out⟩
        case measure => simp [intOf]; omega
      · have hd : decide (q.1 < p.1) = false := by simp [hpq]
        rw [hd]
        clear hd hpq
        go_wp2_with fail
        go_returns
        exact ⟨rfl, Q1, HBG.out, HS2.out, HF2.out⟩


end
end Acq
