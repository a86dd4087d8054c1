/- container/heap upon a queue: Push and Pop. -/
import Derived.Test.YtgffejcjacaihaaPop
set_option linter.unusedSimpArgs false
set_option linter.unnecessarySimpa false
set_option linter.unusedVariables false
namespace Acq
open Go Go.RowKit Go.Proofs
section
variable {w w' : World} {base qb : Nat} {Q : List Spot} {v : Value}

theorem len_row (A : Option Addr) (n c : Nat) (w : World) : Calls Try.prog 28 #[.slice A n c] w fun e w' => e = .returned (.int .i64 n) ∧ w = w' := by
  go_enter Try.func28, Try.ntmps28
  go_wp2_with fail
  go_ret
  exact ⟨rfl, rfl⟩

/-- Where a queue's row lies, before and behind. -/
def Near (v v' : Value) (w : World) : Prop := ∀ g, v'.ownBlock = some g → v.ownBlock = some g ∨ w.heap.size ≤ g

theorem Bag.all {Q Q' : List Spot} (h : Bag Q.length Q Q') (x : Spot) : x ∈ Q' ↔ x ∈ Q := by
  have := h.2.2 x
  rwa [List.take_of_length_le (by rw [h.1]; exact Nat.le_refl _), List.take_of_length_le (Nat.le_refl _)] at this

theorem hpush_any (h : Qu w base qb Q v) (p : Spot) (hm : Q.length ≤ 100000) (hb : base ≤ w.heap.size) :
    Calls Try.prog 27 #[.iface 57 (.pointer (some ⟨qb, 0, none⟩)), .iface 64 (.agg (spot p).toArray)] w fun e w' => e = .returned (.tuple #[]) ∧ ∃ v' Q', Qu w' base qb Q' v' ∧ Q'.length = Q.length + 1 ∧ (∀ x, x ∈ Q' ↔ x = p ∨ x ∈ Q) ∧ Near v v' w ∧ Fr (qb :: v.ownBlock.toList) w w' := by
  have H := Lib.hid h
  clear h
  go_enter Try.func27, Try.ntmps27
  go_wp2_with fail
  refine (push_any H.out p hm hb).mono ?_
  rintro e w2 ⟨rfl, v2, h2, hn2, hF2⟩
  have hl2 : (Q ++ [p]).length = Q.length + 1 := by simp
  obtain ⟨g, cap, rfl, hS2, hgq⟩ := h2.some (by omega)
  have hb2 := h2.blk
  have c2 := hb2.cell (o := 0) rfl
  have HB2 := Lib.hid hb2
  have HS2 := Lib.hid hS2
  have HF2 := Lib.hid hF2
  have HN2 := Lib.hid hn2
  have HL := Lib.hid (meth_len w2 qb _ c2)
  have hup := up_any HB2.out (Ne.symm hgq) HS2.out (by omega) Q.length (by omega)
  rw [hl2] at c2 HL
  have HUP := Lib.hid hup
  clear hb2 h2 hS2 hF2 hn2 hup
  go_wp2_with fail
  rw [HL.out]
  go_wp2_with fail
  refine (len_row _ _ _ _).mono ?_
  rintro e w3 ⟨rfl, rfl⟩
  go_wp2_with fail
  refine HUP.out.mono ?_
  rintro e w4 ⟨rfl, Q4, hbag, hS4, hF4⟩
  have HG := Lib.hid hbag
  have HS4 := Lib.hid hS4
  have HF4 := Lib.hid hF4
  clear hbag hS4 hF4 HUP HL c2
  go_wp2_with fail
  go_returns
  have hl4 : Q4.length = (Q ++ [p]).length := HG.out.1
  refine ⟨rfl, .slice (some ⟨g, 0, none⟩) (Q ++ [p]).length cap, Q4, ?_, by omega, fun x => ?_, HN2.out, ?_⟩
  · have hb4 := HB2.out.fr HF4.out (by simp; omega)
    rw [← hl4] at hb4 ⊢
    exact HS4.out.qu hb4 hgq
  · rw [HG.out.all, List.mem_append, List.mem_singleton]
    constructor <;> rintro (h | h) <;> simp [h]
  · refine ((HF2.out.more (S' := g :: qb :: v.ownBlock.toList) (fun x hx => List.mem_cons_of_mem _ hx)).trans (HF4.out.more (by simp))).less fun x hx hn => ?_
    rcases List.mem_cons.1 hx with rfl | hx
    · rcases HN2.out x rfl with h | h
      · exact absurd (by simp [h]) hn
      · exact h
    · exact absurd hx hn

theorem hpop_any (h : Qu w base qb Q v) (hn : 0 < Q.length) (hm : Q.length ≤ 100000) (hb : base ≤ w.heap.size) :
    Calls Try.prog 29 #[.iface 57 (.pointer (some ⟨qb, 0, none⟩))] w fun e w' => ∃ p, e = .returned (.iface 64 (.agg (spot p).toArray)) ∧ ∃ v' Q', Qu w' base qb Q' v' ∧ Q'.length + 1 = Q.length ∧ (∀ x, x ∈ Q ↔ x = p ∨ x ∈ Q') ∧ v'.ownBlock = v.ownBlock ∧ Fr (qb :: v.ownBlock.toList) w w' := by
  obtain ⟨g, cap, rfl, hS, hgq⟩ := h.some hn
  obtain ⟨n, hQ⟩ : ∃ n, Q.length = n + 1 := ⟨Q.length - 1, by omega⟩
  have hbk := h.blk
  clear h
  have c0 := hbk.cell (o := 0) rfl
  have HL := Lib.hid (meth_len w qb _ c0)
  have HSW := Lib.hid (meth_swap w qb _ c0)
  have HB := Lib.hid hbk
  have HS := Lib.hid hS
  have HQ := Lib.hid hQ
  clear hbk hS c0
  obtain ⟨p, hp⟩ : ∃ p, Q[0]? = some p := ⟨_, List.getElem?_eq_getElem (by omega)⟩
  obtain ⟨q, hq⟩ : ∃ q, Q[n]? = some q := ⟨_, List.getElem?_eq_getElem (by omega)⟩
  have HP := Lib.hid hp
  have HQN := Lib.hid hq
  have hn1 : n + 1 ≤ 100000 := by omega
  clear hp hq hQ hm hn
  rw [HQ.out] at HL HSW HB
  go_enter Try.func29, Try.ntmps29
  go_wp2_with fail
  rw [HL.out]
  go_wp2_with fail
  refine (len_row _ _ _ _).mono ?_
  rintro e w3 ⟨rfl, rfl⟩
  go_wp2_with fail
  rw [HSW.out]
  go_wp2_with fail
  have hsw := swap_any HS.out 0 n p q HP.out HQN.out
  rw [HQ.out] at hsw
  refine hsw.mono ?_
  rintro e w4 ⟨rfl, hS4, hF4⟩
  have hl4 : ((Q.set 0 q).set n p).length = n + 1 := by simp [HQ.out]
  have HS4 := Lib.hid hS4
  have HF4 := Lib.hid hF4
  have HB4 := Lib.hid (HB.out.fr hF4 (by simp; omega))
  have hdn := down_any (Q := (Q.set 0 q).set n p) (by rw [hl4]; exact HB4.out) (Ne.symm hgq) HS4.out (by omega) n (by omega)
  have HDN := Lib.hid hdn
  clear hS4 hF4 hsw hdn HL HSW
  go_wp2_with fail
  refine HDN.out.mono ?_
  rintro e w5 ⟨⟨b, rfl⟩, Q5, hbag, hS5, hF5⟩
  have hl5 : Q5.length = n + 1 := by rw [hbag.1, hl4]
  have hd5 : Q5 = Q5.take n ++ [p] := by
    have h1 : Q5.drop n = [p] := by
      rw [hbag.2.1]
      apply List.ext_getElem?
      intro k
      rw [List.getElem?_drop]
      rcases Nat.eq_zero_or_pos k with h0 | h0
      · subst h0; rw [Nat.add_zero, List.getElem?_set_self (by simp [HQ.out])]; rfl
      · rw [List.getElem?_eq_none (by rw [hl4]; omega), List.getElem?_eq_none (by simp; omega)]
    rw [← h1, List.take_append_drop]
  have hB5 := HB4.out.fr hF5 (by simp; omega)
  have ht5 : (Q5.take n).length = n := by rw [List.length_take]; omega
  have hmem : ∀ x, x ∈ Q ↔ x = p ∨ x ∈ Q5.take n := by
    intro x
    have hsw := bag_swap (n := n + 1) (by omega) (by omega) HP.out HQN.out
    have h1 := hsw.2.2 x
    rw [List.take_of_length_le (by rw [hl4]; exact Nat.le_refl _), List.take_of_length_le (by rw [HQ.out]; exact Nat.le_refl _)] at h1
    have h2 := hbag.2.2 x
    have h3 : ((Q.set 0 q).set n p).drop n = [p] := by
      rw [← hbag.2.1, hd5]
      simp [ht5]
    have h4 : x ∈ (Q.set 0 q).set n p ↔ x ∈ ((Q.set 0 q).set n p).take n ∨ x = p := by
      conv => lhs; rw [← List.take_append_drop n ((Q.set 0 q).set n p), h3]
      rw [List.mem_append, List.mem_singleton]
    rw [← h1, h2, h4]
    exact Or.comm
  obtain ⟨R, hR⟩ : ∃ R, R = Q5.take n := ⟨_, rfl⟩
  rw [← hR] at hd5 ht5 hmem
  rw [hd5] at hS5
  rw [← ht5] at hB5
  have hpop := pop_any hB5 hgq p hS5 (by omega)
  have HPOP := Lib.hid hpop
  have HMEM := Lib.hid hmem
  have HT5 := Lib.hid ht5
  have HF5 := Lib.hid ((HF4.out.trans hF5))
  clear hpop hmem hbag hS5 hF5 hB5 hd5 hR hl4 hl5 HDN ht5
  go_wp2_with fail
  refine HPOP.out.mono ?_
  rintro e w6 ⟨rfl, hB6, hS6, hF6⟩
  have HB6 := Lib.hid hB6
  have HS6 := Lib.hid hS6
  have HF6 := Lib.hid hF6
  clear hB6 hS6 hF6 HPOP
  go_wp2_with fail
  go_ret
  refine ⟨p, rfl, _, R, HS6.out.qu HB6.out hgq, by rw [HT5.out, HQ.out], HMEM.out, rfl, ?_⟩
  exact (HF5.out.more (by simp [Value.ownBlock])).trans (HF6.out.more (by simp))
end
end Acq
