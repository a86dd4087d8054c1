/- container/heap.down, queue.Push, queue.Pop, heap.Push, heap.Pop: the bag. -/
import Derived.Test.YtgffejcjacaihaaHeap
import Derived.Deep.CutBlock
import Derived.Deep.DeepMust
import Derived.Deep.DeepCutAuto
set_option linter.unusedSimpArgs false
set_option linter.unnecessarySimpa false
set_option linter.unusedVariables false
namespace Acq
open Go Go.RowKit Go.Proofs

def IsB (e : Ending) : Prop := ∃ b : Bool, e = .returned (.bool b)

section
variable {w w' : World} {base g cap qb : Nat} {Q : List Spot}

set_option maxHeartbeats 2000000 in
theorem down_any (hb : Blk w qb [.slice (some ⟨g, 0, none⟩) Q.length cap] 61) (hqg : qb ≠ g) (h : SpR w base g cap Q) (hm : Q.length ≤ 1000000) (m : Nat) (hmQ : m ≤ Q.length) :
    Calls Try.prog 40 #[.iface 57 (.pointer (some ⟨qb, 0, none⟩)), .int .i64 0, .int .i64 m] w fun e w' => IsB e ∧ ∃ Q', Bag m Q Q' ∧ SpR w' base g cap Q' ∧ Fr [g] w w' := by
  have HB := Lib.hid hb
  generalize hn : Q.length = n at *
  go_enter Try.func40, Try.ntmps40
  go_wp2_with fail
  go_loopw [7, 8, 9, 10] (fun i _ _ _ wr => ∃ (i' : Nat) (Q' : List Spot), i = .int .i64 i' ∧ i' ≤ n ∧ Bag m Q Q' ∧ SpR wr base g cap Q' ∧ Fr [g] w wr) (fun i _ _ _ _ => n - (intOf i).toNat)
  case atStart => exact ⟨0, Q, rfl, Nat.zero_le _, Bag.refl _ _, h, Fr.refl _ _⟩
  case round =>
    obtain ⟨i, Q1, rfl, hi, hbag, hS, hF⟩ := hrel
    have hl1 : Q1.length = n := by rw [hbag.1, hn]
    have c0 := HB.out.fr hF (by simp; omega) |>.cell (o := 0) rfl
    have HBG := Lib.hid hbag
    have HF := Lib.hid hF
    have HS := Lib.hid hS
    clear hbag hF hS
    by_cases h1 : 2 * i + 1 < m
    · go_upto_region 6 with (fail)
      go_cut [33] (fun s33 wx => ∃ b : Bool, s33 = .bool b ∧ (b = true → 2 * i + 2 < m) ∧ SpR wx base g cap Q1 ∧ Fr [g] w wx)
      case first =>
        by_cases h2 : 2 * i + 2 < m
        · have HML := Lib.hid (meth_less wr qb _ c0)
          obtain ⟨p, hp⟩ : ∃ p, Q1[2 * i + 2]? = some p := ⟨_, List.getElem?_eq_getElem (by omega)⟩
          obtain ⟨q, hq⟩ : ∃ q, Q1[2 * i + 1]? = some q := ⟨_, List.getElem?_eq_getElem (by omega)⟩
          have hless := less_any HS.out (2 * i + 2) (2 * i + 1) p q hp hq
          rw [hl1] at hless
          have HLESS := Lib.hid hless
          clear hless hp hq
          go_wp2_with fail
          rw [HML.out]
          go_wp2_with fail
          refine HLESS.out.mono ?_
          rintro e w2 ⟨rfl, hF2⟩
          have hS2 := HS.out.fr hF2 (by simp)
          have hG2 := HF.out.trans (hF2.more (S' := [g]) (by simp))
          go_wp2_with fail
          go_meet
          exact ⟨_, rfl, fun _ => h2, hS2, hG2⟩
        · go_wp2_with fail
          go_meet
          exact ⟨false, rfl, fun h => by simp at h, HS.out, HF.out⟩
      case rest =>
        clear HS HF c0
        obtain ⟨b, rfl, hb2, hS, hF⟩ := hcut
        have HS := Lib.hid hS
        have HF := Lib.hid hF
        clear hS hF
        obtain ⟨j, hj, hjm, hij⟩ : ∃ j : Nat, (if b then 2 * (i : Int) + 1 + 1 else 2 * (i : Int) + 1) = (j : Int) ∧ j < m ∧ i < j := by
          cases b
          · exact ⟨2 * i + 1, by simp, h1, by omega⟩
          · exact ⟨2 * i + 2, by simp; omega, hb2 rfl, by omega⟩
        have c0 := HB.out.fr HF.out (by simp; omega) |>.cell (o := 0) rfl
        obtain ⟨p, hp⟩ : ∃ p, Q1[i]? = some p := ⟨_, List.getElem?_eq_getElem (by omega)⟩
        obtain ⟨q, hq⟩ : ∃ q, Q1[j]? = some q := ⟨_, List.getElem?_eq_getElem (by omega)⟩
        have HP := Lib.hid hp
        have HQ := Lib.hid hq
        have hless := less_any HS.out j i q p hq hp
        rw [hl1] at hless
        have HLESS := Lib.hid hless
        have HML := Lib.hid (meth_less wc qb _ c0)
        have HJ : Hid ((if b = true then 2 * (i : Int) + 1 + 1 else 2 * (i : Int) + 1) = (j : Int)) := Lib.hid hj
        clear hj hp hq hless
        cases b
        all_goals
          go_upto_region 8 with (fail)
          have hj := HJ.out
          simp only [if_pos, if_neg, Bool.false_eq_true, if_false, if_true] at hj
          rw [hj]
          clear hj
          go_wp2_with fail
          rw [HML.out]
          go_wp2_with fail
          refine HLESS.out.mono ?_
          rintro e w2 ⟨rfl, hF2⟩
          have c2 := HB.out.fr (HF.out.trans (hF2.more (by simp))) (by simp; omega) |>.cell (o := 0) rfl
          have HS2 := Lib.hid (HS.out.fr hF2 (by simp))
          have HF2 := Lib.hid (HF.out.trans (hF2.more (S' := [g]) (by simp)))
          clear hF2
          have hsw := swap_any HS2.out i j p q HP.out HQ.out
          rw [hl1] at hsw
          have HSW := Lib.hid hsw
          have HM2 := Lib.hid (meth_swap w2 qb _ c2)
          clear hsw c2 c0
          by_cases hpq : q.1 < p.1
          · have hd : decide (q.1 < p.1) = true := by simp [hpq]
            rw [hd]
            clear hd hpq
            go_wp2_with fail
            rw [HM2.out]
            go_wp2_with fail
            refine HSW.out.mono ?_
            rintro e w3 ⟨rfl, hS3, hF3⟩
            have HS3 := Lib.hid hS3
            have HF3 := Lib.hid (HF2.out.trans hF3)
            clear hS3 hF3
            go_wp2_with fail
            go_roundw
            case rel => exact ⟨j, _, rfl, by omega, HBG.out.trans (bag_swap (by omega) (by omega) HP.out HQ.out), HS3.out, HF3.out⟩
            case measure => simp [intOf]; omega
          · have hd : decide (q.1 < p.1) = false := by simp [hpq]
            rw [hd]
            clear hd hpq
            go_wp2_with fail
            go_ret
            exact ⟨⟨_, rfl⟩, Q1, HBG.out, HS2.out, HF2.out⟩
    · go_wp2_with fail
      go_ret
      exact ⟨⟨_, rfl⟩, Q1, HBG.out, HS.out, HF.out⟩

end
end Acq
