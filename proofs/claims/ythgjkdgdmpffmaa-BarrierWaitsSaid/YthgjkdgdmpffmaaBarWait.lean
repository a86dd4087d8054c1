/- The walk of BarrierWaits. -/
import Derived.Test.YthgjkdgdmpffmaaBarAll
import Derived.Test.YthgjkdgdmpffmaaWaitPlain
set_option maxRecDepth 100000
set_option linter.unusedSimpArgs false
set_option linter.unusedVariables false
namespace Acq
open Go Go.RowKit Go.Proofs Bar

theorem crounds_le (n T : Nat) (a : Abs) (h : a.g ≤ T) : ∀ r, (a.crounds n T r).g ≤ T := by
  have h1 : ∀ (b : Abs) i, b.g ≤ T → (b.cstep n T i).g ≤ T := by
    intro b i hb
    unfold Abs.cstep; split
    · rename_i hd
      unfold Abs.step
      split <;> (try split) <;> (try exact hb)
      rename_i he
      have : b.done i = b.g := by unfold Abs.done; rw [he]; simp
      show b.g + 1 ≤ T
      omega
    · exact hb
  have h2 : ∀ (b : Abs) k, b.g ≤ T → (b.cround n T k).g ≤ T := by
    intro b k hb
    induction k with
    | zero => exact hb
    | succ k ih => exact h1 _ _ ih
  intro r
  induction r with
  | zero => exact h
  | succ r ih => exact h2 _ _ ih

theorem cround_le (n T : Nat) (a : Abs) (h : a.g ≤ T) : ∀ k, (a.cround n T k).g ≤ T := by
  intro k
  induction k with
  | zero => exact h
  | succ k ih =>
    show ((a.cround n T k).cstep n T k).g ≤ T
    unfold Abs.cstep; split
    · rename_i hd
      unfold Abs.step
      split <;> (try split) <;> (try exact ih)
      rename_i he
      have : (a.cround n T k).done k = (a.cround n T k).g := by unfold Abs.done; rw [he]; simp
      show (a.cround n T k).g + 1 ≤ T
      omega
    · exact ih

theorem _root_.Acq.Bar.Ph.steps {n T k : Nat} {a : Abs} (h : Ph n T k a) {i : Nat} (hi : i < n) (hk : i ≠ k) : Ph n T k (a.step n i) := by
  obtain ⟨_, _, _, h⟩ := h.step hi hk; exact h

theorem below_drew' {B : Nat} {a w : World} (h : Below B a w) : Below B a w.drew := ⟨h.os, h.tape, h.output, h.size, h.block⟩

theorem Crowd.bank {X : Nat → Prop} {n : Nat} {a : Abs} {w : World} {base pc : Nat} (h : Crowd X n a base pc w) : ∃ pb ab vals, w.cell? ⟨pc, 14, none⟩ = some (.pointer (some ⟨pb, 0, none⟩)) ∧ w.cell? ⟨pc, 10, none⟩ = some (.int .i64 9) ∧ Bank w pb ab vals ∧ vals[(9 : Int).toNat]? = some ((a.count n : Nat) : Int) := by
  obtain ⟨pb, ab, nb, bb, db, ⟨A, lv, hC, _⟩, _⟩ := h
  obtain ⟨capn, hc⟩ := hC.crowd
  exact ⟨pb, ab, _, hc.cell (o := 14) rfl, hc.cell (o := 10) rfl, hC.bank, valsOf_count n _ _⟩

def twice (n k i : Nat) (a : Abs) : Nat → Abs
  | 0 => a
  | c + 1 => if i = k then twice n k i a c else (twice n k i a c).step n i

theorem twice_ok {n k i : Nat} {a : Abs} (h : a.ok n) (hi : i < n) : ∀ c, (twice n k i a c).ok n
  | 0 => h
  | c + 1 => by
    unfold twice; split
    · exact twice_ok h hi c
    · exact step_ok (twice_ok h hi c) hi

theorem twice_Ph {n T k i : Nat} {a : Abs} (h : Ph n T k a) (hi : i < n) : ∀ c, Ph n T k (twice n k i a c)
  | 0 => h
  | c + 1 => by
    unfold twice; split
    · exact twice_Ph h hi c
    · rename_i e; exact (twice_Ph h hi c).steps hi e

theorem twice_two {n T k i : Nat} {a : Abs} (h : Wt n T k i a) (hi : i < n) : Wt n T k (i + 1) (twice n k i a 2) := by
  by_cases e : i = k
  · have : twice n k i a 2 = a := by simp [twice, e]
    rw [this]; exact h.skip e
  · have : twice n k i a 2 = (a.step n i).step n i := by simp [twice, e]
    rw [this]; exact h.two hi e

set_option maxHeartbeats 2000000 in
theorem waits_any (a0 a1 a2 : Int) (h0 : 0 ≤ a0) (h0' : a0 ≤ 255) (h1 : 0 ≤ a1) (h1' : a1 ≤ 255) (h2 : 0 ≤ a2) (h2' : a2 ≤ 255) (A : Option Addr) (len cap : Nat) (hl : len ≤ cap) (hA : A = none → len = 0 ∧ cap = 0) (w : World) (hr : Bytes w A len) :
    Calls Try.prog 4 #[.int .u8 a0, .int .u8 a1, .int .u8 a2, .slice A len cap] w fun e w' => e = .returned (.bool true) ∧ Below w.heap.size w w' := by
  obtain ⟨n, hn, hn1, hn2⟩ : ∃ n : Nat, (n : Int) = 2 + a0 % 11 ∧ 2 ≤ n ∧ n ≤ 12 := ⟨(2 + a0 % 11).toNat, by omega, by omega, by omega⟩
  obtain ⟨T, hT, hT5⟩ : ∃ T : Nat, (T : Int) = a2 % 6 ∧ T ≤ 5 := ⟨(a2 % 6).toNat, by omega, by omega⟩
  obtain ⟨k, hk, hkn⟩ : ∃ k : Nat, (k : Int) = a1 % (n : Int) ∧ k < n := ⟨(a1 % (n : Int)).toNat, by rw [Int.toNat_of_nonneg (Int.emod_nonneg _ (by omega))], by have := Int.emod_lt_of_pos a1 (show (0 : Int) < (n : Int) by omega); have := Int.emod_nonneg a1 (show (n : Int) ≠ 0 by omega); omega⟩
  have HN : Hid (2 + a0 % 11 = (n : Int)) := Lib.hid hn.symm
  have HTE : Hid (a2 % 6 = (T : Int)) := Lib.hid hT.symm
  have HKE : Hid (a1 % (n : Int) = (k : Int)) := Lib.hid hk.symm
  obtain ⟨M, hM⟩ : ∃ M : Nat, M = 30 * T := ⟨_, rfl⟩
  have HM := Lib.hid hM
  have hM5 : M ≤ 150 := by omega
  clear hM
  clear hn hT hk
  have HR := Lib.hid hr
  have HA := Lib.hid hA
  clear hr hA
  go_enter Try.func4, Try.ntmps4
  go_wp2_with fail
  rw [HN.out]
  refine (crowded_any n (by omega) (by omega) _).mono ?_
  intro e w1 hP
  obtain ⟨pc, rfl, hC1, hB1⟩ := CrowdedPost.begin (by omega) hP
  clear hP
  have HC1 := Lib.hid hC1
  have HB1 := Lib.hid hB1
  clear hC1 hB1
  go_upto_region 5 with (fail)
  go_cut [37, 38] (fun s37 s38 wx => s37 = .int .i64 M ∧ s38 = .int .i64 0 ∧ wx = w1)
  case first =>
    have hl0 : 0 ≤ a2 % 6 := by omega
    have hl1 : a2 % 6 ≤ 5 := by omega
    go_wp2_with fail
    go_meet
    exact ⟨by rw [HTE.out, HM.out]; congr 1, rfl, rfl⟩
  case rest =>
  obtain ⟨rfl, rfl, rfl⟩ := hcut
  go_upto_block 0 with (fail)
  go_cut [] (fun wx => Crowd NoX n ⟨T, List.replicate n .idle⟩ w.heap.size pc wx ∧ Below w.heap.size w wx)
  case first => -- DONE
    go_wp2_with fail
    go_loopw [38] (fun r wr => ∃ r' : Nat, r' ≤ M ∧ r = .int .i64 r' ∧ Crowd NoX n ((abs0 n).crounds n T r') w.heap.size pc wr ∧ Below w.heap.size w wr) (fun r _ => M - (intOf r).toNat)
    case atStart => exact ⟨0, Nat.zero_le _, rfl, HC1.out, HB1.out⟩
    case round =>
      obtain ⟨r, hr, rfl, hC, hB⟩ := hrel
      have HC := Lib.hid hC
      have HB := Lib.hid hB
      clear hC hB
      have hg0 : (abs0 n).g ≤ T := Nat.zero_le _
      have hgr := crounds_le n T (abs0 n) hg0 r
      have hokr := Lib.hid (crounds_ok (T := T) (abs0_ok n (by omega)) r)
      by_cases hrT : r < M
      · have t0 : decide ((r : Int) < (M : Int)) = true := by simp; omega
        have t0' : decide (r < M) = true := by simp; omega
        obtain ⟨wo, rfl⟩ : ∃ wo : World, wo = wr := ⟨_, rfl⟩
        go_wp2_with fail
        go_loopw [12, 41] (fun _ i wr => ∃ i' : Nat, i' ≤ n ∧ i = .int .i64 i' ∧ Crowd NoX n (((abs0 n).crounds n T r).cround n T i') w.heap.size pc wr ∧ Below w.heap.size w wr) (fun _ i _ => n - (intOf i).toNat)
        case atStart => exact ⟨0, Nat.zero_le _, rfl, HC.out, HB.out⟩
        case round =>
          obtain ⟨i, hi, rfl, hC4, hB4⟩ := hrel
          have hgi := cround_le n T _ hgr i
          have hoki := cround_ok (T := T) hokr.out i (by omega)
          by_cases hin : i < n
          · obtain ⟨db, c17, _, _, hd⟩ := hC4.done hoki
            have ci := hd i hin
            have hst : ∀ b, ((abs0 n).crounds n T r).cround n T (i + 1) = b ↔ (((abs0 n).crounds n T r).cround n T i).cstep n T i = b := fun b => Iff.rfl
            have hi0 : 0 ≤ (i : Int) := by omega
            have hi1 : (i : Int) < (n : Int) := by omega
            have HC4 := Lib.hid hC4
            have HB4 := Lib.hid hB4
            have HOI := Lib.hid hoki
            clear hC4 hB4 hd hoki
            by_cases hdT : (((abs0 n).crounds n T r).cround n T i).done i < T
            · have e1 : (((abs0 n).crounds n T r).cround n T i).cstep n T i = (((abs0 n).crounds n T r).cround n T i).step n i := by unfold Abs.cstep; rw [if_pos hdT]
              rw [e1] at hst
              have HST := Lib.hid ((hst _).2 rfl)
              clear hst e1
              have HC4' : Hid (Crowd NoX n (((abs0 n).crounds n T r).cround n T i) w.heap.size pc wr) := HC4
              generalize (((abs0 n).crounds n T r).cround n T i) = ai at HC4' HOI HST ci hdT hgi
              generalize hdi : ai.done i = d at ci hdT
              clear hdi HC4
              have t1 : decide ((d : Int) < a2 % 6) = true := by have := HTE.out; simp; omega
              have hl0 : 0 ≤ a2 % 6 := by omega
              have hl1 : a2 % 6 ≤ 5 := by omega
              go_wp2_with fail
              refine (HC4'.out.step (fun _ h => h.elim) HOI.out (by omega) i hin (by omega)).mono ?_
              rintro e w5 ⟨rfl, hC5, hB5⟩
              have HC5 := Lib.hid hC5
              have HB5 := Lib.hid hB5
              clear hC5 hB5
              go_wp2_with fail
              go_roundw
              case rel => exact ⟨i + 1, by omega, by go_num, by rw [HST.out]; exact HC5.out, HB4.out.trans HB5.out.below⟩
              case measure => simp [intOf]; omega
            · have e1 : (((abs0 n).crounds n T r).cround n T i).cstep n T i = ((abs0 n).crounds n T r).cround n T i := by unfold Abs.cstep; rw [if_neg hdT]
              rw [e1] at hst
              have HST := Lib.hid ((hst _).2 rfl)
              clear hst e1
              generalize hdi : (((abs0 n).crounds n T r).cround n T i).done i = d at ci hdT
              clear hdi
              have t1 : decide ((d : Int) < a2 % 6) = false := by have := HTE.out; simp; omega
              have hl0 : 0 ≤ a2 % 6 := by omega
              have hl1 : a2 % 6 ≤ 5 := by omega
              go_wp2_with fail
              go_roundw
              case rel => exact ⟨i + 1, by omega, by go_num, by rw [HST.out]; exact HC4.out, HB4.out⟩
              case measure => simp [intOf]; omega
          · obtain rfl : i = n := by omega
            have HC4 := Lib.hid hC4
            have HB4 := Lib.hid hB4
            clear hC4 hB4
            go_wp2_with fail
            go_roundw
            case rel => exact ⟨r + 1, by omega, by go_num, HC4.out, HB4.out⟩
            case measure => simp [intOf]; omega
      · obtain rfl : r = M := by omega
        have HCe : Hid (Crowd NoX n ⟨T, List.replicate n .idle⟩ w.heap.size pc wr) := by
          have := HC.out
          rw [HM.out, show abs0 n = ⟨0, List.replicate n .idle⟩ from rfl, passed (abs0_ok n (by omega))] at this
          exact Lib.hid this
        clear HC
        go_wp2_with fail
        go_meet
        exact ⟨HCe.out, HB.out⟩
  case rest =>
    obtain ⟨hC, hB⟩ := hcut
    have HC2 := Lib.hid hC
    have HB2 := Lib.hid hB
    clear hC hB HC1 HB1
    have hk0 : 0 ≤ a1 % (n : Int) := by have := HKE.out; omega
    have hk1 : a1 % (n : Int) < (n : Int) := by have := HKE.out; omega
    go_upto_region 14 with (fail)
    go_cut [13] (fun s13 wx => s13 = .int .i64 k ∧ wx = wc)
    case first =>
      go_wp2_with fail
      go_meet
      exact ⟨by rw [HKE.out], rfl⟩
    case rest =>
    obtain ⟨rfl, rfl⟩ := hcut
    clear hk0 hk1
    go_upto_region 15 with (fail)
    go_cut [71, 72, 73] (fun s71 s72 s73 wx => ∃ (m c' : Nat), s71 = .slice A m c' ∧ s72 = .int .i64 m ∧ s73 = .int .i64 0 ∧ m ≤ 300 ∧ m ≤ len ∧ wx = wc)
    case first =>
      go_wp2_with fail
      all_goals
        go_meet
      · exact ⟨300, cap, rfl, by rfl, rfl, by omega, by omega, rfl⟩
      · exact ⟨len, cap, rfl, rfl, rfl, by omega, by omega, rfl⟩
    case rest =>
    obtain ⟨m, c', rfl, rfl, rfl, hm, hml, rfl⟩ := hcut
    go_upto_block 4 with (fail)
    go_cut [] (fun wx => ∃ a, Crowd NoX n a w.heap.size pc wx ∧ a.ok n ∧ Ph n T k a ∧ Below w.heap.size w wx)
    case first => -- DONE
      go_wp2_with fail
      go_loopw [73] (fun j wr => ∃ (j' : Nat) (a : Abs), j' ≤ m ∧ j = .int .i64 j' ∧ Crowd NoX n a w.heap.size pc wr ∧ a.ok n ∧ Ph n T k a ∧ Below w.heap.size w wr) (fun j _ => m - (intOf j).toNat)
      case atStart => exact ⟨0, ⟨T, List.replicate n .idle⟩, Nat.zero_le _, rfl, HC2.out, by have := crounds_ok (T := T) (abs0_ok n (by omega)) (30 * T); rwa [show abs0 n = ⟨0, List.replicate n .idle⟩ from rfl, passed (abs0_ok n (by omega))] at this, Ph.begin hkn, HB2.out⟩
      case round =>
        obtain ⟨j, a, hj, rfl, hC, hok, hph, hB⟩ := hrel
        have HC := Lib.hid hC
        have HB := Lib.hid hB
        have HO := Lib.hid hok
        have HP := Lib.hid hph
        clear hC hB hok hph
        by_cases hjm : j < m
        · obtain ⟨b, o, x, rfl, hb, hx, hx0, hx1⟩ := HR.out j (by omega)
          have hxr : wr.cell? ⟨b, o + j, none⟩ = some (.int .u8 x) := (HB.out.cell (p := ⟨b, o + j, none⟩) hb).trans hx
          clear hx
          obtain ⟨i, hxi, hin⟩ : ∃ i : Nat, x % (n : Int) = (i : Int) ∧ i < n := ⟨(x % (n : Int)).toNat, by rw [Int.toNat_of_nonneg (Int.emod_nonneg _ (by omega))], by have := Int.emod_lt_of_pos x (show (0 : Int) < (n : Int) by omega); omega⟩
          have HXI := Lib.hid hxi
          have hm0 : 0 ≤ x % (n : Int) := by omega
          have hm1 : x % (n : Int) < (n : Int) := by omega
          clear hxi
          go_upto_region 18 with (fail)
          go_cut [16] (fun s16 wx => s16 = .int .i64 i ∧ wx = wr)
          case first =>
            go_wp2_with fail
            go_meet
            exact ⟨by rw [HXI.out], rfl⟩
          case rest =>
          obtain ⟨rfl, rfl⟩ := hcut
          obtain ⟨db, c17, _, _, hd⟩ := HC.out.done HO.out
          have ci := hd i hin
          rw [HP.out.done i] at ci
          clear hd hm0 hm1
          have hi0 : 0 ≤ (i : Int) := by omega
          have hi1 : (i : Int) < (n : Int) := by omega
          by_cases hik : i = k
          · subst hik
            have q1 : ((i : Int) == (i : Int)) = true := by simp
            have q2 : ((i : Int) != (i : Int)) = false := by simp
            have q3 : (i == i) = true := by simp
            have q4 : (i != i) = false := by simp
            go_wp2_with fail
            go_roundw
            case rel => exact ⟨j + 1, a, by omega, by go_num, HC.out, HO.out, HP.out, HB.out⟩
            case measure => simp [intOf]; omega
          · have q1 : ((i : Int) == (k : Int)) = false := by simp; omega
            have q2 : ((i : Int) != (k : Int)) = true := by simp; omega
            have q3 : (i == k) = false := by simp; omega
            have q4 : (i != k) = true := by simp; omega
            go_wp2_with fail
            refine (HC.out.step (fun _ h => h.elim) HO.out (by omega) i hin (by have := HP.out.g; omega)).mono ?_
            rintro e w5 ⟨rfl, hC5, hB5⟩
            have hok5 := step_ok HO.out hin
            have hph5 := HP.out.steps hin hik
            generalize a.step n i = a5 at hC5 hok5 hph5
            obtain ⟨db5, d17, _, _, hd5⟩ := hC5.done hok5
            have di := hd5 i hin
            rw [hph5.done i] at di
            have HC5 := Lib.hid hC5
            have HB5 := Lib.hid hB5
            have HO5 := Lib.hid hok5
            have HP5 := Lib.hid hph5
            clear hC5 hB5 hok5 hph5 hd5 c17 ci
            have r1 : ((T : Int) != (T : Int)) = false := by simp
            have r2 : (T != T) = false := by simp
            go_wp2_with fail
            go_roundw
            case rel => exact ⟨j + 1, a5, by omega, by go_num, HC5.out, HO5.out, HP5.out, HB.out.trans HB5.out.below⟩
            case measure => simp [intOf]; omega
        · go_wp2_with fail
          go_meet
          exact ⟨a, HC.out, HO.out, HP.out, HB.out⟩
    case rest =>
    obtain ⟨a, hC, hok, hph, hB⟩ := hcut
    have HC3 := Lib.hid hC
    have HB3 := Lib.hid hB
    have HO3 := Lib.hid hok
    have HP3 := Lib.hid hph
    clear hC hB hok hph HC2 HB2
    have hw3 : Wt n T k 0 a := ⟨HP3.out, fun i hi => by omega⟩
    have HW3 := Lib.hid hw3
    clear hw3
    go_upto_block 6 with (fail)
    go_cut [] (fun wx => ∃ a, Crowd NoX n a w.heap.size pc wx ∧ a.ok n ∧ Wt n T k n a ∧ Below w.heap.size w wx)
    case first => -- DONE
      go_wp2_with fail
      go_loopw [18, 110] (fun _ i wr => ∃ (i' : Nat) (a : Abs), i' ≤ n ∧ i = .int .i64 i' ∧ Crowd NoX n a w.heap.size pc wr ∧ a.ok n ∧ Wt n T k i' a ∧ Below w.heap.size w wr) (fun _ i _ => n - (intOf i).toNat)
      case atStart => exact ⟨0, a, Nat.zero_le _, rfl, HC3.out, HO3.out, HW3.out, HB3.out⟩
      case round =>
        clear HC3 HO3 HW3 HB3 HP3
        obtain ⟨i, a, hi, rfl, hC, hok, hwt, hB⟩ := hrel
        have HC := Lib.hid hC
        have HB := Lib.hid hB
        have HO := Lib.hid hok
        have HW := Lib.hid hwt
        clear hC hB hok hwt
        by_cases hin : i < n
        · obtain ⟨wo, rfl⟩ : ∃ wo : World, wo = wr := ⟨_, rfl⟩
          go_wp2_with fail
          go_loopw [113] (fun c wr => ∃ c' : Nat, c' ≤ 2 ∧ c = .int .i64 c' ∧ Crowd NoX n (twice n k i a c') w.heap.size pc wr ∧ Below w.heap.size w wr) (fun c _ => 2 - (intOf c).toNat)
          case atStart => exact ⟨0, by omega, rfl, HC.out, HB.out⟩
          case round =>
            obtain ⟨c, hc, rfl, hC4, hB4⟩ := hrel
            have HC4 := Lib.hid hC4
            have HB4 := Lib.hid hB4
            clear hC4 hB4
            by_cases hc2 : c < 2
            · by_cases hik : i = k
              · subst hik
                have HE := Lib.hid (show twice n i i a (c + 1) = twice n i i a c by simp [twice])
                have q1 : ((i : Int) == (i : Int)) = true := by simp
                have q2 : ((i : Int) != (i : Int)) = false := by simp
                have q3 : (i == i) = true := by simp
                have q4 : (i != i) = false := by simp
                go_wp2_with fail
                go_roundw
                case rel => exact ⟨c + 1, by omega, by go_num, by rw [HE.out]; exact HC4.out, HB4.out⟩
                case measure => simp [intOf]; omega
              · have HE := Lib.hid (show twice n k i a (c + 1) = (twice n k i a c).step n i by simp [twice, hik])
                have HO4 := Lib.hid (twice_ok (k := k) HO.out hin c)
                have hg4 := (twice_Ph HW.out.1 hin c).g
                have hg5 : (twice n k i a c).g ≤ T := by omega
                clear hg4
                have q1 : ((i : Int) == (k : Int)) = false := by simp; omega
                have q2 : ((i : Int) != (k : Int)) = true := by simp; omega
                have q3 : (i == k) = false := by simp; omega
                have q4 : (i != k) = true := by simp; omega
                go_wp2_with fail
                refine (HC4.out.step (fun _ h => h.elim) HO4.out (by omega) i hin (by omega)).mono ?_
                rintro e w5 ⟨rfl, hC5, hB5⟩
                have HC5 := Lib.hid hC5
                have HB5 := Lib.hid hB5
                clear hC5 hB5
                go_wp2_with fail
                go_roundw
                case rel => exact ⟨c + 1, by omega, by go_num, by rw [HE.out]; exact HC5.out, HB4.out.trans HB5.out.below⟩
                case measure => simp [intOf]; omega
            · obtain rfl : c = 2 := by omega
              have HW2 := Lib.hid (twice_two HW.out hin)
              have HO2 := Lib.hid (twice_ok (k := k) HO.out hin 2)
              have HC5 : Hid (Crowd NoX n (twice n k i a 2) w.heap.size pc wr) := HC4
              generalize twice n k i a 2 = a2' at HW2 HO2 HC5
              clear HC4
              go_wp2_with fail
              go_roundw
              case rel => exact ⟨i + 1, a2', by omega, by go_num, HC5.out, HO2.out, HW2.out, HB4.out⟩
              case measure => simp [intOf]; omega
        · obtain rfl : i = n := by omega
          go_wp2_with fail
          go_meet
          exact ⟨a, HC.out, HO.out, HW.out, HB.out⟩
    case rest =>
    obtain ⟨a, hC, hok, hwt, hB⟩ := hcut
    have HC4 := Lib.hid hC
    have HB4 := Lib.hid hB
    have HO4 := Lib.hid hok
    have HW4 := Lib.hid hwt
    clear hC hB hok hwt HC3 HB3 HO3 HW3 HP3
    go_upto_block 10 with (fail)
    go_cut [] (fun wx => Crowd NoX n ⟨T + 1, (List.replicate n .old).set k .idle⟩ w.heap.size pc wx ∧ Below w.heap.size w wx)
    case first => -- DONE
      go_wp2_with fail
      go_loopw [19, 20, 126] (fun _ _ j wr => ∃ j' : Nat, j' ≤ 4 ∧ j = .int .i64 j' ∧ Crowd NoX n (last4 n T k a j') w.heap.size pc wr ∧ Below w.heap.size w wr) (fun _ _ j _ => 4 - (intOf j).toNat)
      case atStart => exact ⟨0, by omega, rfl, HC4.out, HB4.out⟩
      case round =>
        obtain ⟨j, hj, rfl, hC, hB⟩ := hrel
        have HC := Lib.hid hC
        have HB := Lib.hid hB
        clear hC hB
        by_cases hj4 : j < 4
        · have HOj := Lib.hid (last4_ok (T := T) HO4.out hkn j)
          have HOj1 := Lib.hid (last4_ok (T := T) HO4.out hkn (j + 1))
          have hdj := last4_done HW4.out hkn j (by omega)
          have hdj1 := last4_done HW4.out hkn (j + 1) (by omega)
          have hgj := last4_g HW4.out hkn j (by omega)
          rw [if_neg (by omega)] at hdj
          obtain ⟨db, c17, _, _, hd⟩ := HC.out.done HOj.out
          have ck := hd k hkn
          rw [hdj] at ck
          clear hd hdj
          have hi0 : 0 ≤ (k : Int) := by omega
          have hi1 : (k : Int) < (n : Int) := by omega
          have HE := Lib.hid (show last4 n T k a (j + 1) = (last4 n T k a j).step n k from rfl)
          have HDJ := Lib.hid hdj1
          clear hdj1
          go_wp2_with fail
          refine (HC.out.step (fun _ h => h.elim) HOj.out (by omega) k hkn (by omega)).mono ?_
          rintro e w5 ⟨rfl, hC5, hB5⟩
          rw [← HE.out] at hC5
          obtain ⟨db5, d17, _, _, hd5⟩ := hC5.done HOj1.out
          have dk := hd5 k hkn
          rw [HDJ.out] at dk
          have HC5 := Lib.hid hC5
          have HB5 := Lib.hid hB5
          clear hC5 hB5 hd5 c17 ck
          by_cases hj3 : j = 3
          · subst hj3
            rw [if_pos rfl] at dk
            have r1 : decide ((T : Int) < ((T + 1 : Nat) : Int)) = true := by simp; omega
            have r2 : decide (T < T + 1) = true := by simp
            have r3 : decide ((T : Int) < (T : Int) + 1) = true := by simp; omega
            go_wp2_with fail
            go_roundw
            case rel => exact ⟨3 + 1, by omega, by go_num, HC5.out, HB.out.trans HB5.out.below⟩
            case measure => simp [intOf]
          · rw [if_neg (by omega)] at dk
            have r1 : decide ((T : Int) < (T : Int)) = false := by simp
            have r2 : decide (T < T) = false := by simp
            have hz : ((j : Int) == 3) = false := by simp; omega
            go_wp2_with fail
            go_roundw
            case rel => exact ⟨j + 1, by omega, by go_num, HC5.out, HB.out.trans HB5.out.below⟩
            case measure => simp [intOf]; omega
        · obtain rfl : j = 4 := by omega
          have HCe : Hid (Crowd NoX n ⟨T + 1, (List.replicate n .old).set k .idle⟩ w.heap.size pc wr) := by
            have := HC.out
            rw [(last4_any HW4.out hkn).2.2.2] at this
            exact Lib.hid this
          go_wp2_with fail
          go_meet
          exact ⟨HCe.out, HB.out⟩
    case rest =>
    obtain ⟨hC, hB⟩ := hcut
    have HC5 := Lib.hid hC
    have HB5 := Lib.hid hB
    have HO5 : Hid ((Abs.mk (T + 1) ((List.replicate n .old).set k .idle)).ok n) := Lib.hid (by
      have := last4_ok (T := T) HO4.out hkn 4
      rwa [(last4_any HW4.out hkn).2.2.2] at this)
    clear hC hB HC4 HB4 HO4 HW4
    go_upto_block 12 with (fail)
    go_cut [] (fun wx => ∃ a, Crowd NoX n a w.heap.size pc wx ∧ a.ok n ∧ Fn5 n T k n a ∧ Below w.heap.size w wx)
    case first => -- DONE
      go_wp2_with fail
      go_loopw [21, 22, 156] (fun _ _ i wr => ∃ (i' : Nat) (a : Abs), i' ≤ n ∧ i = .int .i64 i' ∧ Crowd NoX n a w.heap.size pc wr ∧ a.ok n ∧ Fn5 n T k i' a ∧ Below w.heap.size w wr) (fun _ _ i _ => n - (intOf i).toNat)
      case atStart => exact ⟨0, _, by omega, rfl, HC5.out, HO5.out, Fn5.begin hkn, HB5.out⟩
      case round =>
        obtain ⟨i, a, hi, rfl, hC, hok, hf, hB⟩ := hrel
        have HC := Lib.hid hC
        have HB := Lib.hid hB
        have HO := Lib.hid hok
        have HF := Lib.hid hf
        clear hC hB hok hf
        by_cases hin : i < n
        · obtain ⟨db, c17, _, _, hd⟩ := HC.out.done HO.out
          have ci := hd i hin
          clear hd
          have hi0 : 0 ≤ (i : Int) := by omega
          have hi1 : (i : Int) < (n : Int) := by omega
          by_cases hik : i = k
          · subst hik
            have q1 : ((i : Int) == (i : Int)) = true := by simp
            have q2 : ((i : Int) != (i : Int)) = false := by simp
            have q3 : (i == i) = true := by simp
            have q4 : (i != i) = false := by simp
            go_wp2_with fail
            go_roundw
            case rel => exact ⟨i + 1, a, by omega, by go_num, HC.out, HO.out, HF.out.skip rfl, HB.out⟩
            case measure => simp [intOf]; omega
          · obtain ⟨hd1, hd2, hf2⟩ := HF.out.step hin hik
            rw [hd1] at ci
            have HD2 := Lib.hid hd2
            have HF2 := Lib.hid hf2
            have hga := HF.out.g
            have hga' : a.g ≤ T + 1 := by omega
            clear hd1 hd2 hf2 hga
            have q1 : ((i : Int) == (k : Int)) = false := by simp; omega
            have q2 : ((i : Int) != (k : Int)) = true := by simp; omega
            have q3 : (i == k) = false := by simp; omega
            have q4 : (i != k) = true := by simp; omega
            go_wp2_with fail
            refine (HC.out.step (fun _ h => h.elim) HO.out (by omega) i hin (by omega)).mono ?_
            rintro e w5 ⟨rfl, hC6, hB6⟩
            have hok6 := step_ok HO.out hin
            have hd2 := HD2.out
            have hf2 := HF2.out
            clear HD2 HF2
            generalize a.step n i = a6 at hC6 hok6 hd2 hf2
            obtain ⟨db6, d17, _, _, hd6⟩ := hC6.done hok6
            have di := hd6 i hin
            rw [hd2] at di
            have HC6 := Lib.hid hC6
            have HB6 := Lib.hid hB6
            have HO6 := Lib.hid hok6
            have HF6 := Lib.hid hf2
            clear hC6 hB6 hok6 hd6 hd2 hf2 c17 ci
            have r1 : (((T + 1 : Nat) : Int) != (T : Int) + 1) = false := by simp
            have r2 : ((T : Int) + 1 != (T : Int) + 1) = false := by simp
            go_wp2_with fail
            go_roundw
            case rel => exact ⟨i + 1, a6, by omega, by go_num, HC6.out, HO6.out, HF6.out, HB.out.trans HB6.out.below⟩
            case measure => simp [intOf]; omega
        · obtain rfl : i = n := by omega
          go_wp2_with fail
          go_meet
          exact ⟨a, HC.out, HO.out, HF.out, HB.out⟩
    case rest =>
    obtain ⟨a, hC, hok, hf, hB⟩ := hcut
    obtain ⟨pb, ab, vals, c14, c10, hBk, hv⟩ := hC.bank
    rw [hf.count] at hv
    have HV := Lib.hid hv
    have HBK := Lib.hid hBk
    have HB9 := Lib.hid hB
    clear hC hok hf hB hv hBk HC5 HB5 HO5
    go_upto_region 46 with (fail)
    refine wr_begin [9] (fun W => W.cell? ⟨pc, 14, none⟩ = some (.pointer (some ⟨pb, 0, none⟩)) ∧ W.cell? ⟨pc, 10, none⟩ = some (.int .i64 9)) (by kernel_rfl) (by exact ⟨c14, c10⟩) ?_
    refine wr_pure 0 _ rfl (by kernel_rfl) (by kernel_rfl) (by kernel_rfl) (fun _ _ _ h => h) (by kernel_rfl) (by rfl) (fun _ => by go_simp; try with_reducible rfl) ?_
    try simp only [Act.put, List.setIfInBounds_toArray, List.set_cons_zero, List.set_cons_succ]
    refine wr_pure 1 _ rfl (by kernel_rfl) (by kernel_rfl) (by kernel_rfl) (fun _ _ _ h => h) (by kernel_rfl) (by rfl) (fun _ => by go_simp; try with_reducible rfl) ?_
    try simp only [Act.put, List.setIfInBounds_toArray, List.set_cons_zero, List.set_cons_succ]
    refine wr_pure 2 _ rfl (by kernel_rfl) (by kernel_rfl) (by kernel_rfl) (fun _ _ _ h => h) (by kernel_rfl) (by rfl) (fun _ => by go_simp; try with_reducible rfl) ?_
    try simp only [Act.put, List.setIfInBounds_toArray, List.set_cons_zero, List.set_cons_succ]
    refine wr_read 3 _ rfl (by kernel_rfl) (by kernel_rfl) (by kernel_rfl) (fun _ _ _ h => h) (by kernel_rfl) (by kernel_rfl) (by rfl) (fun _ hF => by have hF1 := hF.1; clear hF; go_simp; try with_reducible rfl) ?_
    try simp only [Act.put, List.setIfInBounds_toArray, List.set_cons_zero, List.set_cons_succ]
    refine wr_pure 4 _ rfl (by kernel_rfl) (by kernel_rfl) (by kernel_rfl) (fun _ _ _ h => h) (by kernel_rfl) (by rfl) (fun _ => by go_simp; try with_reducible rfl) ?_
    try simp only [Act.put, List.setIfInBounds_toArray, List.set_cons_zero, List.set_cons_succ]
    refine wr_pure 5 _ rfl (by kernel_rfl) (by kernel_rfl) (by kernel_rfl) (fun _ _ _ h => h) (by kernel_rfl) (by rfl) (fun _ => by go_simp; try with_reducible rfl) ?_
    try simp only [Act.put, List.setIfInBounds_toArray, List.set_cons_zero, List.set_cons_succ]
    refine wr_pure 6 _ rfl (by kernel_rfl) (by kernel_rfl) (by kernel_rfl) (fun _ _ _ h => h) (by kernel_rfl) (by rfl) (fun _ => by go_simp; try with_reducible rfl) ?_
    try simp only [Act.put, List.setIfInBounds_toArray, List.set_cons_zero, List.set_cons_succ]
    refine wr_pure 7 _ rfl (by kernel_rfl) (by kernel_rfl) (by kernel_rfl) (fun _ _ _ h => h) (by kernel_rfl) (by rfl) (fun _ => by go_simp; try with_reducible rfl) ?_
    try simp only [Act.put, List.setIfInBounds_toArray, List.set_cons_zero, List.set_cons_succ]
    refine wr_read 8 _ rfl (by kernel_rfl) (by kernel_rfl) (by kernel_rfl) (fun _ _ _ h => h) (by kernel_rfl) (by kernel_rfl) (by rfl) (fun _ hF => by have hF1 := hF.2; clear hF; go_simp; try with_reducible rfl) ?_
    try simp only [Act.put, List.setIfInBounds_toArray, List.set_cons_zero, List.set_cons_succ]
    refine wr_pure 10 _ rfl (by kernel_rfl) (by kernel_rfl) (by kernel_rfl) (fun _ _ _ h => h) (by kernel_rfl) (by rfl) (fun _ => by go_simp; try with_reducible rfl) ?_
    try simp only [Act.put, List.setIfInBounds_toArray, List.set_cons_zero, List.set_cons_succ]
    refine wr_do 9 rfl (by kernel_rfl) (by rfl) (fun K hK => ?_)
    go_wp2_with (go_at_call 9; refine (load_bank (HBK.out.drew) 9 (n : Int) (by omega) HV.out).mono ?_; rintro e w7 ⟨rfl, rfl⟩)
    refine ⟨Still.off 9 (by kernel_rfl) (by kernel_rfl), ?_⟩
    try simp only [Act.put, List.setIfInBounds_toArray, List.set_cons_zero, List.set_cons_succ]
    refine wr_pure 11 _ rfl (by kernel_rfl) (by kernel_rfl) (by kernel_rfl) (fun _ _ _ h => h) (by kernel_rfl) (by rfl) (fun _ => by go_simp; try with_reducible rfl) ?_
    try simp only [Act.put, List.setIfInBounds_toArray, List.set_cons_zero, List.set_cons_succ]
    refine wr_pure 12 _ rfl (by kernel_rfl) (by kernel_rfl) (by kernel_rfl) (fun _ _ _ h => h) (by kernel_rfl) (by rfl) (fun _ => by go_simp; try with_reducible rfl) ?_
    try simp only [Act.put, List.setIfInBounds_toArray, List.set_cons_zero, List.set_cons_succ]
    refine wr_do 13 rfl (by kernel_rfl) (by rfl) (fun K hK => ?_)
    go_wp2_with (go_at_call 8; refine (awake_any _).mono ?_; rintro e w8 ⟨rfl, hB8⟩)
    refine ⟨Still.off 9 (by kernel_rfl) (by kernel_rfl), ?_⟩
    try simp only [Act.put, List.setIfInBounds_toArray, List.set_cons_zero, List.set_cons_succ]
    refine wr_pure 14 _ rfl (by kernel_rfl) (by kernel_rfl) (by kernel_rfl) (fun _ _ _ h => h) (by kernel_rfl) (by rfl) (fun _ => by go_simp; try with_reducible rfl) ?_
    try simp only [Act.put, List.setIfInBounds_toArray, List.set_cons_zero, List.set_cons_succ]
    refine wr_pure 15 _ rfl (by kernel_rfl) (by kernel_rfl) (by kernel_rfl) (fun _ _ _ h => h) (by kernel_rfl) (by rfl) (fun _ => by go_simp; try with_reducible rfl) ?_
    try simp only [Act.put, List.setIfInBounds_toArray, List.set_cons_zero, List.set_cons_succ]
    refine wr_done (by kernel_rfl) ?_ _
    go_wp2_with fail
    go_ret
    refine ⟨rfl, ?_⟩
    exact (below_drew' HB9.out).trans ⟨hB8.os, hB8.tape, hB8.output, hB8.size, fun q hq => hB8.block q (Nat.lt_of_lt_of_le hq HB9.out.size)⟩

theorem waits_walk (a0 a1 a2 : Int) (a3 : Option Addr) (len3 cap3 : Nat) (z3 : List Int) (w : World) (w0 : (Lit.int .u8 a0).wf = true) (w1 : (Lit.int .u8 a1).wf = true) (w2 : (Lit.int .u8 a2).wf = true) (w3 : IsRow .u8 w a3 len3 cap3 z3) :
    Calls Try.prog 4 #[.int .u8 a0, .int .u8 a1, .int .u8 a2, .slice a3 len3 cap3] w fun e w' => e = .returned (.bool true) ∧ Below w.heap.size w w' := by
  have h0 : (0 : Int) ≤ a0 ∧ a0 ≤ 255 := by simpa [Lit.wf, IntKind.min, IntKind.max, IntKind.signed, IntKind.bits] using w0
  have h1 : (0 : Int) ≤ a1 ∧ a1 ≤ 255 := by simpa [Lit.wf, IntKind.min, IntKind.max, IntKind.signed, IntKind.bits] using w1
  have h2 : (0 : Int) ≤ a2 ∧ a2 ≤ 255 := by simpa [Lit.wf, IntKind.min, IntKind.max, IntKind.signed, IntKind.bits] using w2
  obtain ⟨b1, b2, b3⟩ := bytes_of w3
  exact waits_any a0 a1 a2 h0.1 h0.2 h1.1 h1.2 h2.1 h2.2 a3 len3 cap3 b3 b2 w b1
end Acq
