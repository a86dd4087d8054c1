/- acequiaref01.Check: a right net is told to be one. -/
import Derived.Test.YtgffejcjacaihaaSome
set_option linter.unusedSimpArgs false
set_option linter.unnecessarySimpa false
set_option linter.unusedVariables false
namespace Acq
open Go Go.RowKit Go.Proofs

theorem vertex_any (N S T : Nat) (A : Option Addr) (n c : Nat) (v : Nat) (hv : v < N) (w : World) :
    Calls Try.prog 45 #[.agg #[.int .i64 N, .int .i64 S, .int .i64 T, .slice A n c], .int .i64 v] w fun e w' => e = .returned (.bool true) ∧ Fr [] w w' := by
  have h0 : 0 ≤ (v : Int) := by omega
  have h1 : (v : Int) < (N : Int) := by omega
  go_enter Try.func45, Try.ntmps45
  go_wp2_with fail
  go_ret
  exact ⟨rfl, (Fr.refl _ _).alloc _⟩

def SumOk (w : World) (e : Ending) (w' : World) : Prop := ∃ s : Int, e = .returned (.tuple #[.int .i64 s, .bool true]) ∧ Fr [] w w'

theorem sum_any (N S T : Nat) (A : Option Addr) (c : Nat) (xs : List A3) (w : World) (hA : ArcsV w A xs) (hn : xs.length ≤ 40) (hx : ∀ a ∈ xs, 0 ≤ a.cap ∧ a.cap < 1125899906842624) :
    Calls Try.prog 46 #[.agg #[.int .i64 N, .int .i64 S, .int .i64 T, .slice A xs.length c]] w (SumOk w) := by
  have HA := Lib.hid hA
  have HX := Lib.hid hx
  have HB := Lib.hid (Blk.new w [.int .i64 N, .int .i64 S, .int .i64 T, .slice A xs.length c] 24)
  clear hA hx
  go_enter Try.func46, Try.ntmps46
  go_upto_region 1 with (fail)
  go_cut [4] (fun s4 wx => s4 = .int .i64 0 ∧ Blk wx w.heap.size [.int .i64 N, .int .i64 S, .int .i64 T, .slice A xs.length c] 24 ∧ Fr [] w wx)
  case first =>
    go_wp2_with fail
    go_meet
    exact ⟨rfl, HB.out, (Fr.refl _ _).alloc _⟩
  case rest =>
    obtain ⟨rfl, hB, hF⟩ := hcut
    have c3 := hB.cell (o := 3) rfl
    have HF := Lib.hid hF
    clear hF hB HB
    go_wp2_with fail
    go_loop [4, 5, 6] (fun s i _ => ∃ (k : Nat) (q : Int), i = .int .i64 k ∧ k ≤ xs.length ∧ s = .int .i64 q ∧ 0 ≤ q ∧ q ≤ k * 1125899906842623) (fun _ i _ => xs.length - (intOf i).toNat)
    case atStart => exact ⟨0, 0, rfl, Nat.zero_le _, rfl, by omega, by omega⟩
    case round =>
      obtain ⟨k, q, rfl, hk, rfl, hq0, hq1⟩ := hrel
      by_cases hkn : k < xs.length
      · obtain ⟨a, ha⟩ : ∃ a, xs[k]? = some a := ⟨_, List.getElem?_eq_getElem (by omega)⟩
        obtain ⟨g, off, rfl, hr⟩ := Sl.el arcCells_len HA.out ha
        obtain ⟨hx1, hx2⟩ := HX.out a (List.mem_of_getElem? ha)
        have c2 := rangeAt_fr hr HF.out (by simp) 2 _ rfl
        obtain ⟨x, y, z⟩ := a
        simp only at hx1 hx2 c2
        have t1 : ¬ z < 0 := by omega
        have t2 : ¬ z > 4611686018427387904 - q := by omega
        clear ha hr
        go_wp2_with fail
        go_round
        case rel => exact ⟨k + 1, q + z, by go_num, by omega, rfl, by omega, by omega⟩
        case measure => simp [intOf]; omega
      · go_wp2_with fail
        go_ret2
        exact ⟨q, rfl, HF.out⟩

theorem check_any (N S T : Nat) (A : Option Addr) (c : Nat) (xs : List A3) (w : World) (hA : ArcsV w A xs) (hn : xs.length ≤ 40) (hx : ∀ a ∈ xs, a.fr < N ∧ a.to < N ∧ 0 ≤ a.cap ∧ a.cap < 1125899906842624)
    (h1 : 2 ≤ N) (h2 : N ≤ 16) (h3 : S < N) (h4 : T < N) (h5 : S ≠ T) :
    Calls Try.prog 36 #[.agg #[.int .i64 N, .int .i64 S, .int .i64 T, .slice A xs.length c]] w fun e w' => e = .returned (.int .i64 0) ∧ Fr [] w w' := by
  have HA := Lib.hid hA
  have HX := Lib.hid hx
  have HB := Lib.hid (Blk.new w [.int .i64 N, .int .i64 S, .int .i64 T, .slice A xs.length c] 24)
  clear hA hx
  have q1 : ((S : Int) == (T : Int)) = false := by simp; omega
  have q2 : ((S : Int) != (T : Int)) = true := by simp; omega
  have q3 : (S == T) = false := by simp; omega
  have q4 : (S != T) = true := by simp; omega
  have HQ := Lib.hid (And.intro q1 (And.intro q2 (And.intro q3 q4)))
  clear q1 q2 q3 q4
  go_enter Try.func36, Try.ntmps36
  go_wp2_with (refine wl_load rfl rfl rfl _ HB.out Try.underlying24 rfl (by kernel_rfl) ?_)
  refine (vertex_any N S T A _ c S h3 _).mono ?_
  rintro e w1 ⟨rfl, hF1⟩
  have b1 := HB.out.fr hF1 (by simp)
  have c2 := b1.cell (o := 2) rfl
  have c1 := b1.cell (o := 1) rfl
  have c0 := b1.cell (o := 0) rfl
  have c3 := b1.cell (o := 3) rfl
  have HB1 := Lib.hid b1
  have HF1 := Lib.hid (((Fr.refl [] w).alloc _).trans hF1)
  clear b1 hF1
  go_wp2_with fail
  refine (vertex_any N S T A _ c T h4 _).mono ?_
  rintro e w2 ⟨rfl, hF2⟩
  have b2 := HB1.out.fr hF2 (by simp)
  have d1 := b2.cell (o := 1) rfl
  have d2 := b2.cell (o := 2) rfl
  have d3 := b2.cell (o := 3) rfl
  have HB2 := Lib.hid b2
  have HF2 := Lib.hid (HF1.out.trans hF2)
  clear b2 hF2 c0 c1 c2 c3 HB1 HF1 HB
  obtain ⟨q1, q2, q3, q4⟩ := HQ.out
  go_wp2_with fail
  go_loopw [3, 4, 5] (fun s i _ wr => ∃ (k : Nat), i = .int .i64 k ∧ k ≤ xs.length ∧ s = .bool false ∧ Fr [] w2 wr) (fun _ i _ _ => xs.length - (intOf i).toNat)
  case atStart => exact ⟨0, rfl, Nat.zero_le _, rfl, Fr.refl _ _⟩
  case round =>
    obtain ⟨k, rfl, hk, rfl, hF⟩ := hrel
    have b3 := HB2.out.fr hF (by simp)
    have e3 := b3.cell (o := 3) rfl
    have HB3 := Lib.hid b3
    have HF := Lib.hid hF
    clear b3 hF
    by_cases hkn : k < xs.length
    · obtain ⟨a, ha⟩ : ∃ a, xs[k]? = some a := ⟨_, List.getElem?_eq_getElem (by omega)⟩
      obtain ⟨g, off, rfl, hr⟩ := Sl.el arcCells_len HA.out ha
      obtain ⟨hx0, hx1, hx2, hx3⟩ := HX.out a (List.mem_of_getElem? ha)
      obtain ⟨x, y, z⟩ := a
      simp only at hx0 hx1 hx2 hx3
      have HR : Hid (wr.rangeAt g (off + k * 3) [.int .i64 x, .int .i64 y, .int .i64 z]) := Lib.hid (rangeAt_fr hr (HF2.out.trans HF.out) (by simp))
      have t1 : ¬ z < 0 := by omega
      clear ha hr
      have HB4 := Lib.hid (HB3.out.alloc (.cells #[.int .i64 x, .int .i64 y, .int .i64 z] 53))
      have HC4 := Lib.hid (Blk.new wr [.int .i64 x, .int .i64 y, .int .i64 z] 53)
      go_wp2_with (first | (refine wpList_load_mid rfl _ _ rfl g (off + k * 3) rfl _ _ HR.out Try.underlying53 rfl (by kernel_rfl) ?_) | (refine wl_load rfl rfl rfl _ HB4.out Try.underlying24 rfl (by kernel_rfl) ?_))
      refine (vertex_any N S T _ _ c x hx0 _).mono ?_
      rintro e w4 ⟨rfl, hF4⟩
      have g4 := HB4.out.fr hF4 (by simp)
      have g0 := g4.cell (o := 0) rfl
      have g1 := g4.cell (o := 1) rfl
      have g2 := g4.cell (o := 2) rfl
      have g3 := g4.cell (o := 3) rfl
      clear g4
      have b5 := HC4.out.fr hF4 (by simp)
      have f1 := b5.cell (o := 1) rfl
      have HC5 := Lib.hid b5
      have HF4 := Lib.hid ((HF.out.alloc (.cells #[.int .i64 x, .int .i64 y, .int .i64 z] 53)).trans hF4)
      clear b5 hF4 HR HB4 HC4 e3
      go_wp2_with fail
      refine (vertex_any N S T _ _ c y hx1 _).mono ?_
      rintro e w5 ⟨rfl, hF5⟩
      have b6 := HC5.out.fr hF5 (by simp)
      have f2 := b6.cell (o := 2) rfl
      have HF5 := Lib.hid (HF4.out.trans hF5)
      clear b6 hF5 f1 HC5 g0 g1 g2 g3
      go_wp2_with fail
      go_roundw
      case rel => exact ⟨k + 1, by go_num, by omega, by simp [t1], HF5.out⟩
      case measure => simp [intOf]; omega
    · go_wp2_with (refine wl_load rfl rfl rfl _ HB3.out Try.underlying24 rfl (by kernel_rfl) ?_)
      refine (sum_any N S T A c xs _ (Sl.fr0 HA.out (HF2.out.trans HF.out)) hn (fun a ha => (HX.out a ha).2.2)).mono ?_
      rintro e w6 ⟨s, rfl, hF6⟩
      have HF6 := Lib.hid hF6
      clear hF6
      go_wp2_with fail
      go_ret
      exact ⟨rfl, (HF2.out.trans HF.out).trans HF6.out⟩
end Acq
