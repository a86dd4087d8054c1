/- RepairGreatest, as the row hands its arguments over. -/
import Derived.Test.YtgffejcjacaihaaGreat19
set_option linter.unnecessarySimpa false
set_option linter.unusedVariables false
namespace Acq
open Go Go.RowKit Go.Proofs

theorem great_walk (N S T : Int) (A : Option Addr) (c : Nat) (l3 : List R3) (a1 : Option Addr) (len1 cap1 : Nat) (z1 : List Int) (a2 : Option Addr) (len2 cap2 : Nat) (z2 : List Int) (a3 : Option Addr) (len3 cap3 : Nat) (z3 : List Int) (w : World) (n0 : NetIn w N S T A c l3)
    (w1 : IsRow .i64 w a1 len1 cap1 z1) (y1 : len1 * 8 ≤ 140737488351232) (w2 : IsRow .i64 w a2 len2 cap2 z2) (y2 : len2 * 8 ≤ 140737488351232) (w3 : IsRow .i64 w a3 len3 cap3 z3) (y3 : len3 * 8 ≤ 140737488351232) :
    Calls Try.prog 5 #[.agg #[.int .i64 N, .int .i64 S, .int .i64 T, .slice A l3.length c], .slice a1 len1 cap1, .slice a2 len2 cap2, .slice a3 len3 cap3] w fun e w' => e = .returned (.bool true) ∧ Below w.heap.size w w' := by
  obtain ⟨rfl, _, _, s1, b1⟩ := SlI.of_row w1
  obtain ⟨rfl, _, _, s2, b2⟩ := SlI.of_row w2
  obtain ⟨rfl, _, _, s3, b3⟩ := SlI.of_row w3
  obtain ⟨hN, hS, hT, hc, hm, hs, hb⟩ := n0
  exact (great19 N S T A c l3 a1 cap1 z1 a2 cap2 z2 a3 cap3 z3 w hN hS hT hb hc hm hs s1 b1 (by omega) s2 b2 (by omega) s3 b3 (by omega)).mono fun e w' ⟨h1, h2⟩ => ⟨h1, h2.below (by simp) (Nat.le_refl _)⟩
end Acq
