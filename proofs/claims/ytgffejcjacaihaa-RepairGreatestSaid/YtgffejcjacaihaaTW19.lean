/- RepairTells, as the row hands its arguments over. -/
import Derived.Test.YtgffejcjacaihaaTells19
import Derived.Test.YtgffejcjacaihaaOpenNet
set_option linter.unnecessarySimpa false
set_option linter.unusedVariables false
namespace Acq
open Go Go.RowKit Go.Proofs

/-- A net as a row hands it over. -/
def NetIn (w : World) (N S T : Int) (A : Option Addr) (c : Nat) (l3 : List R3) : Prop := In64 N ∧ In64 S ∧ In64 T ∧ l3.length ≤ c ∧ c ≤ maxLen ∧ Sl w A l3.length 3 (cat rawCells l3) ∧ ∀ a ∈ l3, In64 a.1 ∧ In64 a.2.1 ∧ In64 a.2.2

theorem IsRow.nil_cap {k : IntKind} {w : World} {a : Option Addr} {len cap : Nat} {zs : List Int} (h : IsRow k w a len cap zs) : a = none → cap = 0 := by
  rintro rfl
  exact h.2.1

theorem u8_of {n : Int} (h : (Lit.int .u8 n).wf = true) : 0 ≤ n ∧ n ≤ 255 := by
  have h5 : IntKind.u8.min = 0 := by decide
  have h6 : IntKind.u8.max = 255 := by decide
  simpa [Lit.wf, h5, h6] using h

theorem tells_walk (N S T : Int) (A : Option Addr) (c : Nat) (l3 : List R3) (a1 : Option Addr) (len1 cap1 : Nat) (z1 : List Int) (a2 : Option Addr) (len2 cap2 : Nat) (z2 : List Int) (a3 : Int) (w : World) (n0 : NetIn w N S T A c l3)
    (w1 : IsRow .i64 w a1 len1 cap1 z1) (y1 : len1 * 8 ≤ 140737488351232) (w2 : IsRow .i64 w a2 len2 cap2 z2) (y2 : len2 * 8 ≤ 140737488351232) (w3 : (Lit.int .u8 a3).wf = true) :
    Calls Try.prog 3 #[.agg #[.int .i64 N, .int .i64 S, .int .i64 T, .slice A l3.length c], .slice a1 len1 cap1, .slice a2 len2 cap2, .int .u8 a3] w fun e w' => e = .returned (.bool true) ∧ Below w.heap.size w w' := by
  obtain ⟨rfl, _, _, s1, b1⟩ := SlI.of_row w1
  have hn := w2.nil_cap
  obtain ⟨rfl, _, _, s2, b2⟩ := SlI.of_row w2
  obtain ⟨hN, hS, hT, hc, hm, hs, hb⟩ := n0
  obtain ⟨o1, o2⟩ := u8_of w3
  exact (tells19 N S T A c l3 a1 cap1 z1 a2 cap2 z2 a3 w hN hS hT hb hc hm hs s1 b1 (by omega) s2 b2 y2 hn o1 o2).mono fun e w' ⟨h1, h2⟩ => ⟨h1, h2.below (by simp) (Nat.le_refl _)⟩
end Acq
