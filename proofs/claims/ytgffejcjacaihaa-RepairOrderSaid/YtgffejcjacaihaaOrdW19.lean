/- RepairOrder, as the row hands its arguments over. -/
import Derived.Test.YtgffejcjacaihaaOrder19
import Derived.Deep.Grids
set_option linter.unnecessarySimpa false
set_option linter.unusedVariables false
namespace Acq
open Go Go.RowKit Go.Proofs Go.ChangeShapes Go.WideShapes Go.Deep

/-- A slice of bools as a row hands it over. -/
def IsRowB (w : World) (A : Option Addr) (len cap : Nat) (zs : List Bool) : Prop := len = zs.length ∧ zs.length ≤ maxLen ∧ SlB w A zs

theorem SlB.of_cells {w : World} {a : Addr} {xs : List Bool} (h : ∀ (i : Nat) x, xs[i]? = some x → w.cell? (a.add i) = some (.bool x)) : SlB w (some a) xs := by
  refine ⟨by rw [bools_len]; omega, fun hn => ?_⟩
  have h0 := h 0 _ (List.getElem?_eq_getElem hn)
  have hs : a.spot = none := by
    simp only [Addr.add, if_pos] at h0
    unfold World.cell? at h0
    split at h0
    · split at h0
      · simp at h0
      · rename_i h5; cases h6 : a.spot <;> simp_all
    · simp at h0
  obtain ⟨g, off, sp⟩ := a
  simp only at hs
  subst hs
  refine ⟨g, off, rfl, fun j v hv => ?_⟩
  rw [bools, List.getElem?_map] at hv
  obtain ⟨x, hx, rfl⟩ := Option.map_eq_some_iff.1 hv
  have := h j x hx
  rw [Addr.add_mid] at this
  exact this

theorem open_bools_row {H : Type} {enc : TypeId × Value → H} {w : World} {base : Nat} {held : Bool} {a : Option Addr} {len cap : Nat} {d : DataW H} {p : List MemPlace}
    (h : DataW.Trod enc Try.prog w base (fun _ => true) held 27 (.slice a len cap) d p) : ∃ zs, IsRowB w a len cap zs := by
  obtain ⟨fuel, hf⟩ := h
  rcases open_bools Try.underlying27 Try.underlying4 (by kernel_rfl) hf with ⟨hcs, _⟩ | ⟨x, l, c, B, hcs, _, hl, hm, _, hcell⟩
  · simp [Value.cells] at hcs
    obtain ⟨rfl, rfl, rfl⟩ := hcs
    exact ⟨[], rfl, Nat.zero_le _, Sl.nil _ _ _⟩
  · simp [Value.cells] at hcs
    obtain ⟨rfl, rfl, rfl⟩ := hcs
    refine ⟨(List.range len).map B, by simp, by simp; omega, SlB.of_cells fun i x hx => ?_⟩
    have hi := (List.getElem?_eq_some_iff.1 hx).1
    simp at hi
    rw [List.getElem?_map, List.getElem?_range hi] at hx
    simp at hx
    subst hx
    exact hcell i (by omega)

theorem order_walk (N S T : Int) (A : Option Addr) (c : Nat) (l3 : List R3) (a1 : Option Addr) (len1 cap1 : Nat) (z1 : List Int) (a2 : Option Addr) (len2 cap2 : Nat) (z2 : List Int) (a3 : Option Addr) (len3 cap3 : Nat) (z3 : List Int) (a4 : Option Addr) (len4 cap4 : Nat) (z4 : List Bool) (w : World) (n0 : NetIn w N S T A c l3)
    (w1 : IsRow .i64 w a1 len1 cap1 z1) (y1 : len1 * 8 ≤ 140737488351232) (w2 : IsRow .i64 w a2 len2 cap2 z2) (y2 : len2 * 8 ≤ 140737488351232) (w3 : IsRow .i64 w a3 len3 cap3 z3) (y3 : len3 * 8 ≤ 140737488351232) (w4 : IsRowB w a4 len4 cap4 z4) :
    Calls Try.prog 4 #[.agg #[.int .i64 N, .int .i64 S, .int .i64 T, .slice A l3.length c], .slice a1 len1 cap1, .slice a2 len2 cap2, .slice a3 len3 cap3, .slice a4 len4 cap4] w fun e w' => e = .returned (.bool true) ∧ Below w.heap.size w w' := by
  obtain ⟨rfl, _, _, s1, b1⟩ := SlI.of_row w1
  obtain ⟨rfl, _, _, s2, b2⟩ := SlI.of_row w2
  obtain ⟨rfl, _, _, s3, b3⟩ := SlI.of_row w3
  obtain ⟨rfl, m4, s4⟩ := w4
  obtain ⟨hN, hS, hT, hc, hm, hs, hb⟩ := n0
  exact (order19 N S T A c l3 a1 cap1 z1 a2 cap2 z2 a3 cap3 z3 a4 cap4 z4 w hN hS hT hb hc hm hs s1 b1 (by omega) s2 b2 (by omega) s3 b3 (by omega) s4 (by unfold maxLen at m4; omega)).mono fun e w' ⟨h1, h2⟩ => ⟨h1, h2.below (by simp) (Nat.le_refl _)⟩
end Acq
