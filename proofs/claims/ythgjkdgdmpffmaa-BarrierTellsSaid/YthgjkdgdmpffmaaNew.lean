/- The contracts of cells.New, Bank.All. -/
import Derived.Test.YthgjkdgdmpffmaaPlan
import Derived.Test.YthgjkdgdmpffmaaLists
set_option linter.unusedSimpArgs false
set_option linter.unusedVariables false
namespace Acq
open Go Go.RowKit Go.Proofs

theorem infoAtomic : (Try.prog.info? 76).map (fun i => (i.zero.map Value.cells, i.size, i.bytes)) = some (some #[.int .i64 0], 1, 8) := by kernel_rfl

theorem infoInt64 : (Try.prog.info? 2).map (fun i => (i.zero.map Value.cells, i.size, i.bytes)) = some (some #[.int .i64 0], 1, 8) := by kernel_rfl

theorem New_any (n : Nat) (hn : n ≤ 524288) (w : World) :
    Calls Try.prog 21 #[.int .i64 n] w fun e w' => e = .returned (.tuple #[.pointer (some ⟨w.heap.size + 1, 0, none⟩), .int .i64 0]) ∧ Bank w' (w.heap.size + 1) w.heap.size (List.replicate n 0) ∧ Fr [] w w' := by
  have d1 : decide ((n : Int) < 0) = false := by simp
  have d2 : decide ((524288 : Int) < n) = false := by simp; omega
  have hmk := run_mk (P := Try.prog) Try.underlying69 infoAtomic (by omega) n (by omega) w
  have hn := Lib.hid hn
  go_enter Try.func21, Try.ntmps21
  go_wp2
  go_returns
  refine ⟨rfl, ⟨by omega, ⟨71, ?_⟩, 76, ?_⟩, ?_⟩
  · simp only [List.length_replicate]
    have := Blk.new (w.alloc (.cells (List.replicate n (Value.int .i64 0)).toArray 76)) [.slice (some ⟨w.heap.size, 0, none⟩) n n] 71
    simpa using this
  · rw [List.map_replicate]
    exact (Blk.new w _ _).alloc _
  · exact ((Fr.refl _ _).alloc _).alloc _

/-- All: what the cells have, in a new row. -/
theorem All_any (pb ab : Nat) (vals : List Int) (hl : vals.length ≤ 524288) (w : World) (hB : Bank w pb ab vals) :
    Calls Try.prog 17 #[.pointer (some ⟨pb, 0, none⟩)] w fun e w' => e = .returned (.slice (some ⟨w.heap.size, 0, none⟩) vals.length vals.length) ∧ Blk w' w.heap.size (vals.map (.int .i64)) 2 ∧ Fr [] w w' := by
  have hmk := run_mk (P := Try.prog) Try.underlying40 infoInt64 (by omega) vals.length (by omega) w
  have hl' := Lib.hid hl
  go_enter Try.func17, Try.ntmps17
  go_wp2_with (go_at_call 30; refine (len_in _ _ _ _ hB.slice).mono ?_; rintro e w' ⟨rfl, rfl⟩)
  have hW0 : Fr [] w (w.alloc (.cells (List.replicate vals.length (Value.int .i64 0)).toArray 2)) := (Fr.refl _ _).alloc _
  have hR0 := Blk.new w (List.replicate vals.length (Value.int .i64 0)) 2
  have hlt := hB.lt
  go_loopw [10] (fun i wr => ∃ k : Nat, k ≤ vals.length ∧ i = .int .i64 k ∧ Blk wr w.heap.size (fill (vals.map (.int .i64)) k (.int .i64 0)) 2 ∧ Fr [] w wr) (fun i _ => vals.length - (intOf i).toNat)
  case atStart => exact ⟨0, Nat.zero_le _, rfl, by rw [fill_zero]; simpa using hR0, by simpa using hW0⟩
  case round =>
    obtain ⟨k, hk, rfl, hR, hF⟩ := hrel
    have hBr := hB.fr hF (by simp) (by simp)
    clear hmk hW0 hR0
    by_cases hkn : k < vals.length
    · obtain ⟨x, hx⟩ : ∃ x, vals[k]? = some x := ⟨_, List.getElem?_eq_getElem hkn⟩
      have hc := hR.cell (fill_get _ k _ (by simpa using hkn))
      have hf := hR.free k
      go_wp2_with (go_at_call 9; refine (load_bank hBr _ x (by omega) (by simpa using hx)).mono ?_; rintro e w' ⟨rfl, rfl⟩)
      go_roundw
      case rel =>
        refine ⟨k + 1, by omega, by go_num, ?_, ?_⟩
        · exact (hR.set k (.int .i64 x)).cast (fill_set _ _ _ _ (by simp [hx]))
        · exact ((hF.more (S' := [w.heap.size]) (by simp)).setCell (p := ⟨w.heap.size, k, none⟩) (by simp) _).less (by simp)
      case measure => simp [intOf]; omega
    · obtain rfl : k = vals.length := by omega
      go_wp2
      go_ret
      exact ⟨rfl, hR.cast (by rw [show vals.length = (vals.map (Value.int .i64)).length from by simp, fill_all]), hF⟩

end Acq
