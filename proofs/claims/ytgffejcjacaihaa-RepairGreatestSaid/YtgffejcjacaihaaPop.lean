/- The queue's Pop. -/
import Derived.Test.YtgffejcjacaihaaPush
set_option linter.unusedSimpArgs false
set_option linter.unnecessarySimpa false
set_option linter.unusedVariables false
namespace Acq
open Go Go.RowKit Go.Proofs
section
variable {w w' : World} {base qb g cap : Nat} {Q : List Spot} {v : Value}

set_option maxHeartbeats 1000000 in
theorem pop_any (hb : Blk w qb [.slice (some ⟨g, 0, none⟩) (Q.length + 1) cap] 61) (hg : g ≠ qb) (p : Spot) (h : SpR w base g cap (Q ++ [p])) (hm : Q.length ≤ 100000) :
    Calls Try.prog 65 #[.pointer (some ⟨qb, 0, none⟩)] w fun e w' => e = .returned (.iface 64 (.agg (spot p).toArray)) ∧ Blk w' qb [.slice (some ⟨g, 0, none⟩) Q.length cap] 61 ∧ SpR w' base g cap Q ∧ Fr [qb] w w' := by
  have c0 := hb.cell (o := 0) rfl
  have f0 := hb.free 0
  have hp : (Q ++ [p])[Q.length]? = some p := by simp
  have k1 := h.get hp 0 _ rfl
  have k2 := h.get hp 1 _ rfl
  rw [Nat.add_zero] at k1
  have hcap : Q.length + 1 ≤ cap := by obtain ⟨_, _, _, hcap, _⟩ := h; simpa using hcap
  have hgl := h.lt
  have hbl : qb < w.heap.size := hb.lt
  have ba := hb.alloc (.cells #[.int .i64 p.1, .int .i64 p.2] 64)
  have ca := ba.cell (o := 0) rfl
  have fa := ba.free 0
  have HBA := Lib.hid ba
  have HSA := Lib.hid (h.fr ((Fr.refl [] w).alloc (.cells #[.int .i64 p.1, .int .i64 p.2] 64)) (by simp))
  clear ba
  have HB := Lib.hid hb
  have H := Lib.hid h
  clear hb h hp
  go_enter Try.func65, Try.ntmps65
  go_wp2_with fail
  go_ret
  refine ⟨rfl, (HB.out.set 0 _).alloc _, ?_, ((Fr.refl [qb] w).setCell (by simp) _).alloc _⟩
  have := (H.out.fr (((Fr.refl [qb] w).setCell (p := ⟨qb, 0, none⟩) (by simp) (.slice (some ⟨g, 0, none⟩) Q.length cap)).alloc (.cells #[.int .i64 p.1, .int .i64 p.2] 64)) (by simp; omega)).less Q.length (by simp)
  rwa [List.take_left] at this
end
end Acq
