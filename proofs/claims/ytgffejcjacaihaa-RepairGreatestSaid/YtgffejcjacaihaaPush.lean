/- The queue's Push and Pop, and the heap's. -/
import Derived.Test.YtgffejcjacaihaaHeap2
import Derived.Deep.AppendLies
set_option linter.unusedSimpArgs false
set_option linter.unnecessarySimpa false
set_option linter.unusedVariables false
namespace Acq
open Go Go.RowKit Go.Proofs

theorem infoSpot : (Try.prog.info? 64).map (fun i => (i.zero, i.size, i.bytes)) = some (some (.agg #[.int .i64 0, .int .i64 0]), 2, 16) := by kernel_rfl

/-- A queue in memory. -/
structure Qu (w : World) (base qb : Nat) (Q : List Spot) (v : Value) : Prop where
  blk : Blk w qb [v] 61
  own : w.ownsRow base 64 2 v Q.length (flat Q)
  ne : ∀ g, v.ownBlock = some g → g ≠ qb

section
variable {w w' : World} {base qb : Nat} {Q : List Spot} {v : Value}

set_option maxHeartbeats 1000000 in
theorem push_any (h : Qu w base qb Q v) (p : Spot) (hm : Q.length ≤ 100000) (hb : base ≤ w.heap.size) :
    Calls Try.prog 66 #[.pointer (some ⟨qb, 0, none⟩), .iface 64 (.agg (spot p).toArray)] w fun e w' => e = .returned (.tuple #[]) ∧ ∃ v', Qu w' base qb (Q ++ [p]) v' ∧ (∀ g, v'.ownBlock = some g → v.ownBlock = some g ∨ w.heap.size ≤ g) ∧ Fr (qb :: v.ownBlock.toList) w w' := by
  have c0 := h.blk.cell (o := 0) rfl
  obtain ⟨i0, hi0, hz0, hz1, hz2⟩ := info_parts infoSpot
  have HI := Lib.hid (And.intro hi0 (And.intro hz0 (And.intro hz1 hz2)))
  have H := Lib.hid h
  clear hi0 hz0 hz1 hz2 h
  go_enter Try.func66, Try.ntmps66
  refine wr_begin [8] (fun W => W.cell? ⟨qb, 0, none⟩ = some v) (by kernel_rfl) (by exact c0) ?_
  refine wr_pure 0 _ rfl (by kernel_rfl) (by kernel_rfl) (by kernel_rfl) (fun _ _ _ h => h) (by kernel_rfl) (by rfl) (fun _ => by go_simp; try with_reducible rfl) ?_
  try simp only [Act.put, List.setIfInBounds_toArray, List.set_cons_zero, List.set_cons_succ]
  refine wr_pure 1 _ rfl (by kernel_rfl) (by kernel_rfl) (by kernel_rfl) (fun _ _ _ h => h) (by kernel_rfl) (by rfl) (fun _ => by go_simp; try with_reducible rfl) ?_
  try simp only [Act.put, List.setIfInBounds_toArray, List.set_cons_zero, List.set_cons_succ]
  refine wr_pure 2 _ rfl (by kernel_rfl) (by kernel_rfl) (by kernel_rfl) (fun _ _ _ h => h) (by kernel_rfl) (by rfl) (fun _ => by go_simp; try with_reducible rfl) ?_
  try simp only [Act.put, List.setIfInBounds_toArray, List.set_cons_zero, List.set_cons_succ]
  refine wr_pure 3 _ rfl (by kernel_rfl) (by kernel_rfl) (by kernel_rfl) (fun _ _ _ h => h) (by kernel_rfl) (by rfl) (fun _ => by go_simp; try with_reducible rfl) ?_
  try simp only [Act.put, List.setIfInBounds_toArray, List.set_cons_zero, List.set_cons_succ]
  refine wr_read 4 _ rfl (by kernel_rfl) (by kernel_rfl) (by kernel_rfl) (fun _ _ _ h => h) (by kernel_rfl) (by kernel_rfl) (by rfl) (fun _ hF => by have hF1 := hF; clear hF; go_simp; try with_reducible rfl) ?_
  try simp only [Act.put, List.setIfInBounds_toArray, List.set_cons_zero, List.set_cons_succ]
  refine wr_pure 5 _ rfl (by kernel_rfl) (by kernel_rfl) (by kernel_rfl) (fun _ _ _ h => h) (by kernel_rfl) (by rfl) (fun _ => by go_simp; try with_reducible rfl) ?_
  try simp only [Act.put, List.setIfInBounds_toArray, List.set_cons_zero, List.set_cons_succ]
  refine wr_do 6 rfl (by kernel_rfl) (by rfl) (fun K hK => ?_)
  refine wp_run (v := .agg (spot p).toArray) (w' := w.drew) (by kernel_rfl) (hK _ _ ⟨fun _ => c0, ?_⟩)
  try simp only [Act.put, List.setIfInBounds_toArray, List.set_cons_zero, List.set_cons_succ]
  refine wr_do 7 rfl (by kernel_rfl) (by rfl) (fun K hK => ?_)
  refine wp_run (v := .slice (some ⟨w.drew.heap.size, 0, none⟩) 1 1) (w' := w.drew.alloc (.cells (spot p).toArray 64)) (by kernel_rfl) (hK _ _ ⟨fun _ => (H.out.blk.drew.alloc _).cell rfl, ?_⟩)
  try simp only [Act.put, List.setIfInBounds_toArray, List.set_cons_zero, List.set_cons_succ]
  refine wr_do 8 rfl (by kernel_rfl) (by rfl) (fun K hK => ?_)
  have hown3 : (w.drew.alloc (.cells (spot p).toArray 64)).ownsRow base 64 2 v Q.length (flat Q) := ownsRow_fr H.out.own ((Fr.drew (Fr.refl [] w)).alloc _) (by simp)
  refine wp_append_lies _ _ _ _ rfl base 64 i0 _ 2 16 Try.underlying59 HI.out.1 HI.out.2.1 HI.out.2.2.1 HI.out.2.2.2 rfl (by omega) v Q.length _ rfl hown3 ⟨w.heap.size, 0, none⟩ 1 1 (spot p) rfl rfl (World.news_of_block (heap_alloc_new w.drew _)) (by simp [Value.oneCell', spot]) (by omega) (by unfold maxLen; omega) (by omega) (by rw [World.size_alloc]; show base ≤ w.heap.size + 1; omega) (w.heap.size + 1) (by simp) ?_
  intro g cap w4 hown4 hgr4 hat4 hlt4
  have hgF : Fr v.ownBlock.toList (w.drew.alloc (.cells (spot p).toArray 64)) w4 := Fr.of_grown hgr4 (by simp)
  have hb4 : Blk w4 qb [v] 61 := (H.out.blk.drew.alloc (.cells (spot p).toArray 64)).fr hgF (fun hm => H.out.ne qb (by simpa using hm) rfl)
  have c4 := hb4.cell (o := 0) rfl
  have f4 := hb4.free 0
  have hgq : g ≠ qb := by
    rcases hat4 with h | h
    · exact H.out.ne g h
    · have : qb < w.heap.size := H.out.blk.lt
      omega
  have hgr : ∀ q, (Value.slice (some ⟨g, 0, none⟩) (Q.length + 1) cap).ownBlock = some q → v.ownBlock = some q ∨ w.heap.size ≤ q := by
    intro q hq
    simp [Value.ownBlock] at hq
    subst hq
    rcases hat4 with h | h
    · exact .inl h
    · exact .inr (by omega)
  have hG4 : Fr (qb :: v.ownBlock.toList) w w4 := (((Fr.drew (Fr.refl [] w)).alloc (.cells (spot p).toArray 64)).more (by simp)).trans (hgF.more (fun x hx => List.mem_cons_of_mem _ hx))
  have HO4 := Lib.hid hown4
  have HB4 := Lib.hid hb4
  have HG4 := Lib.hid hG4
  have HGR := Lib.hid hgr
  clear hown4 hb4 hG4 hgr hgF hgr4 hat4 hown3
  refine hK _ _ ⟨Still.off 8 (by kernel_rfl) (by kernel_rfl), ?_⟩
  try simp only [Act.put, List.setIfInBounds_toArray, List.set_cons_zero, List.set_cons_succ]
  refine wr_pure 9 _ rfl (by kernel_rfl) (by kernel_rfl) (by kernel_rfl) (fun _ _ _ h => h) (by kernel_rfl) (by rfl) (fun _ => by go_simp; try with_reducible rfl) ?_
  try simp only [Act.put, List.setIfInBounds_toArray, List.set_cons_zero, List.set_cons_succ]
  refine wr_pure 10 _ rfl (by kernel_rfl) (by kernel_rfl) (by kernel_rfl) (fun _ _ _ h => h) (by kernel_rfl) (by rfl) (fun _ => by go_simp; try with_reducible rfl) ?_
  try simp only [Act.put, List.setIfInBounds_toArray, List.set_cons_zero, List.set_cons_succ]
  refine wr_do 11 rfl (by kernel_rfl) (by rfl) (fun K hK => ?_)
  go_wp2_with fail
  refine ⟨Still.off 8 (by kernel_rfl) (by kernel_rfl), ?_⟩
  try simp only [Act.put, List.setIfInBounds_toArray, List.set_cons_zero, List.set_cons_succ]
  refine wr_done (by kernel_rfl) ?_ _
  go_wp2_with fail
  go_returns
  refine ⟨rfl, .slice (some ⟨g, 0, none⟩) (Q.length + 1) cap, ⟨HB4.out.set 0 _, ?_, ?_⟩, HGR.out, HG4.out.setCell (by simp) _⟩
  · have := ownsRow_fr HO4.out ((Fr.refl [qb] w4).setCell (p := ⟨qb, 0, none⟩) (by simp) (.slice (some ⟨g, 0, none⟩) (Q.length + 1) cap)) (by simp [Value.ownBlock]; omega)
    rw [flat_append, List.length_append]
    simpa [flat] using this
  · intro q hq
    simp [Value.ownBlock] at hq
    omega

theorem Qu.some (h : Qu w base qb Q v) (hn : 0 < Q.length) : ∃ g cap, v = .slice (some ⟨g, 0, none⟩) Q.length cap ∧ SpR w base g cap Q ∧ g ≠ qb := by
  obtain ⟨hl, h1 | ⟨g, cap, cur, rfl, h2, h3, h4, h5, h6, h7⟩⟩ := h.own
  · omega
  · exact ⟨g, cap, rfl, ⟨cur, h3, h2, h4, h5, h6, h7⟩, h.ne g rfl⟩

theorem SpR.qu {g cap : Nat} (h : SpR w base g cap Q) (hb : Blk w qb [.slice (some ⟨g, 0, none⟩) Q.length cap] 61) (hg : g ≠ qb) : Qu w base qb Q (.slice (some ⟨g, 0, none⟩) Q.length cap) := by
  obtain ⟨cur, h1, h2, h3, h4, h5, h6⟩ := h
  exact ⟨hb, ⟨flat_len Q, .inr ⟨g, cap, cur, rfl, h2, h1, h3, h4, h5, h6⟩⟩, fun q hq => by simp [Value.ownBlock] at hq; omega⟩

theorem SpR.less {g cap : Nat} (h : SpR w base g cap Q) (n : Nat) (hn : n ≤ Q.length) : SpR w base g cap (Q.take n) := by
  obtain ⟨cur, h1, h2, h3, h4, h5, h6⟩ := h
  refine ⟨cur, h1, h2, by rw [List.length_take]; omega, h4, h5, ?_⟩
  rw [← flat_take, ← h6, List.take_take, List.length_take]
  congr 1; omega

end
end Acq
