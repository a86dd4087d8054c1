/- The contract of the crowd's step. -/
import Derived.Test.YthgjkdgdmpffmaaCrowd
import Derived.Deep.QuietTactic
import Derived.BigQuiet
import Derived.StillTailTactics
set_option linter.unusedSimpArgs false
set_option linter.unusedVariables false
namespace Acq
open Go Go.RowKit Go.Proofs

section
variable {w : World} {base pc pb ab nb bb db : Nat} {ls : List Value} {n : Nat} {vals : List Int} {A : List Value} {began done : List Nat} {lv : Value} {lasts : List Nat}

def NotDonePost (base pc pb ab nb bb db : Nat) (ls : List Value) (n i : Nat) (w : World) (A : List Value) (began done : List Nat) (lv : Value) (lasts : List Nat) (r : ArrS × List Int) (e : Ending) (w' : World) : Prop :=
  e = .returned (.bool true) ∧ CM w' base pc pb ab nb bb db ls n r.2 (putArr A (i * 17) r.1) began done lv lasts ∧ Fr [nb, ab] w w'

theorem CM.on (h : CM w base pc pb ab nb bb db ls n vals A began done lv lasts) {W w' : World} {A' : List Value} {vals' : List Int} (hW : Sim w W) (hN : Blk w' nb A' 46) (hB : Bank w' pb ab vals') (hF : Fr [nb, ab] W w') :
    CM w' base pc pb ab nb bb db ls n vals' A' began done lv lasts := by
  have hF' : Fr [nb, ab] w w' := (hW.fr).trans hF
  have hdis := h.dis
  simp only [List.nodup_cons, List.mem_cons, List.not_mem_nil, not_or, or_false] at hdis
  obtain ⟨capn, hC⟩ := h.crowd
  exact ⟨⟨capn, hC.fr hF' (by simp; omega)⟩, hB, hN, h.beg.fr hF' (by simp; omega), h.don.fr hF' (by simp; omega), ownsRow_fr h.las hF' (fun g hg hm => h.lo g hg (by simp at hm ⊢; omega)), h.lo, h.dis, h.ge⟩

theorem CM.base_le (h : CM w base pc pb ab nb bb db ls n vals A began done lv lasts) : base ≤ w.heap.size := by
  obtain ⟨capn, hC⟩ := h.crowd
  exact Nat.le_trans (h.ge pc (by simp)) (Nat.le_of_lt hC.lt)

theorem CM.setDone (h : CM w base pc pb ab nb bb db ls n vals A began done lv lasts) (i d : Nat) : CM (w.setCell ⟨db, i, none⟩ (.int .i64 d)) base pc pb ab nb bb db ls n vals A began (done.set i d) lv lasts := by
  have hF : Fr [db] w (w.setCell ⟨db, i, none⟩ (.int .i64 d)) := (Fr.refl _ _).setCell (by simp) _
  have hdis := h.dis
  simp only [List.nodup_cons, List.mem_cons, List.not_mem_nil, not_or, or_false] at hdis
  obtain ⟨capn, hC⟩ := h.crowd
  exact ⟨⟨capn, hC.fr hF (by simp; omega)⟩, h.bank.fr hF (by simp; omega) (by simp; omega), h.now.fr hF (by simp; omega), h.beg.fr hF (by simp; omega), by rw [List.map_set]; exact h.don.set i _, ownsRow_fr h.las hF (fun g hg hm => h.lo g hg (by simp at hm ⊢; omega)), h.lo, h.dis, h.ge⟩

theorem CM.setLasts (h : CM w base pc pb ab nb bb db ls n vals A began done lv lasts) (hls : ls.length = 14) {w' : World} (hF : Fr lv.ownBlock.toList w w') {lv' : Value} {lasts' : List Nat} (hown : w'.ownsRow base 3 1 lv' lasts'.length (lasts'.map i64)) (hlo : ∀ q, lv'.ownBlock = some q → q ∉ [pc, pb, ab, nb, bb, db]) :
    CM (w'.setCell ⟨pc, 18, none⟩ lv') base pc pb ab nb bb db ls n vals A began done lv' lasts' := by
  have hF2 : Fr (pc :: lv.ownBlock.toList) w (w'.setCell ⟨pc, 18, none⟩ lv') := (hF.more (fun x hx => List.mem_cons_of_mem _ hx)).setCell (by simp) _
  have hdis := h.dis
  simp only [List.nodup_cons, List.mem_cons, List.not_mem_nil, not_or, or_false] at hdis
  obtain ⟨capn, hC⟩ := h.crowd
  have no : ∀ q, q ∈ [pc, pb, ab, nb, bb, db] → q ∉ lv.ownBlock.toList := fun q hq hm => h.lo q (by simpa using hm) hq
  have no2 : ∀ q, q ∈ [pb, ab, nb, bb, db] → q ≠ pc → q ∉ pc :: lv.ownBlock.toList := fun q hq hne hm => by
    rcases List.mem_cons.1 hm with rfl | hm
    · exact hne rfl
    · exact no q (List.mem_cons_of_mem _ hq) hm
  refine ⟨⟨capn, ((hC.fr hF (no pc (by simp))).set 18 lv').cast ?_⟩, h.bank.fr hF2 (no2 pb (by simp) (by omega)) (no2 ab (by simp) (by omega)), h.now.fr hF2 (no2 nb (by simp) (by omega)), h.beg.fr hF2 (no2 bb (by simp) (by omega)), h.don.fr hF2 (no2 db (by simp) (by omega)),
    ownsRow_setCell_other hown (fun e => hlo _ e (by simp)) _, hlo, h.dis, h.ge⟩
  rw [List.set_append_right _ _ (by omega), hls]
  rfl

/-- The length of what says who was the last one. -/
def lenAt (w : World) (pc : Nat) : Nat := match w.cell? ⟨pc, 18, none⟩ with | some (.slice _ l _) => l | _ => 0

theorem CM.lenAt (h : CM w base pc pb ab nb bb db ls n vals A began done lv lasts) (hls : ls.length = 14) : lenAt w pc = lasts.length := by
  obtain ⟨capn, hC⟩ := h.crowd
  obtain ⟨a, cap, rfl⟩ := ownsRow_slice h.las
  have := hC.cell (o := 18) (v := .slice a lasts.length cap) (by rw [List.getElem?_append_right (by omega), hls]; rfl)
  simp [Acq.lenAt, this]

/-- A worker that is under way, and is not done by this step. -/
theorem step_on (h : CM w base pc pb ab nb bb db ls n vals A began done lv lasts) (hls : ls.length = 14) (i : Nat) (hi : i < n) (b d : Nat) (hb : began[i]? = some b) (hd : done[i]? = some d) (hne : b ≠ d)
    (r : ArrS × List Int) (hr : r.1.nx ≠ 5)
    (hstep : ∀ W, Blk W nb A 46 → Bank W pb ab vals → Calls Try.prog 14 #[.pointer (some ⟨nb, i * 17, none⟩), .pointer (some ⟨pb, 0, none⟩)] W (StepPost nb (i * 17) pb ab A 46 W r)) :
    Calls Try.prog 7 #[.pointer (some ⟨pc, 0, none⟩), .int .i64 i] w (NotDonePost base pc pb ab nb bb db ls n i w A began done lv lasts r) := by
  obtain ⟨capn, hC⟩ := h.crowd
  obtain ⟨l0, l1, l2, l3, l4, l5, l6, l7, l8, l9, l10, l11, l12, l13, rfl⟩ : ∃ l0 l1 l2 l3 l4 l5 l6 l7 l8 l9 l10 l11 l12 l13, ls = [l0, l1, l2, l3, l4, l5, l6, l7, l8, l9, l10, l11, l12, l13] := by
    match ls, hls with
    | [l0, l1, l2, l3, l4, l5, l6, l7, l8, l9, l10, l11, l12, l13], _ => exact ⟨l0, l1, l2, l3, l4, l5, l6, l7, l8, l9, l10, l11, l12, l13, rfl⟩
  have c14 := hC.cell (o := 14) rfl
  have c15 := hC.cell (o := 15) rfl
  have c16 := hC.cell (o := 16) rfl
  have c17 := hC.cell (o := 17) rfl
  have kb := h.beg.cell (o := i) (v := .int .i64 b) (by simp [hb, i64])
  have kd := h.don.cell (o := i) (v := .int .i64 d) (by simp [hd, i64])
  have hi0 : (0 : Int) ≤ (i : Int) := by omega
  have hi1 : (i : Int) < (n : Int) := by omega
  have hbd : ((b : Int) == (d : Int)) = false := by simp; omega
  have H := Lib.hid h
  have HS := Lib.hid hstep
  have HR := Lib.hid hr
  have hdec : decide (r.1.nx = 5) = false := by simp [hr]
  clear h hstep hb hd hne hr
  go_enter Try.func7, Try.ntmps7
  go_wp2_with fail
  go_quiet (fail)
  go_wp2_with fail
  refine wr_begin [10] (fun W => W.cell? ⟨pc, 15, none⟩ = some (.slice (some ⟨nb, 0, none⟩) n capn) ∧ W.cell? ⟨pc, 14, none⟩ = some (.pointer (some ⟨pb, 0, none⟩))) (by kernel_rfl) (by exact ⟨c15, c14⟩) ?_
  refine wr_pure 0 _ rfl (by kernel_rfl) (by kernel_rfl) (by kernel_rfl) (fun _ _ _ h => h) (by kernel_rfl) (by rfl) (fun _ => by go_simp; try with_reducible rfl) ?_
  try simp only [Act.put, List.setIfInBounds_toArray, List.set_cons_zero, List.set_cons_succ]
  refine wr_pure 1 _ rfl (by kernel_rfl) (by kernel_rfl) (by kernel_rfl) (fun _ _ _ h => h) (by kernel_rfl) (by rfl) (fun _ => by go_simp; try with_reducible rfl) ?_
  try simp only [Act.put, List.setIfInBounds_toArray, List.set_cons_zero, List.set_cons_succ]
  refine wr_pure 2 _ rfl (by kernel_rfl) (by kernel_rfl) (by kernel_rfl) (fun _ _ _ h => h) (by kernel_rfl) (by rfl) (fun _ => by go_simp; try with_reducible rfl) ?_
  try simp only [Act.put, List.setIfInBounds_toArray, List.set_cons_zero, List.set_cons_succ]
  refine wr_read 3 _ rfl (by kernel_rfl) (by kernel_rfl) (by kernel_rfl) (fun _ _ _ h => h) (by kernel_rfl) (by kernel_rfl) (by rfl) (fun _ hF => by have hF1 := hF.1; clear hF; go_simp; try with_reducible rfl) ?_
  try simp only [Act.put, List.setIfInBounds_toArray, List.set_cons_zero, List.set_cons_succ]
  refine wr_pure 4 _ rfl (by kernel_rfl) (by kernel_rfl) (by kernel_rfl) (fun _ _ _ h => h) (by kernel_rfl) (by rfl) (fun _ => by go_simp; try with_reducible rfl) ?_
  try simp only [Act.put, List.setIfInBounds_toArray, List.set_cons_zero, List.set_cons_succ]
  refine wr_pure 5 _ rfl (by kernel_rfl) (by kernel_rfl) (by kernel_rfl) (fun _ _ _ h => h) (by kernel_rfl) (by rfl) (fun _ => by go_simp; try with_reducible rfl) ?_
  try simp only [Act.put, List.setIfInBounds_toArray, List.set_cons_zero, List.set_cons_succ]
  refine wr_pure 6 _ rfl (by kernel_rfl) (by kernel_rfl) (by kernel_rfl) (fun _ _ _ h => h) (by kernel_rfl) (by rfl) (fun _ => by go_simp; try with_reducible rfl) ?_
  try simp only [Act.put, List.setIfInBounds_toArray, List.set_cons_zero, List.set_cons_succ]
  refine wr_pure 7 _ rfl (by kernel_rfl) (by kernel_rfl) (by kernel_rfl) (fun _ _ _ h => h) (by kernel_rfl) (by rfl) (fun _ => by go_simp; try with_reducible rfl) ?_
  try simp only [Act.put, List.setIfInBounds_toArray, List.set_cons_zero, List.set_cons_succ]
  refine wr_pure 8 _ rfl (by kernel_rfl) (by kernel_rfl) (by kernel_rfl) (fun _ _ _ h => h) (by kernel_rfl) (by rfl) (fun _ => by go_simp; try with_reducible rfl) ?_
  try simp only [Act.put, List.setIfInBounds_toArray, List.set_cons_zero, List.set_cons_succ]
  refine wr_read 9 _ rfl (by kernel_rfl) (by kernel_rfl) (by kernel_rfl) (fun _ _ _ h => h) (by kernel_rfl) (by kernel_rfl) (by rfl) (fun _ hF => by have hF1 := hF.2; clear hF; go_simp; try with_reducible rfl) ?_
  try simp only [Act.put, List.setIfInBounds_toArray, List.set_cons_zero, List.set_cons_succ]
  refine wr_do 10 rfl (by kernel_rfl) (by rfl) (fun K hK => ?_)
  go_wp2_with (go_at_call 14; refine (HS.out _ (Blk.drewN H.out.now _) (Bank.drewN H.out.bank _)).mono ?_; rintro e w2 hP; obtain ⟨he, hN2, hB2, hF2⟩ := hP; rw [hdec] at he; subst he)
  refine ⟨Still.off 10 (by kernel_rfl) (by kernel_rfl), ?_⟩
  try simp only [Act.put, List.setIfInBounds_toArray, List.set_cons_zero, List.set_cons_succ]
  refine wr_pure 11 _ rfl (by kernel_rfl) (by kernel_rfl) (by kernel_rfl) (fun _ _ _ h => h) (by kernel_rfl) (by rfl) (fun _ => by go_simp; try with_reducible rfl) ?_
  try simp only [Act.put, List.setIfInBounds_toArray, List.set_cons_zero, List.set_cons_succ]
  refine wr_done (by kernel_rfl) ?_ _
  go_wp2_with fail
  go_ret
  refine ⟨rfl, ?_, ?_⟩
  · exact H.out.on (W := w.drewN (nq + 1)) ⟨rfl, rfl, rfl, rfl⟩ hN2 hB2 hF2
  · exact ((Sim.fr (w := w) (w' := w.drewN (nq + 1)) ⟨rfl, rfl, rfl, rfl⟩).trans hF2)
theorem CM.drewN (h : CM w base pc pb ab nb bb db ls n vals A began done lv lasts) (m : Nat) : CM (w.drewN m) base pc pb ab nb bb db ls n vals A began done lv lasts := ⟨h.crowd, h.bank, h.now, h.beg, h.don, h.las, h.lo, h.dis, h.ge⟩

theorem Below.drewN {B : Nat} {a w : World} (h : Below B a w) (m : Nat) : Below B a (w.drewN m) := ⟨h.os, h.tape, h.output, h.size, h.block⟩

theorem CM.bump {q l cap : Nat} (h : CM w base pc pb ab nb bb db ls n vals A began done (.slice (some ⟨q, 0, none⟩) l cap) lasts) (d x : Nat) : CM (w.setCell ⟨q, d, none⟩ (.int .i64 x)) base pc pb ab nb bb db ls n vals A began done (.slice (some ⟨q, 0, none⟩) l cap) (lasts.set d x) := by
  have hq := h.lo q rfl
  have hF : Fr [q] w (w.setCell ⟨q, d, none⟩ (.int .i64 x)) := (Fr.refl _ _).setCell (by simp) _
  simp only [List.mem_cons, List.not_mem_nil, or_false, not_or] at hq
  obtain ⟨capn, hC⟩ := h.crowd
  refine ⟨⟨capn, hC.fr hF (by simp; omega)⟩, h.bank.fr hF (by simp; omega) (by simp; omega), h.now.fr hF (by simp; omega), h.beg.fr hF (by simp; omega), h.don.fr hF (by simp; omega), ?_, h.lo, h.dis, h.ge⟩
  refine ⟨by simp, ?_⟩
  rcases h.las.2 with ⟨hv, _⟩ | ⟨g, cap', cur, hv, hb, hg, hnc, hcm, hcs, ht⟩
  · cases hv
  · cases hv
    have hl0 : (lasts.set d x).length = lasts.length := by simp
    refine .inr ⟨q, cap, cur.setIfInBounds d (.int .i64 x), by rw [hl0], hb, heap_setCell_same w q d cur _ _ hg, by rw [hl0]; exact hnc, hcm, by simpa using hcs, ?_⟩
    rw [hl0, Array.toList_setIfInBounds, List.take_set, ht, List.map_set]
    rfl

theorem infoIntZ : (Try.prog.info? 3).map (fun i => (i.zero, i.size, i.bytes)) = some (some (.int .i64 0), 1, 8) := by kernel_rfl

/-- Below a number nothing has turned, nor any of some blocks. -/
structure BelowX (B : Nat) (X : Nat → Prop) (w w' : World) : Prop where
  below : Below B w w'
  keep : ∀ q, X q → w'.heap[q]? = w.heap[q]?

theorem BelowX.trans {B : Nat} {X : Nat → Prop} {a b c : World} (h : BelowX B X a b) (k : BelowX B X b c) : BelowX B X a c := ⟨h.below.trans k.below, fun q hq => (k.keep q hq).trans (h.keep q hq)⟩
theorem BelowX.refl (B : Nat) (X : Nat → Prop) (w : World) : BelowX B X w w := ⟨Below.refl _ _, fun _ _ => rfl⟩
theorem BelowX.drewN {B : Nat} {X : Nat → Prop} {a w : World} (h : BelowX B X a w) (m : Nat) : BelowX B X a (w.drewN m) := ⟨Acq.Below.drewN h.below m, h.keep⟩
theorem BelowX.setCell {B : Nat} {X : Nat → Prop} {a w : World} (h : BelowX B X a w) {q o : Nat} (hq : B ≤ q) (hx : ¬ X q) (v : Value) : BelowX B X a (w.setCell ⟨q, o, none⟩ v) :=
  ⟨h.below.setCell hq v, fun k hk => (Below.heap_setCell _ _ _ _ (fun (e : k = q) => hx (by rw [← e]; exact hk))).trans (h.keep k hk)⟩
theorem Fr.belowX {S : List Nat} {w w' : World} {B : Nat} {X : Nat → Prop} (h : Fr S w w') (hS : ∀ x, x ∈ S → B ≤ x ∧ ¬ X x) (hB : B ≤ w.heap.size) (hX : ∀ q, X q → q < w.heap.size) : BelowX B X w w' :=
  ⟨h.below (fun x hx => (hS x hx).1) hB, fun q hq => h.block q (hX q hq) (fun hm => (hS q hm).2 hq)⟩

/-- Behind a step that is done. -/
def DonePost (X : Nat → Prop) (base pc pb ab nb bb db : Nat) (ls : List Value) (n i : Nat) (w : World) (A : List Value) (began done : List Nat) (lasts : List Nat) (r : ArrS × List Int) (e : Ending) (w' : World) : Prop :=
  e = .returned (.bool true) ∧ ∃ lv', CM w' base pc pb ab nb bb db ls n r.2 (putArr A (i * 17) r.1) began done lv' lasts ∧ BelowX base X w w' ∧ ∀ q, lv'.ownBlock = some q → ¬ X q

set_option maxHeartbeats 1000000 in
theorem step_done (X : Nat → Prop) (hXs : ∀ q, X q → q < w.heap.size) (hX6 : ∀ q ∈ [pc, pb, ab, nb, bb, db], ¬ X q) (hXl : ∀ q, lv.ownBlock = some q → ¬ X q) (h : CM w base pc pb ab nb bb db ls n vals A began done lv lasts) (hls : ls.length = 14) (i : Nat) (hi : i < n) (b d : Nat) (hb : began[i]? = some b) (hd : done[i]? = some d) (hne : b ≠ d)
    (r : ArrS × List Int) (hr : r.1.nx = 5) (lasts' : List Nat) (hlst : r.1.lst = true → lasts.length = d ∧ lasts' = lasts ++ [1]) (hll : r.1.lst = false → lasts.length = d + 1 ∧ lasts' = lasts) (ci si : Nat) (wk : Int) (hn64 : n ≤ 64) (hbl : began.length = n) (harr : ArrL (putArr A (i * 17) r.1) (i * 17) ci si wk r.1) (hall : ∀ x ∈ began, d + 1 ≤ x) (hdm : d < 1000000)
    (hstep : ∀ W, Blk W nb A 46 → Bank W pb ab vals → Calls Try.prog 14 #[.pointer (some ⟨nb, i * 17, none⟩), .pointer (some ⟨pb, 0, none⟩)] W (StepPost nb (i * 17) pb ab A 46 W r)) :
    Calls Try.prog 7 #[.pointer (some ⟨pc, 0, none⟩), .int .i64 i] w (DonePost X base pc pb ab nb bb db ls n i w A began (done.set i (d + 1)) lasts' r) := by
  obtain ⟨capn, hC⟩ := h.crowd
  obtain ⟨l0, l1, l2, l3, l4, l5, l6, l7, l8, l9, l10, l11, l12, l13, rfl⟩ : ∃ l0 l1 l2 l3 l4 l5 l6 l7 l8 l9 l10 l11 l12 l13, ls = [l0, l1, l2, l3, l4, l5, l6, l7, l8, l9, l10, l11, l12, l13] := by
    match ls, hls with
    | [l0, l1, l2, l3, l4, l5, l6, l7, l8, l9, l10, l11, l12, l13], _ => exact ⟨l0, l1, l2, l3, l4, l5, l6, l7, l8, l9, l10, l11, l12, l13, rfl⟩
  have c14 := hC.cell (o := 14) rfl
  have c15 := hC.cell (o := 15) rfl
  have c16 := hC.cell (o := 16) rfl
  have c17 := hC.cell (o := 17) rfl
  have kb := h.beg.cell (o := i) (v := .int .i64 b) (by simp [hb, i64])
  have kd := h.don.cell (o := i) (v := .int .i64 d) (by simp [hd, i64])
  have hi0 : (0 : Int) ≤ (i : Int) := by omega
  have hi1 : (i : Int) < (n : Int) := by omega
  have hbd : ((b : Int) == (d : Int)) = false := by simp; omega
  have HA := Lib.hid hall
  have HXS := Lib.hid hXs
  have HX6 := Lib.hid hX6
  have HXL := Lib.hid hXl
  clear hXs hX6 hXl
  have HL := Lib.hid hll
  have HT := Lib.hid hlst
  have HD := Lib.hid hd
  have H := Lib.hid h
  have HS := Lib.hid hstep
  have HR := Lib.hid hr
  have hdec : decide (r.1.nx = 5) = true := by simp [hr]
  clear h hstep hb hd hne hr hlst hll hall
  go_enter Try.func7, Try.ntmps7
  go_wp2_with fail
  go_quiet (fail)
  go_wp2_with fail
  refine wr_begin [10] (fun W => W.cell? ⟨pc, 15, none⟩ = some (.slice (some ⟨nb, 0, none⟩) n capn) ∧ W.cell? ⟨pc, 14, none⟩ = some (.pointer (some ⟨pb, 0, none⟩))) (by kernel_rfl) (by exact ⟨c15, c14⟩) ?_
  refine wr_pure 0 _ rfl (by kernel_rfl) (by kernel_rfl) (by kernel_rfl) (fun _ _ _ h => h) (by kernel_rfl) (by rfl) (fun _ => by go_simp; try with_reducible rfl) ?_
  try simp only [Act.put, List.setIfInBounds_toArray, List.set_cons_zero, List.set_cons_succ]
  refine wr_pure 1 _ rfl (by kernel_rfl) (by kernel_rfl) (by kernel_rfl) (fun _ _ _ h => h) (by kernel_rfl) (by rfl) (fun _ => by go_simp; try with_reducible rfl) ?_
  try simp only [Act.put, List.setIfInBounds_toArray, List.set_cons_zero, List.set_cons_succ]
  refine wr_pure 2 _ rfl (by kernel_rfl) (by kernel_rfl) (by kernel_rfl) (fun _ _ _ h => h) (by kernel_rfl) (by rfl) (fun _ => by go_simp; try with_reducible rfl) ?_
  try simp only [Act.put, List.setIfInBounds_toArray, List.set_cons_zero, List.set_cons_succ]
  refine wr_read 3 _ rfl (by kernel_rfl) (by kernel_rfl) (by kernel_rfl) (fun _ _ _ h => h) (by kernel_rfl) (by kernel_rfl) (by rfl) (fun _ hF => by have hF1 := hF.1; clear hF; go_simp; try with_reducible rfl) ?_
  try simp only [Act.put, List.setIfInBounds_toArray, List.set_cons_zero, List.set_cons_succ]
  refine wr_pure 4 _ rfl (by kernel_rfl) (by kernel_rfl) (by kernel_rfl) (fun _ _ _ h => h) (by kernel_rfl) (by rfl) (fun _ => by go_simp; try with_reducible rfl) ?_
  try simp only [Act.put, List.setIfInBounds_toArray, List.set_cons_zero, List.set_cons_succ]
  refine wr_pure 5 _ rfl (by kernel_rfl) (by kernel_rfl) (by kernel_rfl) (fun _ _ _ h => h) (by kernel_rfl) (by rfl) (fun _ => by go_simp; try with_reducible rfl) ?_
  try simp only [Act.put, List.setIfInBounds_toArray, List.set_cons_zero, List.set_cons_succ]
  refine wr_pure 6 _ rfl (by kernel_rfl) (by kernel_rfl) (by kernel_rfl) (fun _ _ _ h => h) (by kernel_rfl) (by rfl) (fun _ => by go_simp; try with_reducible rfl) ?_
  try simp only [Act.put, List.setIfInBounds_toArray, List.set_cons_zero, List.set_cons_succ]
  refine wr_pure 7 _ rfl (by kernel_rfl) (by kernel_rfl) (by kernel_rfl) (fun _ _ _ h => h) (by kernel_rfl) (by rfl) (fun _ => by go_simp; try with_reducible rfl) ?_
  try simp only [Act.put, List.setIfInBounds_toArray, List.set_cons_zero, List.set_cons_succ]
  refine wr_pure 8 _ rfl (by kernel_rfl) (by kernel_rfl) (by kernel_rfl) (fun _ _ _ h => h) (by kernel_rfl) (by rfl) (fun _ => by go_simp; try with_reducible rfl) ?_
  try simp only [Act.put, List.setIfInBounds_toArray, List.set_cons_zero, List.set_cons_succ]
  refine wr_read 9 _ rfl (by kernel_rfl) (by kernel_rfl) (by kernel_rfl) (fun _ _ _ h => h) (by kernel_rfl) (by kernel_rfl) (by rfl) (fun _ hF => by have hF1 := hF.2; clear hF; go_simp; try with_reducible rfl) ?_
  try simp only [Act.put, List.setIfInBounds_toArray, List.set_cons_zero, List.set_cons_succ]
  refine wr_do 10 rfl (by kernel_rfl) (by rfl) (fun K hK => ?_)
  go_wp2_with (go_at_call 14; refine (HS.out _ (Blk.drewN H.out.now _) (Bank.drewN H.out.bank _)).mono ?_; rintro e w2 hP; obtain ⟨he, hN2, hB2, hF2⟩ := hP; rw [hdec] at he; subst he)
  refine ⟨Still.off 10 (by kernel_rfl) (by kernel_rfl), ?_⟩
  try simp only [Act.put, List.setIfInBounds_toArray, List.set_cons_zero, List.set_cons_succ]
  refine wr_pure 11 _ rfl (by kernel_rfl) (by kernel_rfl) (by kernel_rfl) (fun _ _ _ h => h) (by kernel_rfl) (by rfl) (fun _ => by go_simp; try with_reducible rfl) ?_
  try simp only [Act.put, List.setIfInBounds_toArray, List.set_cons_zero, List.set_cons_succ]
  refine wr_done (by kernel_rfl) ?_ _
  have h2 := H.out.on (W := w.drewN (nq + 1)) ⟨rfl, rfl, rfl, rfl⟩ hN2 hB2 hF2
  have hF : Fr [nb, ab] w w2 := (Sim.fr (w := w) (w' := w.drewN (nq + 1)) ⟨rfl, rfl, rfl, rfl⟩).trans hF2
  obtain ⟨capm, hC2⟩ := h2.crowd
  have e17 := hC2.cell (o := 17) rfl
  have g2 := h2.don.cell (o := i) (v := .int .i64 d) (by simp [HD.out, i64])
  have g3 := h2.don.free i
  have H2 := Lib.hid h2
  clear h2 hF2 hN2 hB2 c14 c15 c16 c17 kb kd
  have h3 := H2.out.setDone i (d + 1)
  have hB3 : BelowX base X w (w2.setCell ⟨db, i, none⟩ (.int .i64 ((d + 1 : Nat) : Int))) := ((hF.more (S' := [nb, ab, db]) (by simp)).setCell (by simp) _).belowX (fun x hx => ⟨H.out.ge x (by simp at hx ⊢; omega), HX6.out x (by simp at hx ⊢; omega)⟩) H.out.base_le HXS.out
  have H3 := Lib.hid (And.intro h3 hB3)
  clear h3 hB3
  have hset : (done.set i (d + 1))[i]? = some (d + 1) := by
    obtain ⟨hlt, _⟩ := List.getElem?_eq_some_iff.1 HD.out
    simp [hlt]
  have HSET := Lib.hid hset
  have hle : lasts.length ≤ d + 1 := by
    cases hl : r.1.lst with
    | true => have := (HT.out hl).1; omega
    | false => have := (HL.out hl).1; omega
  clear hset
  go_wp2_with fail
  go_loopw [] (fun wr => ∃ j lv', j ≤ d + 1 - lasts.length ∧ CM wr base pc pb ab nb bb db [l0, l1, l2, l3, l4, l5, l6, l7, l8, l9, l10, l11, l12, l13] n r.2 (putArr A (i * 17) r.1) began (done.set i (d + 1)) lv' (lasts ++ List.replicate j 0) ∧ BelowX base X w wr ∧ ∀ q, lv'.ownBlock = some q → ¬ X q) (fun wr => d + 1 - lenAt wr pc)
  case atStart =>
    refine ⟨0, lv, by omega, ?_, ?_, HXL.out⟩
    · have := H3.out.1; simpa using this
    · exact H3.out.2
  case round =>
    obtain ⟨j, lv', hj, hM, hBl, hXv⟩ := hrel
    have HXV := Lib.hid hXv
    clear hXv
    obtain ⟨cap1, hC3⟩ := hM.crowd
    obtain ⟨a1, cap2, rfl⟩ := ownsRow_slice hM.las
    have e17 := hC3.cell (o := 17) rfl
    have e18 := hC3.cell (o := 18) rfl
    have e19 := hM.don.cell (o := i) (v := .int .i64 ((d + 1 : Nat) : Int)) (by rw [List.getElem?_map, HSET.out]; rfl)
    have hlen : (lasts ++ List.replicate j 0).length = lasts.length + j := by simp
    rw [hlen] at hM e18
    have HXV : Hid (∀ q, (Value.slice a1 (lasts.length + j) cap2).ownBlock = some q → ¬ X q) := by rw [← hlen]; exact HXV
    have las := hM.las
    rw [hlen] at las
    obtain ⟨i0, hi0, hz0, hz1, hz2⟩ := info_parts infoIntZ
    have HI := Lib.hid (And.intro hi0 (And.intro hz0 (And.intro hz1 hz2)))
    clear hi0 hz0 hz1 hz2
    have HM := Lib.hid hM
    have HBl := Lib.hid hBl
    have hle2 : lasts.length + j ≤ d + 1 := by omega
    have hlenAt : lenAt wr pc = lasts.length + j := by rw [hM.lenAt rfl, hlen]
    clear hM hBl
    rcases Nat.lt_or_ge (lasts.length + j) (d + 1) with hc | hc
    · go_wp2_with fail
      go_quiet (fail)
      have hF1 : Fr [] wr ((wr.drewN nq).alloc (Obj.cells #[.int .i64 0] 3)) := ((Fr.refl _ _).drewN _).alloc _
      go_wp2_with (first
        | (at_builtin
           refine wpList_append_lies _ rfl _ _ 31 rfl base 3 i0 (.int .i64 0) 1 8 Try.underlying31 HI.out.1 HI.out.2.1 HI.out.2.2.1 HI.out.2.2.2 rfl (by decide) _ _ _ rfl (ownsRow_fr las hF1 (by simp)) ⟨wr.heap.size, 0, none⟩ 1 1 [.int .i64 0] rfl rfl (cell_one_new _ _ _) (ints_oneCell .i64 [0]) (by decide) (by unfold maxLen; omega) (by omega) (Nat.le_trans HM.out.base_le hF1.size) _ rfl ?_
           intro g cap w5 hown hgrow hat hlt
           have hF5 := hF1.more (S' := (Value.slice a1 (lasts.length + j) cap2).ownBlock.toList) (by simp)
           have hF6 := hF5.trans (Fr.of_grown hgrow (fun k hk => Option.mem_toList.2 hk))
           have hpc : pc ∉ (Value.slice a1 (lasts.length + j) cap2).ownBlock.toList := fun hm => HM.out.lo pc (by simpa using hm) (by simp)
           have hC5 := hC3.fr hF6 hpc
           have e20 := hC5.cell (o := 18) rfl
           have e21 := hC5.free 18)
        | go_in)
      have hmap : (lasts ++ List.replicate (j + 1) 0).map i64 = (lasts ++ List.replicate j 0).map i64 ++ [.int .i64 0] := by
        rw [List.replicate_succ', ← List.append_assoc, List.map_append]; rfl
      have hlen1 : (lasts ++ List.replicate (j + 1) 0).length = lasts.length + j + 1 := by simp; omega
      have hS := HM.out.setLasts rfl hF6 (lv' := .slice (some ⟨g, 0, none⟩) (lasts.length + j + 1) cap) (lasts' := lasts ++ List.replicate (j + 1) 0) (by rw [hlen1, hmap]; exact hown) (by
        intro q hq hm
        obtain rfl : g = q := by simpa [Value.ownBlock] using hq
        rcases hat with hat | hat
        · exact HM.out.lo g hat hm
        · have hz : wr.heap.size ≤ g := by rw [hat]; exact hF1.size
          have hlt' : ∀ q ∈ [pc, pb, ab, nb, bb, db], q < wr.heap.size := by
            intro q hq
            obtain ⟨_, hCq⟩ := HM.out.crowd
            simp only [List.mem_cons, List.not_mem_nil, or_false] at hq
            rcases hq with rfl | rfl | rfl | rfl | rfl | rfl
            · exact hCq.lt
            · exact HM.out.bank.lt.1
            · exact HM.out.bank.lt.2
            · exact HM.out.now.lt
            · exact HM.out.beg.lt
            · exact HM.out.don.lt
          have := hlt' _ hm; omega)
      have hB6 : BelowX base X wr (w5.setCell ⟨pc, 18, none⟩ (.slice (some ⟨g, 0, none⟩) (lasts.length + j + 1) cap)) := by
        refine ((hF6.more (S' := pc :: (Value.slice a1 (lasts.length + j) cap2).ownBlock.toList) (fun x hx => List.mem_cons_of_mem _ hx)).setCell (by simp) _).belowX ?_ HM.out.base_le (fun q hq => Nat.lt_of_lt_of_le (HXS.out q hq) HBl.out.below.size)
        intro x hx
        rcases List.mem_cons.1 hx with rfl | hx
        · exact ⟨HM.out.ge _ (by simp), HX6.out _ (by simp)⟩
        · have hx' := Option.mem_toList.1 hx
          refine ⟨?_, HXV.out x hx'⟩
          rcases las.2 with ⟨hv, _⟩ | ⟨g', cap', cur, hv, hb', _⟩
          · rw [hv] at hx'; simp [Value.ownBlock] at hx'
          · rw [hv] at hx'; simp [Value.ownBlock] at hx'; omega
      have hLA := hS.lenAt rfl
      rw [hlen1] at hLA
      have HXG : Hid (∀ q, (Value.slice (some ⟨g, 0, none⟩) (lasts.length + j + 1) cap).ownBlock = some q → ¬ X q) := Lib.hid (by
        intro q hq hx
        obtain rfl : g = q := by simpa [Value.ownBlock] using hq
        rcases hat with hat | hat
        · exact HXV.out g hat hx
        · have h1 : wr.heap.size ≤ g := by rw [hat]; exact hF1.size
          have h2 := HXS.out g hx
          have h3 := HBl.out.below.size
          omega)
      have HS6 := Lib.hid hS
      have HB6 := Lib.hid hB6
      clear hS hB6
      go_roundw
      case rel => exact ⟨j + 1, _, by omega, HS6.out, HBl.out.trans HB6.out, HXG.out⟩
      case measure => rw [hLA, hlenAt]; omega
    · have e15 := hC3.cell (o := 15) rfl
      go_wp2_with fail
      go_quiet (fail)
      have hN := HM.out.now.drewN nq
      cases hlq : r.1.lst with
      | true =>
        go_wp2_with (go_at_call 15; refine (Last_any harr hN).mono ?_; rintro e w9 ⟨rfl, rfl⟩; rw [hlq])
        have hll0 := (HT.out hlq).1
        obtain ⟨q, hq, hqb, hqc, hqf⟩ : ∃ q, a1 = some ⟨q, 0, none⟩ ∧ (base ≤ q ∧ ¬ X q) ∧ wr.cell? ⟨q, d, none⟩ = some (.int .i64 0) ∧ wr.frozen? ⟨q, d, none⟩ = false := by
          obtain ⟨q, cap, hv, hq1, hq2⟩ := las.form (by omega)
          cases hv
          refine ⟨q, rfl, ⟨hq1, HXV.out q rfl⟩, ?_, ?_⟩
          · rw [las.cellAt d (by omega), List.getElem?_map, List.getElem?_append_right (by omega), hll0]
            have hj1 : j = 1 := by omega
            subst hj1
            simp [i64]
          · rcases las.2 with ⟨hv, _⟩ | ⟨g', cap', cur, hv, hb', hg', _⟩
            · cases hv
            · cases hv
              simp [World.frozen?, hg']
        subst hq
        clear hll0
        have hwr : IntKind.i64.wrap (d : Int) = d := by unfold IntKind.wrap; simp [IntKind.signed, IntKind.bits]; omega
        have hd0 : (0 : Int) ≤ d := by omega
        have hd1 : (d : Int) < (lasts.length : Int) + (j : Int) := by omega
        have cq : wr.cell? ⟨q, d, none⟩ = some (.int .i64 0) := hqc
        have fq : wr.frozen? ⟨q, d, none⟩ = false := hqf
        refine wr_begin [16] (fun W => W.cell? ⟨pc, 18, none⟩ = some (.slice (some ⟨q, 0, none⟩) (lasts.length + j) cap2) ∧ W.cell? ⟨pc, 17, none⟩ = some (.slice (some ⟨db, 0, none⟩) n n) ∧ W.cell? ⟨db, i, none⟩ = some (.int .i64 ((d + 1 : Nat) : Int)) ∧ W.cell? ⟨q, d, none⟩ = some (.int .i64 0) ∧ W.frozen? ⟨q, d, none⟩ = false) (by kernel_rfl) (by exact ⟨e18, e17, e19, cq, fq⟩) ?_
        refine wr_pure 0 _ rfl (by kernel_rfl) (by kernel_rfl) (by kernel_rfl) (fun _ _ _ h => h) (by kernel_rfl) (by rfl) (fun _ => by go_simp; try with_reducible rfl) ?_
        try simp only [Act.put, List.setIfInBounds_toArray, List.set_cons_zero, List.set_cons_succ]
        refine wr_pure 1 _ rfl (by kernel_rfl) (by kernel_rfl) (by kernel_rfl) (fun _ _ _ h => h) (by kernel_rfl) (by rfl) (fun _ => by go_simp; try with_reducible rfl) ?_
        try simp only [Act.put, List.setIfInBounds_toArray, List.set_cons_zero, List.set_cons_succ]
        refine wr_pure 2 _ rfl (by kernel_rfl) (by kernel_rfl) (by kernel_rfl) (fun _ _ _ h => h) (by kernel_rfl) (by rfl) (fun _ => by go_simp; try with_reducible rfl) ?_
        try simp only [Act.put, List.setIfInBounds_toArray, List.set_cons_zero, List.set_cons_succ]
        refine wr_read 3 _ rfl (by kernel_rfl) (by kernel_rfl) (by kernel_rfl) (fun _ _ _ h => h) (by kernel_rfl) (by kernel_rfl) (by rfl) (fun _ hF => by have hF1 := hF.1; clear hF; go_simp; try with_reducible rfl) ?_
        try simp only [Act.put, List.setIfInBounds_toArray, List.set_cons_zero, List.set_cons_succ]
        refine wr_pure 4 _ rfl (by kernel_rfl) (by kernel_rfl) (by kernel_rfl) (fun _ _ _ h => h) (by kernel_rfl) (by rfl) (fun _ => by go_simp; try with_reducible rfl) ?_
        try simp only [Act.put, List.setIfInBounds_toArray, List.set_cons_zero, List.set_cons_succ]
        refine wr_pure 5 _ rfl (by kernel_rfl) (by kernel_rfl) (by kernel_rfl) (fun _ _ _ h => h) (by kernel_rfl) (by rfl) (fun _ => by go_simp; try with_reducible rfl) ?_
        try simp only [Act.put, List.setIfInBounds_toArray, List.set_cons_zero, List.set_cons_succ]
        refine wr_pure 6 _ rfl (by kernel_rfl) (by kernel_rfl) (by kernel_rfl) (fun _ _ _ h => h) (by kernel_rfl) (by rfl) (fun _ => by go_simp; try with_reducible rfl) ?_
        try simp only [Act.put, List.setIfInBounds_toArray, List.set_cons_zero, List.set_cons_succ]
        refine wr_read 7 _ rfl (by kernel_rfl) (by kernel_rfl) (by kernel_rfl) (fun _ _ _ h => h) (by kernel_rfl) (by kernel_rfl) (by rfl) (fun _ hF => by have hF1 := hF.2.1; clear hF; go_simp; try with_reducible rfl) ?_
        try simp only [Act.put, List.setIfInBounds_toArray, List.set_cons_zero, List.set_cons_succ]
        refine wr_pure 8 _ rfl (by kernel_rfl) (by kernel_rfl) (by kernel_rfl) (fun _ _ _ h => h) (by kernel_rfl) (by rfl) (fun _ => by go_simp; try with_reducible rfl) ?_
        try simp only [Act.put, List.setIfInBounds_toArray, List.set_cons_zero, List.set_cons_succ]
        refine wr_pure 9 _ rfl (by kernel_rfl) (by kernel_rfl) (by kernel_rfl) (fun _ _ _ h => h) (by kernel_rfl) (by rfl) (fun _ => by go_simp; try with_reducible rfl) ?_
        try simp only [Act.put, List.setIfInBounds_toArray, List.set_cons_zero, List.set_cons_succ]
        refine wr_read 10 _ rfl (by kernel_rfl) (by kernel_rfl) (by kernel_rfl) (fun _ _ _ h => h) (by kernel_rfl) (by kernel_rfl) (by rfl) (fun _ hF => by have hF1 := hF.2.2.1; clear hF; go_simp; try with_reducible rfl) ?_
        try simp only [Act.put, List.setIfInBounds_toArray, List.set_cons_zero, List.set_cons_succ]
        refine wr_pure 11 _ rfl (by kernel_rfl) (by kernel_rfl) (by kernel_rfl) (fun _ _ _ h => h) (by kernel_rfl) (by rfl) (fun _ => by go_simp; try with_reducible rfl) ?_
        try simp only [Act.put, List.setIfInBounds_toArray, List.set_cons_zero, List.set_cons_succ]
        refine wr_pure 12 _ rfl (by kernel_rfl) (by kernel_rfl) (by kernel_rfl) (fun _ _ _ h => h) (by kernel_rfl) (by rfl) (fun _ => by go_simp; try with_reducible rfl) ?_
        try simp only [Act.put, List.setIfInBounds_toArray, List.set_cons_zero, List.set_cons_succ]
        refine wr_read 13 _ rfl (by kernel_rfl) (by kernel_rfl) (by kernel_rfl) (fun _ _ _ h => h) (by kernel_rfl) (by kernel_rfl) (by rfl) (fun _ hF => by have hF1 := hF.2.2.2.1; clear hF; go_simp; try with_reducible rfl) ?_
        try simp only [Act.put, List.setIfInBounds_toArray, List.set_cons_zero, List.set_cons_succ]
        refine wr_pure 14 _ rfl (by kernel_rfl) (by kernel_rfl) (by kernel_rfl) (fun _ _ _ h => h) (by kernel_rfl) (by rfl) (fun _ => by go_simp; try with_reducible rfl) ?_
        try simp only [Act.put, List.setIfInBounds_toArray, List.set_cons_zero, List.set_cons_succ]
        refine wr_pure 15 _ rfl (by kernel_rfl) (by kernel_rfl) (by kernel_rfl) (fun _ _ _ h => h) (by kernel_rfl) (by rfl) (fun _ => by go_simp; try with_reducible rfl) ?_
        try simp only [Act.put, List.setIfInBounds_toArray, List.set_cons_zero, List.set_cons_succ]
        refine wr_do 16 rfl (by kernel_rfl) (by rfl) (fun K hK => ?_)
        have c20 : (wr.drewN nq).cell? ⟨q, d, none⟩ = some (.int .i64 0) := cq
        have f20 : (wr.drewN nq).frozen? ⟨q, d, none⟩ = false := fq
        go_wp2_with fail
        refine ⟨Still.off 16 (by kernel_rfl) (by kernel_rfl), ?_⟩
        try simp only [Act.put, List.setIfInBounds_toArray, List.set_cons_zero, List.set_cons_succ]
        refine wr_done (by kernel_rfl) ?_ _
        have hCM : CM ((wr.drewN (nq + 1)).setCell ⟨q, d, none⟩ (.int .i64 ((1 : Nat) : Int))) base pc pb ab nb bb db [l0, l1, l2, l3, l4, l5, l6, l7, l8, l9, l10, l11, l12, l13] n r.2 (putArr A (i * 17) r.1) began (done.set i (d + 1)) (.slice (some ⟨q, 0, none⟩) (lasts.length + j) cap2) lasts' := by
          have h9 := (HM.out.drewN (nq + 1)).bump d 1
          have hj1 : j = 1 := by have := (HT.out hlq).1; omega
          have hll := (HT.out hlq).1
          subst hj1
          rw [(HT.out hlq).2]
          have e9 : (lasts ++ List.replicate 1 0).set d 1 = lasts ++ [1] := by rw [List.set_append_right _ _ (by omega)]; simp [hll]
          rw [e9] at h9
          exact h9
        have hBW : BelowX base X w ((wr.drewN (nq + 1)).setCell ⟨q, d, none⟩ (.int .i64 ((1 : Nat) : Int))) := (HBl.out.drewN _).setCell hqb.1 hqb.2 _
        have ew : (wr.drewN (nq + 1)).setCell ⟨q, d, none⟩ (.int .i64 1) = (wr.drewN (nq + 1)).setCell ⟨q, d, none⟩ (.int .i64 ((1 : Nat) : Int)) := rfl
        try rw [ew]
        generalize (wr.drewN (nq + 1)).setCell ⟨q, d, none⟩ (.int .i64 ((1 : Nat) : Int)) = wt at hCM hBW ⊢
        obtain ⟨capt, hCt⟩ := hCM.crowd
        have t16 := hCt.cell (o := 16) rfl
        have t17 := hCt.cell (o := 17) rfl
        have t19 := hCM.don.cell (o := i) (v := .int .i64 ((d + 1 : Nat) : Int)) (by rw [List.getElem?_map, HSET.out]; rfl)
        have HCM := Lib.hid hCM
        have HBW := Lib.hid hBW
        clear hCM hBW hCt
        go_wp2_with fail
        go_loopw [113] (fun k wr' => ∃ kk : Nat, kk ≤ n ∧ k = .int .i64 kk ∧ wr' = wt) (fun k wr' => n - (intOf k).toNat)
        case atStart => exact ⟨0, Nat.zero_le _, rfl, rfl⟩
        case round =>
          obtain ⟨kk, hkk, rfl, rfl⟩ := hrel
          by_cases hkn : kk < n
          · obtain ⟨x, hx⟩ : ∃ x, began[kk]? = some x := ⟨_, List.getElem?_eq_getElem (by rw [hbl]; exact hkn)⟩
            have hxd := HA.out x (List.mem_of_getElem? hx)
            have t20 := HCM.out.beg.cell (o := kk) (v := .int .i64 x) (by rw [List.getElem?_map, hx]; rfl)
            have hxl : decide ((x : Int) < (d : Int) + 1) = false := by simp; omega
            go_wp2_with fail
            go_roundw
            case rel => exact ⟨kk + 1, by omega, by go_num, trivial⟩
            case measure => simp [intOf]; omega
          · go_wp2_with fail
            go_ret
            exact ⟨rfl, _, HCM.out, HBW.out, HXV.out⟩
      | false =>
        have e16 := hC3.cell (o := 16) rfl
        have hCM : CM (wr.drewN nq) base pc pb ab nb bb db [l0, l1, l2, l3, l4, l5, l6, l7, l8, l9, l10, l11, l12, l13] n r.2 (putArr A (i * 17) r.1) began (done.set i (d + 1)) (.slice a1 (lasts.length + j) cap2) lasts' := by
          have h9 := HM.out.drewN nq
          have hll := (HL.out hlq).1
          have hj1 : j = 0 := by omega
          subst hj1
          rw [(HL.out hlq).2]
          simpa using h9
        have hBW : BelowX base X w (wr.drewN nq) := HBl.out.drewN _
        have t15 : (wr.drewN nq).cell? ⟨pc, 15, none⟩ = some (.slice (some ⟨nb, 0, none⟩) n cap1) := e15
        generalize wr.drewN nq = wt at hCM hBW hN t15 ⊢
        have e16 : wt.cell? ⟨pc, 16, none⟩ = some (.slice (some ⟨bb, 0, none⟩) n n) := by
          obtain ⟨_, hCt⟩ := hCM.crowd
          exact hCt.cell (o := 16) rfl
        have e15 : wt.cell? ⟨pc, 15, none⟩ = some (.slice (some ⟨nb, 0, none⟩) n cap1) := t15
        go_wp2_with (go_at_call 15; refine (Last_any harr hN).mono ?_; rintro e w9 ⟨rfl, rfl⟩; rw [hlq])
        obtain ⟨capt, hCt⟩ := hCM.crowd
        have t16 := hCt.cell (o := 16) rfl
        have t17 := hCt.cell (o := 17) rfl
        have t19 := hCM.don.cell (o := i) (v := .int .i64 ((d + 1 : Nat) : Int)) (by rw [List.getElem?_map, HSET.out]; rfl)
        have HCM := Lib.hid hCM
        have HBW := Lib.hid hBW
        clear hCM hBW hCt
        go_loopw [113] (fun k wr' => ∃ kk : Nat, kk ≤ n ∧ k = .int .i64 kk ∧ wr' = wt) (fun k wr' => n - (intOf k).toNat)
        case atStart => exact ⟨0, Nat.zero_le _, rfl, rfl⟩
        case round =>
          obtain ⟨kk, hkk, rfl, rfl⟩ := hrel
          by_cases hkn : kk < n
          · obtain ⟨x, hx⟩ : ∃ x, began[kk]? = some x := ⟨_, List.getElem?_eq_getElem (by rw [hbl]; exact hkn)⟩
            have hxd := HA.out x (List.mem_of_getElem? hx)
            have t20 := HCM.out.beg.cell (o := kk) (v := .int .i64 x) (by rw [List.getElem?_map, hx]; rfl)
            have hxl : decide ((x : Int) < (d : Int) + 1) = false := by simp; omega
            go_wp2_with fail
            go_roundw
            case rel => exact ⟨kk + 1, by omega, by go_num, trivial⟩
            case measure => simp [intOf]; omega
          · go_wp2_with fail
            go_ret
            exact ⟨rfl, _, HCM.out, HBW.out, HXV.out⟩
end
end Acq
