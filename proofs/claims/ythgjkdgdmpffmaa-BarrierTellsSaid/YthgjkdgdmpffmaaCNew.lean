/- The contract of the crowd's step: a worker that begins. -/
import Derived.Test.YthgjkdgdmpffmaaCStep
import Derived.Deep.MidRow
set_option maxRecDepth 8000
set_option linter.unusedSimpArgs false
set_option linter.unusedVariables false
namespace Acq
open Go Go.RowKit Go.Proofs

/-- A row put into the midst of a list. -/
def putAt (xs : List Value) : Nat → List Value → List Value
  | _, [] => xs
  | o, v :: r => putAt (xs.set o v) (o + 1) r

theorem putAt_len : ∀ (cs : List Value) (xs : List Value) (o : Nat), (putAt xs o cs).length = xs.length
  | [], _, _ => rfl
  | v :: r, xs, o => by rw [putAt, putAt_len r]; simp

theorem putAt_get : ∀ (cs : List Value) (xs : List Value) (o k : Nat), o + cs.length ≤ xs.length → (putAt xs o cs)[k]? = if o ≤ k ∧ k < o + cs.length then cs[k - o]? else xs[k]?
  | [], xs, o, k, _ => by rw [putAt, if_neg (by simp only [List.length_nil]; omega)]
  | v :: r, xs, o, k, h => by
    rw [putAt, putAt_get r _ _ _ (by simp at h ⊢; omega)]
    simp only [List.length_cons] at h ⊢
    by_cases h1 : o + 1 ≤ k ∧ k < o + 1 + r.length
    · rw [if_pos h1, if_pos (by omega), show k - o = (k - (o + 1)) + 1 by omega, List.getElem?_cons_succ]
    · rw [if_neg h1]
      by_cases h2 : k = o
      · subst h2; rw [if_pos (by omega), Nat.sub_self, List.getElem?_set_self (by omega)]; rfl
      · rw [if_neg (by omega), List.getElem?_set_ne (by omega)]

section
variable {w : World} {b c : Nat} {xs : List Value} {T : TypeId} {S : List Nat} {a : World}

theorem Blk.setCells : ∀ (cs : List Value) {w : World} {xs : List Value} (o : Nat), Blk w b xs T → Blk (w.setCells b o cs) b (putAt xs o cs) T
  | [], _, _, _, h => h
  | v :: r, _, _, o, h => Blk.setCells r (o + 1) (h.set o v)

theorem Fr.setCells (hb : b ∈ S) : ∀ (cs : List Value) {w : World} (o : Nat), Fr S a w → Fr S a (w.setCells b o cs)
  | [], _, _, h => h
  | v :: r, _, o, h => Fr.setCells hb r (o + 1) (h.setCell hb v)

theorem Blk.range (h : Blk w b xs T) (o : Nat) (cs : List Value) (hc : ∀ (j : Nat) v, cs[j]? = some v → xs[o + j]? = some v) : w.rangeAt b o cs := fun j v hv => h.cell (hc j v hv)

theorem Blk.there (h : Blk w b xs T) (o n : Nat) (hn : o + n ≤ xs.length) : w.there b o n := fun j hj => ⟨by rw [h.cell (List.getElem?_eq_getElem (by omega))]; rfl, h.free _⟩

theorem exec_load_mid {P : Program} {o : Oper} {a : Act} {ty : TypeId} {x : Operand} (ho : o.op = .load ty x) {g off : Nat} (hx : a.eval x = .pointer (some ⟨g, off, none⟩)) {cs : List Value} (hc : w.rangeAt g off cs) {d : TypeDesc}
    (hu : P.underlying ty = some d) (hd : d.isRow = true) (hi : (P.info? ty).map (·.size) = some cs.length) : (execOp a.eval o).run P w = .ok (.value (.agg cs.toArray)) w := by
  unfold execOp
  simp only [ho, hx, Instr.loadAt, Instr.sureAddr, Sem.run_bind, Sem.run_pure, Result.andThen_ok, run_loadVar_mid w g off ty cs d hc hu hd hi]

end

section
variable {w : World} {base pc pb ab nb bb db : Nat} {n : Nat} {vals : List Int} {A : List Value} {began done : List Nat} {lv : Value} {lasts : List Nat} {l : Lay}

theorem CM.setBegan {ls : List Value} (h : CM w base pc pb ab nb bb db ls n vals A began done lv lasts) (i d : Nat) : CM (w.setCell ⟨bb, i, none⟩ (.int .i64 d)) base pc pb ab nb bb db ls n vals A (began.set i d) done lv lasts := by
  have hF : Fr [bb] w (w.setCell ⟨bb, i, none⟩ (.int .i64 d)) := (Fr.refl _ _).setCell (by simp) _
  have hdis := h.dis
  simp only [List.nodup_cons, List.mem_cons, List.not_mem_nil, not_or, or_false] at hdis
  obtain ⟨capn, hC⟩ := h.crowd
  exact ⟨⟨capn, hC.fr hF (by simp; omega)⟩, h.bank.fr hF (by simp; omega) (by simp; omega), h.now.fr hF (by simp; omega), by rw [List.map_set]; exact h.beg.set i _, h.don.fr hF (by simp; omega), ownsRow_fr h.las hF (fun g hg hm => h.lo g hg (by simp at hm ⊢; omega)), h.lo, h.dis, h.ge⟩

theorem CM.fr0 {ls : List Value} (h : CM w base pc pb ab nb bb db ls n vals A began done lv lasts) {w' : World} (hF : Fr [] w w') : CM w' base pc pb ab nb bb db ls n vals A began done lv lasts := by
  obtain ⟨capn, hC⟩ := h.crowd
  exact ⟨⟨capn, hC.fr hF (by simp)⟩, h.bank.fr hF (by simp) (by simp), h.now.fr hF (by simp), h.beg.fr hF (by simp), h.don.fr hF (by simp), ownsRow_fr h.las hF (fun _ _ => by simp), h.lo, h.dis, h.ge⟩

theorem CM.setNow {ls : List Value} (h : CM w base pc pb ab nb bb db ls n vals A began done lv lasts) (o : Nat) (cs : List Value) : CM (w.setCells nb o cs) base pc pb ab nb bb db ls n vals (putAt A o cs) began done lv lasts := by
  have hF : Fr [nb] w (w.setCells nb o cs) := Fr.setCells (by simp) cs o (Fr.refl _ _)
  have hdis := h.dis
  simp only [List.nodup_cons, List.mem_cons, List.not_mem_nil, not_or, or_false] at hdis
  obtain ⟨capn, hC⟩ := h.crowd
  exact ⟨⟨capn, hC.fr hF (by simp; omega)⟩, h.bank.fr hF (by simp; omega) (by simp; omega), Blk.setCells cs o h.now, h.beg.fr hF (by simp; omega), h.don.fr hF (by simp; omega), ownsRow_fr h.las hF (fun g hg hm => h.lo g hg (by simp at hm ⊢; omega)), h.lo, h.dis, h.ge⟩

def NewPost (base pc pb ab nb bb db : Nat) (ls : List Value) (n i : Nat) (w : World) (A : List Value) (began done : List Nat) (lv : Value) (lasts : List Nat) (r : ArrS × List Int) (e : Ending) (w' : World) : Prop :=
  e = .returned (.bool true) ∧ CM w' base pc pb ab nb bb db ls n r.2 (putArr A (i * 17) r.1) began done lv lasts ∧ Fr [nb, ab, bb] w w'

/-- A worker that begins. -/
theorem step_new (h : CM w base pc pb ab nb bb db l.cells n vals A began done lv lasts) (i : Nat) (hi : i < n) (d : Nat) (hb : began[i]? = some d) (hd : done[i]? = some d) (hdm : d < 1000000) (hA : i * 17 + 17 ≤ A.length)
    (r : ArrS × List Int) (hr : r.1.nx ≠ 5)
    (hstep : ∀ W, Blk W nb (putAt A (i * 17) l.arr) 46 → Bank W pb ab vals → Calls Try.prog 14 #[.pointer (some ⟨nb, i * 17, none⟩), .pointer (some ⟨pb, 0, none⟩)] W (StepPost nb (i * 17) pb ab (putAt A (i * 17) l.arr) 46 W r)) :
    Calls Try.prog 7 #[.pointer (some ⟨pc, 0, none⟩), .int .i64 i] w (NewPost base pc pb ab nb bb db l.cells n i w (putAt A (i * 17) l.arr) (began.set i (d + 1)) done lv lasts r) := by
  obtain ⟨capn, hC⟩ := h.crowd
  have c14 := hC.cell (o := 14) rfl
  have c15 := hC.cell (o := 15) rfl
  have c16 := hC.cell (o := 16) rfl
  have c17 := hC.cell (o := 17) rfl
  have kb := h.beg.cell (o := i) (v := .int .i64 d) (by simp [hb, i64])
  have fb := h.beg.free i
  have kd := h.don.cell (o := i) (v := .int .i64 d) (by simp [hd, i64])
  have hi0 : (0 : Int) ≤ (i : Int) := by omega
  have hi1 : (i : Int) < (n : Int) := by omega
  have hbd : ((d : Int) == (d : Int)) = true := by simp
  have H := Lib.hid h
  have HS := Lib.hid hstep
  have HR := Lib.hid hr
  have hdec : decide (r.1.nx = 5) = false := by simp [hr]
  clear h hstep hb hd hr
  go_enter Try.func7, Try.ntmps7
  go_wp2_with fail
  go_quiet (fail)
  go_wp2_with fail
  have h2 : CM ((w.drewN nq).setCell ⟨bb, i, none⟩ (.int .i64 ((d : Int) + 1))) base pc pb ab nb bb db l.cells n vals A (began.set i (d + 1)) done lv lasts := (H.out.drewN nq).setBegan i (d + 1)
  have hF2 : Fr [nb, ab, bb] w ((w.drewN nq).setCell ⟨bb, i, none⟩ (.int .i64 ((d : Int) + 1))) := ((Fr.refl _ _).drewN _).setCell (by simp) _
  generalize (w.drewN nq).setCell ⟨bb, i, none⟩ (.int .i64 ((d : Int) + 1)) = w2 at h2 hF2 ⊢
  obtain ⟨cap2, hC2⟩ := h2.crowd
  have d15 := hC2.cell (o := 15) rfl
  have dr := hC2.range 0 l.cells (fun j v hv => by rw [Nat.zero_add, List.getElem?_append_left (List.getElem?_eq_some_iff.1 hv).1]; exact hv)
  have H2 := Lib.hid h2
  clear h2 hC2 hC c14 c15 c16 c17 kb kd fb
  refine wr_begin [11] (fun W => W.cell? ⟨pc, 15, none⟩ = some (.slice (some ⟨nb, 0, none⟩) n cap2) ∧ W.rangeAt pc 0 l.cells) (by kernel_rfl) (by exact ⟨d15, dr⟩) ?_
  refine wr_pure 0 _ rfl (by kernel_rfl) (by kernel_rfl) (by kernel_rfl) (fun _ _ _ h => h) (by kernel_rfl) (by rfl) (fun _ => by go_simp; try with_reducible rfl) ?_
  try simp only [Act.put, List.setIfInBounds_toArray, List.set_cons_zero, List.set_cons_succ]
  refine wr_pure 1 _ rfl (by kernel_rfl) (by kernel_rfl) (by kernel_rfl) (fun _ _ _ h => h) (by kernel_rfl) (by rfl) (fun _ => by go_simp; try with_reducible rfl) ?_
  try simp only [Act.put, List.setIfInBounds_toArray, List.set_cons_zero, List.set_cons_succ]
  refine wr_pure 2 _ rfl (by kernel_rfl) (by kernel_rfl) (by kernel_rfl) (fun _ _ _ h => h) (by kernel_rfl) (by rfl) (fun _ => by go_simp; try with_reducible rfl) ?_
  try simp only [Act.put, List.setIfInBounds_toArray, List.set_cons_zero, List.set_cons_succ]
  refine wr_read 3 _ rfl (by kernel_rfl) (by kernel_rfl) (by kernel_rfl) (fun _ _ _ h => h) (by kernel_rfl) (by kernel_rfl) (by rfl) (fun _ hF => by have hF1 := hF.1; clear hF; go_simp; try with_reducible rfl) ?_
  try simp only [Act.put, List.setIfInBounds_toArray, List.set_cons_zero, List.set_cons_succ]
  refine wr_pure 4 _ rfl (by kernel_rfl) (by kernel_rfl) (by kernel_rfl) (fun _ _ _ h => h) (by kernel_rfl) (by rfl) (fun _ => by go_simp; try with_reducible rfl) ?_
  try simp only [Act.put, List.setIfInBounds_toArray, List.set_cons_zero, List.set_cons_succ]
  refine wr_pure 5 _ rfl (by kernel_rfl) (by kernel_rfl) (by kernel_rfl) (fun _ _ _ h => h) (by kernel_rfl) (by rfl) (fun _ => by go_simp; try with_reducible rfl) ?_
  try simp only [Act.put, List.setIfInBounds_toArray, List.set_cons_zero, List.set_cons_succ]
  refine wr_pure 6 _ rfl (by kernel_rfl) (by kernel_rfl) (by kernel_rfl) (fun _ _ _ h => h) (by kernel_rfl) (by rfl) (fun _ => by go_simp; try with_reducible rfl) ?_
  try simp only [Act.put, List.setIfInBounds_toArray, List.set_cons_zero, List.set_cons_succ]
  refine wr_pure 7 _ rfl (by kernel_rfl) (by kernel_rfl) (by kernel_rfl) (fun _ _ _ h => h) (by kernel_rfl) (by rfl) (fun _ => by go_simp; try with_reducible rfl) ?_
  try simp only [Act.put, List.setIfInBounds_toArray, List.set_cons_zero, List.set_cons_succ]
  refine wr_read 8 _ rfl (by kernel_rfl) (by kernel_rfl) (by kernel_rfl) (fun _ _ _ h => h) (by kernel_rfl) (by kernel_rfl) (by rfl) (fun _ hF => exec_load_mid (g := pc) (off := 0) (cs := l.cells) rfl rfl hF.2 Try.underlying28 rfl (by kernel_rfl)) ?_
  try simp only [Act.put, List.setIfInBounds_toArray, List.set_cons_zero, List.set_cons_succ]
  refine wr_do 9 rfl (by kernel_rfl) (by rfl) (fun K hK => ?_)
  go_wp2_with (go_at_call 12; refine (NewArrive_any l _).mono ?_; rintro e w3 ⟨rfl, hF3⟩)
  have h3 := (H2.out.drewN 1).fr0 hF3
  have hG3 : Fr [nb, ab, bb] w w3 := (hF2.drewN 1).trans (hF3.more (by simp))
  obtain ⟨cap3, hC3⟩ := h3.crowd
  have e15 := hF3.cell (p := ⟨pc, 15, none⟩) (v := .slice (some ⟨nb, 0, none⟩) n cap2) d15 (by simp)
  have er := hC3.range 0 l.cells (fun j v hv => by rw [Nat.zero_add, List.getElem?_append_left (List.getElem?_eq_some_iff.1 hv).1]; exact hv)
  have hth := h3.now.there (i * 17) 17 hA
  refine ⟨fun _ => ⟨e15, er⟩, ?_⟩
  try simp only [Act.put, List.setIfInBounds_toArray, List.set_cons_zero, List.set_cons_succ]
  refine wr_pure 10 _ rfl (by kernel_rfl) (by kernel_rfl) (by kernel_rfl) (fun _ _ _ h => h) (by kernel_rfl) (by rfl) (fun _ => by go_simp; try with_reducible rfl) ?_
  try simp only [Act.put, List.setIfInBounds_toArray, List.set_cons_zero, List.set_cons_succ]
  refine wr_do 11 rfl (by kernel_rfl) (by rfl) (fun K hK => ?_)
  refine wp_store_mid _ _ _ rfl nb (i * 17) l.arr.toArray rfl rfl hth (by kernel_rfl) (by kernel_rfl) ?_
  refine hK _ _ ⟨Still.off 11 (by kernel_rfl) (by kernel_rfl), ?_⟩
  try simp only [Act.put, List.setIfInBounds_toArray, List.set_cons_zero, List.set_cons_succ]
  refine wr_done (by kernel_rfl) ?_ _
  have h4 : CM (w3.setCells nb (i * 17) l.arr.toArray.toList) base pc pb ab nb bb db l.cells n vals (putAt A (i * 17) l.arr) (began.set i (d + 1)) done lv lasts := h3.setNow (i * 17) l.arr
  have hG4 : Fr [nb, ab, bb] w (w3.setCells nb (i * 17) l.arr.toArray.toList) := Fr.setCells (by simp) _ _ hG3
  clear hth er e15 hC3 h3 hG3 hF3 hF2
  generalize w3.setCells nb (i * 17) l.arr.toArray.toList = w4 at h4 hG4 ⊢
  obtain ⟨cap4, hC4⟩ := h4.crowd
  have c14 := hC4.cell (o := 14) rfl
  have c15 := hC4.cell (o := 15) rfl
  have H4 := Lib.hid h4
  clear h4 hC4
  go_wp2_with fail
  refine wr_begin [10] (fun W => W.cell? ⟨pc, 15, none⟩ = some (.slice (some ⟨nb, 0, none⟩) n cap4) ∧ W.cell? ⟨pc, 14, none⟩ = some (.pointer (some ⟨pb, 0, none⟩))) (by kernel_rfl) (by exact ⟨c15, c14⟩) ?_
  refine wr_pure 0 _ rfl (by kernel_rfl) (by kernel_rfl) (by kernel_rfl) (fun _ _ _ h => h) (by kernel_rfl) (by rfl) (fun _ => by go_simp; try with_reducible rfl) ?_
  try simp only [Act.put, List.setIfInBounds_toArray, List.set_cons_zero, List.set_cons_succ]
  refine wr_pure 1 _ rfl (by kernel_rfl) (by kernel_rfl) (by kernel_rfl) (fun _ _ _ h => h) (by kernel_rfl) (by rfl) (fun _ => by go_simp; try with_reducible rfl) ?_
  try simp only [Act.put, List.setIfInBounds_toArray, List.set_cons_zero, List.set_cons_succ]
  refine wr_pure 2 _ rfl (by kernel_rfl) (by kernel_rfl) (by kernel_rfl) (fun _ _ _ h => h) (by kernel_rfl) (by rfl) (fun _ => by go_simp; try with_reducible rfl) ?_
  try simp only [Act.put, List.setIfInBounds_toArray, List.set_cons_zero, List.set_cons_succ]
  refine wr_read 3 _ rfl (by kernel_rfl) (by kernel_rfl) (by kernel_rfl) (fun _ _ _ h => h) (by kernel_rfl) (by kernel_rfl) (by rfl) (fun _ hF => by have hF1 := hF.1; clear hF; go_simp; try with_reducible rfl) ?_
  try simp only [Act.put, List.setIfInBounds_toArray, List.set_cons_zero, List.set_cons_succ]
  refine wr_pure 4 _ rfl (by kernel_rfl) (by kernel_rfl) (by kernel_rfl) (fun _ _ _ h => h) (by kernel_rfl) (by rfl) (fun _ => by go_simp; try with_reducible rfl) ?_
  try simp only [Act.put, List.setIfInBounds_toArray, List.set_cons_zero, List.set_cons_succ]
  refine wr_pure 5 _ rfl (by kernel_rfl) (by kernel_rfl) (by kernel_rfl) (fun _ _ _ h => h) (by kernel_rfl) (by rfl) (fun _ => by go_simp; try with_reducible rfl) ?_
  try simp only [Act.put, List.setIfInBounds_toArray, List.set_cons_zero, List.set_cons_succ]
  refine wr_pure 6 _ rfl (by kernel_rfl) (by kernel_rfl) (by kernel_rfl) (fun _ _ _ h => h) (by kernel_rfl) (by rfl) (fun _ => by go_simp; try with_reducible rfl) ?_
  try simp only [Act.put, List.setIfInBounds_toArray, List.set_cons_zero, List.set_cons_succ]
  refine wr_pure 7 _ rfl (by kernel_rfl) (by kernel_rfl) (by kernel_rfl) (fun _ _ _ h => h) (by kernel_rfl) (by rfl) (fun _ => by go_simp; try with_reducible rfl) ?_
  try simp only [Act.put, List.setIfInBounds_toArray, List.set_cons_zero, List.set_cons_succ]
  refine wr_pure 8 _ rfl (by kernel_rfl) (by kernel_rfl) (by kernel_rfl) (fun _ _ _ h => h) (by kernel_rfl) (by rfl) (fun _ => by go_simp; try with_reducible rfl) ?_
  try simp only [Act.put, List.setIfInBounds_toArray, List.set_cons_zero, List.set_cons_succ]
  refine wr_read 9 _ rfl (by kernel_rfl) (by kernel_rfl) (by kernel_rfl) (fun _ _ _ h => h) (by kernel_rfl) (by kernel_rfl) (by rfl) (fun _ hF => by have hF1 := hF.2; clear hF; go_simp; try with_reducible rfl) ?_
  try simp only [Act.put, List.setIfInBounds_toArray, List.set_cons_zero, List.set_cons_succ]
  refine wr_do 10 rfl (by kernel_rfl) (by rfl) (fun K hK => ?_)
  go_wp2_with (go_at_call 14; refine (HS.out _ (Blk.drew H4.out.now) (Bank.drew H4.out.bank)).mono ?_; rintro e w5 hP; obtain ⟨he, hN5, hB5, hF5⟩ := hP; rw [hdec] at he; subst he)
  refine ⟨Still.off 10 (by kernel_rfl) (by kernel_rfl), ?_⟩
  try simp only [Act.put, List.setIfInBounds_toArray, List.set_cons_zero, List.set_cons_succ]
  refine wr_pure 11 _ rfl (by kernel_rfl) (by kernel_rfl) (by kernel_rfl) (fun _ _ _ h => h) (by kernel_rfl) (by rfl) (fun _ => by go_simp; try with_reducible rfl) ?_
  try simp only [Act.put, List.setIfInBounds_toArray, List.set_cons_zero, List.set_cons_succ]
  refine wr_done (by kernel_rfl) ?_ _
  go_wp2_with fail
  go_ret
  refine ⟨rfl, ?_, ?_⟩
  · exact H4.out.on (W := w4.drew) ⟨rfl, rfl, rfl, rfl⟩ hN5 hB5 hF5
  · exact hG4.drew.trans (hF5.more (by simp))
end
end Acq
