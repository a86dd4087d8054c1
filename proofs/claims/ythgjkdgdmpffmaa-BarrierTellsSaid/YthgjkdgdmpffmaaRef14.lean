/- The contracts of acequiaref14: Ready, Step. -/
import Derived.Test.YthgjkdgdmpffmaaBank10
import Derived.Test.YthgjkdgdmpffmaaPlan
import Derived.Test.YthgjkdgdmpffmaaRegion
set_option linter.unusedSimpArgs false
set_option linter.unusedVariables false
namespace Acq
open Go Go.RowKit Go.Proofs

theorem Row64.otherRow {w : World} {g c : Nat} {xs : List Int} (h : Row64 w g xs) (hne : g ≠ c) (cs : Array Value) : Row64 (w.setRow c cs) g xs := by
  obtain ⟨cur, T, h, ht⟩ := h
  exact ⟨cur, T, by rw [setRow_other _ _ _ _ hne]; exact h, ht⟩

section
variable {w : World} {g : Nat} {xs : List Int} {c : Nat}

theorem ready14 (l : Lay) (hR : Row64 w g xs) (hs : l.sense < xs.length) (hn : xs.length ≤ 524288) :
    Calls Try.prog 11 #[.agg l.cells.toArray, .slice (some ⟨g, 0, none⟩) xs.length c] w fun e w' => ∃ g' c', e = .returned (.slice (some ⟨g', 0, none⟩) xs.length c') ∧ Row64 w' g' ((xs.set l.count l.workers).set l.sense 0) ∧ w.heap.size ≤ g' ∧ Fr [] w w' := by
  have hcs : l.count < xs.length := by unfold Lay.count; unfold Lay.sense at hs; omega
  have bl := Blk.new w l.cells 28
  have c10 := bl.cell (o := 10) (v := .int .i64 l.count) rfl
  have c2 := bl.cell (o := 2) (v := .int .i64 l.workers) rfl
  have c11 := bl.cell (o := 11) (v := .int .i64 l.sense) rfl
  have hF0 : Fr [] w (w.alloc (.cells l.cells.toArray 28)) := (Fr.refl _ _).alloc _
  have HR1 := Lib.hid (hR.fr hF0 (by simp))
  have hls : Hid (l.cells.length = 14) := Lib.hid rfl
  generalize hcc : l.count = cc at *
  generalize hss : l.sense = ss at *
  generalize hkk : l.workers = kk at *
  clear hcc hss hkk hR
  have HF0 := Lib.hid hF0
  clear hF0
  generalize hw1 : w.alloc (.cells l.cells.toArray 28) = w1 at *
  have HW1 := Lib.hid hw1
  go_enter Try.func11, Try.ntmps11
  go_wp2_with fail
  refine wr_begin [8] (fun W => W.cell? ⟨w.heap.size, 10, none⟩ = some (.int .i64 cc) ∧ W.cell? ⟨w.heap.size, 2, none⟩ = some (.int .i64 kk) ∧ W.cell? ⟨w.heap.size, 11, none⟩ = some (.int .i64 ss)) (by kernel_rfl) (by exact ⟨c10, c2, c11⟩) ?_
  refine wr_pure 0 _ rfl (by kernel_rfl) (by kernel_rfl) (by kernel_rfl) (fun _ _ _ h => h) (by kernel_rfl) (by rfl) (fun _ => by go_simp; try with_reducible rfl) ?_
  try simp only [Act.put, List.setIfInBounds_toArray, List.set_cons_zero, List.set_cons_succ]
  refine wr_pure 1 _ rfl (by kernel_rfl) (by kernel_rfl) (by kernel_rfl) (fun _ _ _ h => h) (by kernel_rfl) (by rfl) (fun _ => by go_simp; try with_reducible rfl) ?_
  try simp only [Act.put, List.setIfInBounds_toArray, List.set_cons_zero, List.set_cons_succ]
  refine wr_read 2 _ rfl (by kernel_rfl) (by kernel_rfl) (by kernel_rfl) (fun _ _ _ h => h) (by kernel_rfl) (by kernel_rfl) (by rfl) (fun _ hF => by have hF1 := hF.1; clear hF; go_simp; try with_reducible rfl) ?_
  try simp only [Act.put, List.setIfInBounds_toArray, List.set_cons_zero, List.set_cons_succ]
  refine wr_pure 3 _ rfl (by kernel_rfl) (by kernel_rfl) (by kernel_rfl) (fun _ _ _ h => h) (by kernel_rfl) (by rfl) (fun _ => by go_simp; try with_reducible rfl) ?_
  try simp only [Act.put, List.setIfInBounds_toArray, List.set_cons_zero, List.set_cons_succ]
  refine wr_read 4 _ rfl (by kernel_rfl) (by kernel_rfl) (by kernel_rfl) (fun _ _ _ h => h) (by kernel_rfl) (by kernel_rfl) (by rfl) (fun _ hF => by have hF1 := hF.2.1; clear hF; go_simp; try with_reducible rfl) ?_
  try simp only [Act.put, List.setIfInBounds_toArray, List.set_cons_zero, List.set_cons_succ]
  refine wr_pure 6 _ rfl (by kernel_rfl) (by kernel_rfl) (by kernel_rfl) (fun _ _ _ h => h) (by kernel_rfl) (by rfl) (fun _ => by go_simp; try with_reducible rfl) ?_
  try simp only [Act.put, List.setIfInBounds_toArray, List.set_cons_zero, List.set_cons_succ]
  refine wr_read 7 _ rfl (by kernel_rfl) (by kernel_rfl) (by kernel_rfl) (fun _ _ _ h => h) (by kernel_rfl) (by kernel_rfl) (by rfl) (fun _ hF => by have hF1 := hF.2.2; clear hF; go_simp; try with_reducible rfl) ?_
  try simp only [Act.put, List.setIfInBounds_toArray, List.set_cons_zero, List.set_cons_succ]
  refine wr_do 5 rfl (by kernel_rfl) (by rfl) (fun K hK => ?_)
  refine wp_call (f := 23) (args := #[.slice (some ⟨g, 0, none⟩) xs.length c, .int .i64 cc, .int .i64 kk]) (by kernel_rfl) (put10 (w := w1.drew) (HR1.out.fr (Fr.drew (Fr.refl [] _)) (by simp)) cc kk (by omega) (by simpa using hcs) hn) ?_
  rintro e w2 ⟨g2, d2, rfl, hR2, hg2, hF2⟩
  refine ⟨_, rfl, hK _ _ ?_⟩
  rw [Int.toNat_natCast] at hR2
  have e10 := hF2.cell (p := ⟨w.heap.size, 10, none⟩) c10 (by simp)
  have e2 := hF2.cell (p := ⟨w.heap.size, 2, none⟩) c2 (by simp)
  have e11 := hF2.cell (p := ⟨w.heap.size, 11, none⟩) c11 (by simp)
  have hz2 : w1.heap.size ≤ w2.heap.size := hF2.size
  have HF2 := Lib.hid ((HF0.out.drew).trans hF2)
  have HR2 := Lib.hid hR2
  have HL2 := Lib.hid (show (xs.set cc (kk : Int)).length = xs.length by simp)
  clear hF2 hR2
  generalize hys : xs.set cc (kk : Int) = ys at HR2 HL2
  have HY := Lib.hid hys
  clear hys
  rw [← HL2.out]
  refine ⟨fun _ => ⟨e10, e2, e11⟩, ?_⟩
  try simp only [Act.put, List.setIfInBounds_toArray, List.set_cons_zero, List.set_cons_succ]
  refine wr_do 8 rfl (by kernel_rfl) (by rfl) (fun K hK => ?_)
  refine wp_call (f := 23) (args := #[.slice (some ⟨g2, 0, none⟩) ys.length d2, .int .i64 ss, .int .i64 0]) (by kernel_rfl) (put10 HR2.out ss 0 (by omega) (by rw [HL2.out]; simpa using hs) (by rw [HL2.out]; exact hn)) ?_
  rintro e w3 ⟨g3, d3, rfl, hR3, hg3, hF3⟩
  refine ⟨_, rfl, hK _ _ ?_⟩
  refine ⟨Still.off 8 (by kernel_rfl) (by kernel_rfl), ?_⟩
  try simp only [Act.put, List.setIfInBounds_toArray, List.set_cons_zero, List.set_cons_succ]
  refine wr_pure 9 _ rfl (by kernel_rfl) (by kernel_rfl) (by kernel_rfl) (fun _ _ _ h => h) (by kernel_rfl) (by rfl) (fun _ => by go_simp; try with_reducible rfl) ?_
  try simp only [Act.put, List.setIfInBounds_toArray, List.set_cons_zero, List.set_cons_succ]
  refine wr_done (by kernel_rfl) ?_ _
  go_wp2_with fail
  go_ret
  have hz := HF0.out.size
  refine ⟨g3, d3, by rw [← HL2.out]; rfl, ?_, by omega, HF2.out.trans hF3⟩
  rw [HY.out]; rw [Int.toNat_natCast] at hR3; exact hR3

/-- A machine of the document. -/
structure RefS where
  at_ : Nat
  own : Int
  last : Bool
  done : Bool

def RefS.cells (y : RefS) : List Value := [.int .i64 y.at_, .int .i64 y.own, .bool y.last, .bool y.done]

/-- The document's table. -/
def refStep (ci si : Nat) (wk : Int) (y : RefS) (vals : List Int) : RefS × List Int :=
  if y.at_ = 0 then (⟨1, if vals[si]? = some 0 then 1 else 0, y.last, false⟩, vals)
  else if y.at_ = 1 then (⟨2, y.own, (vals[ci]?.getD 0) - 1 == 0, false⟩, vals.set ci ((vals[ci]?.getD 0) - 1))
  else if y.last = true ∧ y.at_ = 2 then (⟨3, y.own, y.last, false⟩, vals.set ci wk)
  else if y.last = true then (⟨y.at_ + 1, y.own, y.last, true⟩, vals.set si y.own)
  else (⟨y.at_ + 1, y.own, y.last, vals[si]? == some y.own⟩, vals)

/-- What is so behind a step of the document. -/
def RefPost (g : Nat) (n : Nat) (w : World) (r : RefS × List Int) (e : Ending) (w' : World) : Prop :=
  ∃ g' c', e = .returned (.tuple #[.agg r.1.cells.toArray, .slice (some ⟨g', 0, none⟩) n c']) ∧ Row64 w' g' r.2 ∧ (g' = g ∨ w.heap.size ≤ g') ∧ Fr [] w w'

theorem step14_look (x0 x1 wk x3 x4 x5 x6 x7 x8 x9 x12 x13 : Int) (cc ss : Nat) (own : Int) (last : Bool) (x : Int) (hx : xs[ss]? = some x) (own' : Int) (ho : own' = if x = 0 then 1 else 0) (hR : Row64 w g xs) (hn : xs.length ≤ 524288) :
    Calls Try.prog 13 #[.agg #[.int .i64 0, .int .i64 own, .bool last, .bool false], .agg #[.int .i64 x0, .int .i64 x1, .int .i64 wk, .int .i64 x3, .int .i64 x4, .int .i64 x5, .int .i64 x6, .int .i64 x7, .int .i64 x8, .int .i64 x9, .int .i64 cc, .int .i64 ss, .int .i64 x12, .int .i64 x13], .slice (some ⟨g, 0, none⟩) xs.length c] w (RefPost g xs.length w (⟨1, own', last, false⟩, xs)) := by
  have HR := Lib.hid hR
  have HX := Lib.hid hx
  clear hR hx
  by_cases h0 : x = 0
  · subst h0
    obtain rfl : own' = 1 := ho
    go_enter Try.func13, Try.ntmps13
    go_wp2_with fail
    refine (load10 (HR.out.fr ((((Fr.refl [] _).alloc _).alloc _).alloc _) (by simp)) ss 0 (by omega) (by rw [Int.toNat_natCast]; exact HX.out)).mono ?_
    rintro e w' ⟨rfl, rfl⟩
    go_wp2_with fail
    refine ret_ct (T := 49) (cs := (RefS.mk 1 1 last false).cells) rfl rfl (Blk.new_at _ _ (by simp)) Try.underlying49 rfl (by kernel_rfl) rfl ⟨g, c, rfl, HR.out.fr ((((Fr.refl [] _).alloc _).alloc _).alloc _) (by simp), .inl rfl, ((((Fr.refl [] _).alloc _).alloc _).alloc _)⟩
  · obtain rfl : own' = 0 := by rw [if_neg h0] at ho; exact ho
    have hz : (x == 0) = false := by simp [h0]
    clear ho h0
    go_enter Try.func13, Try.ntmps13
    go_wp2_with fail
    refine (load10 (HR.out.fr ((((Fr.refl [] _).alloc _).alloc _).alloc _) (by simp)) ss x (by omega) (by rw [Int.toNat_natCast]; exact HX.out)).mono ?_
    rintro e w' ⟨rfl, rfl⟩
    go_wp2_with fail
    refine ret_ct (T := 49) (cs := (RefS.mk 1 0 last false).cells) rfl rfl (Blk.new_at _ _ (by simp)) Try.underlying49 rfl (by kernel_rfl) rfl ⟨g, c, rfl, HR.out.fr ((((Fr.refl [] _).alloc _).alloc _).alloc _) (by simp), .inl rfl, ((((Fr.refl [] _).alloc _).alloc _).alloc _)⟩

theorem step14_reset (x0 x1 wk x3 x4 x5 x6 x7 x8 x9 x12 x13 : Int) (cc ss : Nat) (own : Int) (hlt : cc < xs.length) (hR : Row64 w g xs) (hn : xs.length ≤ 524288) :
    Calls Try.prog 13 #[.agg #[.int .i64 2, .int .i64 own, .bool true, .bool false], .agg #[.int .i64 x0, .int .i64 x1, .int .i64 wk, .int .i64 x3, .int .i64 x4, .int .i64 x5, .int .i64 x6, .int .i64 x7, .int .i64 x8, .int .i64 x9, .int .i64 cc, .int .i64 ss, .int .i64 x12, .int .i64 x13], .slice (some ⟨g, 0, none⟩) xs.length c] w (RefPost g xs.length w (⟨3, own, true, false⟩, xs.set cc wk)) := by
  have HR := Lib.hid hR
  clear hR
  go_enter Try.func13, Try.ntmps13
  go_wp2_with fail
  refine (put10 (HR.out.fr ((((Fr.refl [] _).alloc _).alloc _).alloc _) (by simp)) cc wk (by omega) (by rw [Int.toNat_natCast]; exact hlt) hn).mono ?_
  rintro e w5 ⟨g5, d5, rfl, hR5, hg5, hF5⟩
  rw [Int.toNat_natCast] at hR5
  have hb3 := (Blk.new_at (w := w) (b := w.heap.size) [.int .i64 3, .int .i64 own, .bool true, .bool false] 49 rfl).alloc (.cells #[.int .i64 x0, .int .i64 x1, .int .i64 wk, .int .i64 x3, .int .i64 x4, .int .i64 x5, .int .i64 x6, .int .i64 x7, .int .i64 x8, .int .i64 x9, .int .i64 cc, .int .i64 ss, .int .i64 x12, .int .i64 x13] 28) |>.alloc (.cells #[.int .i64 0, .int .i64 0, .bool false, .bool false] 49) |>.fr hF5 (by simp)
  have hb6 := (Blk.new_at (w := (w.alloc (.cells [.int .i64 3, .int .i64 own, .bool true, .bool false].toArray 49)).alloc (.cells #[.int .i64 x0, .int .i64 x1, .int .i64 wk, .int .i64 x3, .int .i64 x4, .int .i64 x5, .int .i64 x6, .int .i64 x7, .int .i64 x8, .int .i64 x9, .int .i64 cc, .int .i64 ss, .int .i64 x12, .int .i64 x13] 28)) (b := w.heap.size + 1 + 1) [.int .i64 0, .int .i64 0, .bool false, .bool false] 49 (by simp)).fr hF5 (by simp)
  have hG5 : Fr [] w w5 := ((((Fr.refl [] _).alloc _).alloc _).alloc _).trans hF5
  have hz5 : w.heap.size + 1 + 1 + 1 ≤ w5.heap.size := by have := hF5.size; simpa using this
  have hg6 : w.heap.size + 1 + 1 + 1 ≤ g5 := by simpa using hg5
  have k0 := hb3.cell (o := 0) rfl
  have k1 := hb3.cell (o := 1) rfl
  have k2 := hb3.cell (o := 2) rfl
  have k3 := hb3.cell (o := 3) rfl
  go_wp2_with (first | (refine wl_load rfl rfl rfl [.int .i64 3, .int .i64 own, .bool true, .bool false] hb3 Try.underlying49 rfl (by kernel_rfl) ?_) | (refine wl_store rfl rfl [.int .i64 3, .int .i64 own, .bool true, .bool false] rfl rfl hb6 (by kernel_rfl) rfl rfl ?_))
  refine ret_ct (T := 49) (cs := (RefS.mk 3 own true false).cells) rfl rfl (hb6.row _) Try.underlying49 rfl (by kernel_rfl) rfl ⟨g5, d5, rfl, ?_, .inr (by omega), ?_⟩
  · exact hR5.otherRow (by simp at hg5; omega) _
  · exact hG5.setRow (.inr (by omega)) _

theorem step14_turn (x0 x1 wk x3 x4 x5 x6 x7 x8 x9 x12 x13 : Int) (cc ss : Nat) (own : Int) (hlt : ss < xs.length) (hR : Row64 w g xs) (hn : xs.length ≤ 524288) :
    Calls Try.prog 13 #[.agg #[.int .i64 3, .int .i64 own, .bool true, .bool false], .agg #[.int .i64 x0, .int .i64 x1, .int .i64 wk, .int .i64 x3, .int .i64 x4, .int .i64 x5, .int .i64 x6, .int .i64 x7, .int .i64 x8, .int .i64 x9, .int .i64 cc, .int .i64 ss, .int .i64 x12, .int .i64 x13], .slice (some ⟨g, 0, none⟩) xs.length c] w (RefPost g xs.length w (⟨4, own, true, true⟩, xs.set ss own)) := by
  have HR := Lib.hid hR
  clear hR
  go_enter Try.func13, Try.ntmps13
  go_wp2_with fail
  refine (put10 (HR.out.fr ((((Fr.refl [] _).alloc _).alloc _).alloc _) (by simp)) ss own (by omega) (by rw [Int.toNat_natCast]; exact hlt) hn).mono ?_
  rintro e w5 ⟨g5, d5, rfl, hR5, hg5, hF5⟩
  rw [Int.toNat_natCast] at hR5
  have hb3 := (Blk.new_at (w := w) (b := w.heap.size) [.int .i64 4, .int .i64 own, .bool true, .bool false] 49 rfl).alloc (.cells #[.int .i64 x0, .int .i64 x1, .int .i64 wk, .int .i64 x3, .int .i64 x4, .int .i64 x5, .int .i64 x6, .int .i64 x7, .int .i64 x8, .int .i64 x9, .int .i64 cc, .int .i64 ss, .int .i64 x12, .int .i64 x13] 28) |>.alloc (.cells #[.int .i64 0, .int .i64 0, .bool false, .bool false] 49) |>.fr hF5 (by simp)
  have hb6 := (Blk.new_at (w := (w.alloc (.cells [.int .i64 4, .int .i64 own, .bool true, .bool false].toArray 49)).alloc (.cells #[.int .i64 x0, .int .i64 x1, .int .i64 wk, .int .i64 x3, .int .i64 x4, .int .i64 x5, .int .i64 x6, .int .i64 x7, .int .i64 x8, .int .i64 x9, .int .i64 cc, .int .i64 ss, .int .i64 x12, .int .i64 x13] 28)) (b := w.heap.size + 1 + 1) [.int .i64 0, .int .i64 0, .bool false, .bool false] 49 (by simp)).fr hF5 (by simp)
  have hG5 : Fr [] w w5 := ((((Fr.refl [] _).alloc _).alloc _).alloc _).trans hF5
  have hz5 : w.heap.size + 1 + 1 + 1 ≤ w5.heap.size := by have := hF5.size; simpa using this
  have hg6 : w.heap.size + 1 + 1 + 1 ≤ g5 := by simpa using hg5
  have k3 := hb3.cell (o := 3) rfl
  have f3 := hb3.free 3
  have hb3' := hb3.set 3 (.bool true)
  have hb6' := hb6.away (c := w.heap.size) (o := 3) (by omega) (.bool true)
  have hR5' : Row64 (w5.setCell ⟨w.heap.size, 3, none⟩ (.bool true)) g5 (xs.set ss own) := hR5.fr (S := [w.heap.size]) ((Fr.refl _ _).setCell (by simp) _) (by simp; omega)
  have hG5' : Fr [] w (w5.setCell ⟨w.heap.size, 3, none⟩ (.bool true)) := ((hG5.more (S' := [w.heap.size]) (by simp)).setCell (by simp) _).less (by simp)
  have HB3 := Lib.hid hb3'
  have HB6 := Lib.hid hb6'
  have HR5 := Lib.hid hR5'
  have HG5 := Lib.hid hG5'
  clear hb3' hb6' hR5' hG5' hb3 hb6 hG5 hF5 hR5 hg5
  go_wp2_with (first | (refine wl_load rfl rfl rfl [.int .i64 4, .int .i64 own, .bool true, .bool true] HB3.out Try.underlying49 rfl (by kernel_rfl) ?_) | (refine wl_store rfl rfl [.int .i64 4, .int .i64 own, .bool true, .bool true] rfl rfl HB6.out (by kernel_rfl) rfl rfl ?_))
  refine ret_ct (T := 49) (cs := (RefS.mk 4 own true true).cells) rfl rfl (HB6.out.row _) Try.underlying49 rfl (by kernel_rfl) rfl ⟨g5, d5, rfl, HR5.out.otherRow (by omega) _, .inr (by omega), HG5.out.setRow (.inr (by omega)) _⟩

set_option maxHeartbeats 1000000 in
theorem step14_come (x0 x1 wk x3 x4 x5 x6 x7 x8 x9 x12 x13 : Int) (cc ss : Nat) (own : Int) (x : Int) (hx : xs[cc]? = some x) (hx0 : -9223372036854775807 ≤ x) (hx1 : x ≤ 9223372036854775807) (hR : Row64 w g xs) (hn : xs.length ≤ 524288) :
    Calls Try.prog 13 #[.agg #[.int .i64 1, .int .i64 own, .bool false, .bool false], .agg #[.int .i64 x0, .int .i64 x1, .int .i64 wk, .int .i64 x3, .int .i64 x4, .int .i64 x5, .int .i64 x6, .int .i64 x7, .int .i64 x8, .int .i64 x9, .int .i64 cc, .int .i64 ss, .int .i64 x12, .int .i64 x13], .slice (some ⟨g, 0, none⟩) xs.length c] w (RefPost g xs.length w (⟨2, own, x - 1 == 0, false⟩, xs.set cc (x - 1))) := by
  have hlt := (List.getElem?_eq_some_iff.1 hx).1
  have HR := Lib.hid hR
  have HX := Lib.hid hx
  clear hR hx
  go_enter Try.func13, Try.ntmps13
  go_upto_region 10 with (fail)
  have HB3 : Hid (Blk (((w.alloc (.cells #[.int .i64 2, .int .i64 own, .bool false, .bool false] 49)).alloc (.cells #[.int .i64 x0, .int .i64 x1, .int .i64 wk, .int .i64 x3, .int .i64 x4, .int .i64 x5, .int .i64 x6, .int .i64 x7, .int .i64 x8, .int .i64 x9, .int .i64 cc, .int .i64 ss, .int .i64 x12, .int .i64 x13] 28)).alloc (.cells #[.int .i64 0, .int .i64 0, .bool false, .bool false] 49)) w.heap.size [.int .i64 2, .int .i64 own, .bool false, .bool false] 49) := Lib.hid (((Blk.new_at (w := w) [.int .i64 2, .int .i64 own, .bool false, .bool false] _ rfl).alloc _).alloc _)
  have HB4 : Hid (Blk (((w.alloc (.cells #[.int .i64 2, .int .i64 own, .bool false, .bool false] 49)).alloc (.cells #[.int .i64 x0, .int .i64 x1, .int .i64 wk, .int .i64 x3, .int .i64 x4, .int .i64 x5, .int .i64 x6, .int .i64 x7, .int .i64 x8, .int .i64 x9, .int .i64 cc, .int .i64 ss, .int .i64 x12, .int .i64 x13] 28)).alloc (.cells #[.int .i64 0, .int .i64 0, .bool false, .bool false] 49)) (w.heap.size + 1) [.int .i64 x0, .int .i64 x1, .int .i64 wk, .int .i64 x3, .int .i64 x4, .int .i64 x5, .int .i64 x6, .int .i64 x7, .int .i64 x8, .int .i64 x9, .int .i64 cc, .int .i64 ss, .int .i64 x12, .int .i64 x13] 28) := Lib.hid ((Blk.new_at [.int .i64 x0, .int .i64 x1, .int .i64 wk, .int .i64 x3, .int .i64 x4, .int .i64 x5, .int .i64 x6, .int .i64 x7, .int .i64 x8, .int .i64 x9, .int .i64 cc, .int .i64 ss, .int .i64 x12, .int .i64 x13] _ (by simp)).alloc _)
  have HB6 : Hid (Blk (((w.alloc (.cells #[.int .i64 2, .int .i64 own, .bool false, .bool false] 49)).alloc (.cells #[.int .i64 x0, .int .i64 x1, .int .i64 wk, .int .i64 x3, .int .i64 x4, .int .i64 x5, .int .i64 x6, .int .i64 x7, .int .i64 x8, .int .i64 x9, .int .i64 cc, .int .i64 ss, .int .i64 x12, .int .i64 x13] 28)).alloc (.cells #[.int .i64 0, .int .i64 0, .bool false, .bool false] 49)) (w.heap.size + 1 + 1) [.int .i64 0, .int .i64 0, .bool false, .bool false] 49) := Lib.hid (Blk.new_at [.int .i64 0, .int .i64 0, .bool false, .bool false] _ (by simp))
  have HG : Hid (Fr [] w (((w.alloc (.cells #[.int .i64 2, .int .i64 own, .bool false, .bool false] 49)).alloc (.cells #[.int .i64 x0, .int .i64 x1, .int .i64 wk, .int .i64 x3, .int .i64 x4, .int .i64 x5, .int .i64 x6, .int .i64 x7, .int .i64 x8, .int .i64 x9, .int .i64 cc, .int .i64 ss, .int .i64 x12, .int .i64 x13] 28)).alloc (.cells #[.int .i64 0, .int .i64 0, .bool false, .bool false] 49))) := Lib.hid ((((Fr.refl [] _).alloc _).alloc _).alloc _)
  have HR1 : Hid (Row64 (((w.alloc (.cells #[.int .i64 2, .int .i64 own, .bool false, .bool false] 49)).alloc (.cells #[.int .i64 x0, .int .i64 x1, .int .i64 wk, .int .i64 x3, .int .i64 x4, .int .i64 x5, .int .i64 x6, .int .i64 x7, .int .i64 x8, .int .i64 x9, .int .i64 cc, .int .i64 ss, .int .i64 x12, .int .i64 x13] 28)).alloc (.cells #[.int .i64 0, .int .i64 0, .bool false, .bool false] 49)) g xs) := Lib.hid (HR.out.fr HG.out (by simp))
  have hz1 : (((w.alloc (.cells #[.int .i64 2, .int .i64 own, .bool false, .bool false] 49)).alloc (.cells #[.int .i64 x0, .int .i64 x1, .int .i64 wk, .int .i64 x3, .int .i64 x4, .int .i64 x5, .int .i64 x6, .int .i64 x7, .int .i64 x8, .int .i64 x9, .int .i64 cc, .int .i64 ss, .int .i64 x12, .int .i64 x13] 28)).alloc (.cells #[.int .i64 0, .int .i64 0, .bool false, .bool false] 49)).heap.size = w.heap.size + 1 + 1 + 1 := by simp
  have hz2 : w.heap.size + 1 + 1 + 1 ≤ (((w.alloc (.cells #[.int .i64 2, .int .i64 own, .bool false, .bool false] 49)).alloc (.cells #[.int .i64 x0, .int .i64 x1, .int .i64 wk, .int .i64 x3, .int .i64 x4, .int .i64 x5, .int .i64 x6, .int .i64 x7, .int .i64 x8, .int .i64 x9, .int .i64 cc, .int .i64 ss, .int .i64 x12, .int .i64 x13] 28)).alloc (.cells #[.int .i64 0, .int .i64 0, .bool false, .bool false] 49)).heap.size := by omega
  clear hz1
  generalize ((w.alloc (.cells #[.int .i64 2, .int .i64 own, .bool false, .bool false] 49)).alloc (.cells #[.int .i64 x0, .int .i64 x1, .int .i64 wk, .int .i64 x3, .int .i64 x4, .int .i64 x5, .int .i64 x6, .int .i64 x7, .int .i64 x8, .int .i64 x9, .int .i64 cc, .int .i64 ss, .int .i64 x12, .int .i64 x13] 28)).alloc (.cells #[.int .i64 0, .int .i64 0, .bool false, .bool false] 49) = W1 at HB3 HB4 HB6 HG HR1 hz2 ⊢
  have c10 := HB4.out.cell (o := 10) (v := .int .i64 cc) rfl
  have HSUB : Hid (IntKind.i64.wrap (x - 1) = x - 1) := Lib.hid (by rw [IntKind.wrap_i64]; omega)
  refine wr_begin [8] (fun W => W.cell? ⟨w.heap.size + 1, 10, none⟩ = some (.int .i64 cc)) (by kernel_rfl) (by exact c10) ?_
  refine wr_pure 0 _ rfl (by kernel_rfl) (by kernel_rfl) (by kernel_rfl) (fun _ _ _ h => h) (by kernel_rfl) (by rfl) (fun _ => by go_simp; try with_reducible rfl) ?_
  try simp only [Act.put, List.setIfInBounds_toArray, List.set_cons_zero, List.set_cons_succ]
  refine wr_pure 1 _ rfl (by kernel_rfl) (by kernel_rfl) (by kernel_rfl) (fun _ _ _ h => h) (by kernel_rfl) (by rfl) (fun _ => by go_simp; try with_reducible rfl) ?_
  try simp only [Act.put, List.setIfInBounds_toArray, List.set_cons_zero, List.set_cons_succ]
  refine wr_read 2 _ rfl (by kernel_rfl) (by kernel_rfl) (by kernel_rfl) (fun _ _ _ h => h) (by kernel_rfl) (by kernel_rfl) (by rfl) (fun _ hF => by go_simp; try with_reducible rfl) ?_
  try simp only [Act.put, List.setIfInBounds_toArray, List.set_cons_zero, List.set_cons_succ]
  refine wr_pure 3 _ rfl (by kernel_rfl) (by kernel_rfl) (by kernel_rfl) (fun _ _ _ h => h) (by kernel_rfl) (by rfl) (fun _ => by go_simp; try with_reducible rfl) ?_
  try simp only [Act.put, List.setIfInBounds_toArray, List.set_cons_zero, List.set_cons_succ]
  refine wr_pure 4 _ rfl (by kernel_rfl) (by kernel_rfl) (by kernel_rfl) (fun _ _ _ h => h) (by kernel_rfl) (by rfl) (fun _ => by go_simp; try with_reducible rfl) ?_
  try simp only [Act.put, List.setIfInBounds_toArray, List.set_cons_zero, List.set_cons_succ]
  refine wr_read 5 _ rfl (by kernel_rfl) (by kernel_rfl) (by kernel_rfl) (fun _ _ _ h => h) (by kernel_rfl) (by kernel_rfl) (by rfl) (fun _ hF => by go_simp; try with_reducible rfl) ?_
  try simp only [Act.put, List.setIfInBounds_toArray, List.set_cons_zero, List.set_cons_succ]
  refine wr_do 6 rfl (by kernel_rfl) (by rfl) (fun K hK => ?_)
  refine wp_call (f := 24) (args := #[.slice (some ⟨g, 0, none⟩) xs.length c, .int .i64 cc]) (by kernel_rfl) (load10 (w := W1.drew) (HR1.out.fr (Fr.drew (Fr.refl [] _)) (by simp)) cc x (by omega) (by rw [Int.toNat_natCast]; exact HX.out)) ?_
  rintro e w2 ⟨rfl, rfl⟩
  refine ⟨_, rfl, hK _ _ ?_⟩
  refine ⟨fun _ => c10, ?_⟩
  try simp only [Act.put, List.setIfInBounds_toArray, List.set_cons_zero, List.set_cons_succ]
  refine wr_pure 7 _ rfl (by kernel_rfl) (by kernel_rfl) (by kernel_rfl) (fun _ _ _ h => h) (by kernel_rfl) (by rfl) (fun _ => by go_simp; try with_reducible rfl) ?_
  try simp only [Act.put, List.setIfInBounds_toArray, List.set_cons_zero, List.set_cons_succ]
  refine wr_do 8 rfl (by kernel_rfl) (by rfl) (fun K hK => ?_)
  refine wp_call (f := 23) (args := #[.slice (some ⟨g, 0, none⟩) xs.length c, .int .i64 cc, .int .i64 (IntKind.i64.wrap (x - 1))]) (by kernel_rfl) (put10 (w := W1.drew) (HR1.out.fr (Fr.drew (Fr.refl [] _)) (by simp)) cc (IntKind.i64.wrap (x - 1)) (by omega) (by rw [Int.toNat_natCast]; exact hlt) hn) ?_
  rintro e w5 ⟨g5, d5, rfl, hR5, hg5, hF5⟩
  refine ⟨_, rfl, hK _ _ ?_⟩
  refine ⟨Still.off 8 (by kernel_rfl) (by kernel_rfl), ?_⟩
  try simp only [Act.put, List.setIfInBounds_toArray, List.set_cons_zero, List.set_cons_succ]
  refine wr_pure 9 _ rfl (by kernel_rfl) (by kernel_rfl) (by kernel_rfl) (fun _ _ _ h => h) (by kernel_rfl) (by rfl) (fun _ => by go_simp; try with_reducible rfl) ?_
  try simp only [Act.put, List.setIfInBounds_toArray, List.set_cons_zero, List.set_cons_succ]
  refine wr_done (by kernel_rfl) ?_ _
  rw [HSUB.out, Int.toNat_natCast] at hR5
  have hF5' : Fr [] W1 w5 := (Fr.drew (Fr.refl [] _)).trans hF5
  have hB3 := HB3.out.fr hF5' (by simp)
  have hB4 := HB4.out.fr hF5' (by simp)
  have hB6 := HB6.out.fr hF5' (by simp)
  have hG5 := HG.out.trans hF5'
  have hz5 : w.heap.size + 1 + 1 + 1 ≤ w5.heap.size := by have := hF5'.size; omega
  have hg6 : w.heap.size + 1 + 1 + 1 ≤ g5 := by have : W1.heap.size ≤ g5 := hg5; omega
  have d10 := hB4.cell (o := 10) (v := .int .i64 cc) rfl
  have k2 := hB3.cell (o := 2) (v := .bool false) rfl
  have f2 := hB3.free 2
  have HR5 := Lib.hid hR5
  have HL5 := Lib.hid (show (xs.set cc (x - 1)).length = xs.length by simp)
  have HX5 : Hid ((xs.set cc (x - 1))[cc]? = some (x - 1)) := Lib.hid (by rw [List.getElem?_set_self hlt])
  have H3 := Lib.hid hB3
  have H6 := Lib.hid hB6
  have HG5 := Lib.hid hG5
  clear hR5 hF5' hF5 hB3 hB4 hB6 hG5 hg5
  generalize hys : xs.set cc (x - 1) = ys at HR5 HL5 HX5 ⊢
  have HYS := Lib.hid hys
  clear hys
  rw [← HL5.out]
  go_wp2_with fail
  refine (load10 HR5.out cc (x - 1) (by omega) (by rw [Int.toNat_natCast]; exact HX5.out)).mono ?_
  rintro e w6 ⟨rfl, rfl⟩
  obtain ⟨lb, hlb⟩ : ∃ lb : Bool, (x - 1 == 0) = lb := ⟨_, rfl⟩
  rw [hlb]
  have hb3' := H3.out.set 2 (.bool lb)
  have hb6' := H6.out.away (c := w.heap.size) (o := 2) (by omega) (.bool lb)
  have hne5 : g5 ≠ w.heap.size := by omega
  have hR5' : Row64 (w5.setCell ⟨w.heap.size, 2, none⟩ (.bool lb)) g5 ys := HR5.out.fr (S := [w.heap.size]) ((Fr.refl _ _).setCell (by simp) _) (by simpa using hne5)
  have hG5' : Fr [] w (w5.setCell ⟨w.heap.size, 2, none⟩ (.bool lb)) := ((HG5.out.more (S' := [w.heap.size]) (by simp)).setCell (by simp) _).less (by simp)
  have H3' := Lib.hid hb3'
  have H6' := Lib.hid hb6'
  have HR5' := Lib.hid hR5'
  have HG5' := Lib.hid hG5'
  clear hb3' hb6' hR5' hG5'
  go_wp2_with (first | (refine wl_load rfl rfl rfl [.int .i64 2, .int .i64 own, .bool lb, .bool false] H3'.out Try.underlying49 rfl (by kernel_rfl) ?_) | (refine wl_store rfl rfl [.int .i64 2, .int .i64 own, .bool lb, .bool false] rfl rfl H6'.out (by kernel_rfl) rfl rfl ?_))
  have hys := HYS.out
  subst hys
  subst hlb
  refine ret_ct (T := 49) (cs := (RefS.mk 2 own (x - 1 == 0) false).cells) rfl rfl (H6'.out.row _) Try.underlying49 rfl (by kernel_rfl) rfl ⟨g5, d5, by rw [← HL5.out]; rfl, HR5'.out.otherRow (by omega) _, .inr (by omega), HG5'.out.setRow (.inr (by omega)) _⟩

set_option maxHeartbeats 1000000 in
theorem step14_wait (x0 x1 wk x3 x4 x5 x6 x7 x8 x9 x12 x13 : Int) (cc ss : Nat) (own : Int) (at_ : Nat) (h2 : 2 ≤ at_) (hat : at_ ≤ 1000000) (x : Int) (hx : xs[ss]? = some x) (hR : Row64 w g xs) (hn : xs.length ≤ 524288) :
    Calls Try.prog 13 #[.agg #[.int .i64 at_, .int .i64 own, .bool false, .bool false], .agg #[.int .i64 x0, .int .i64 x1, .int .i64 wk, .int .i64 x3, .int .i64 x4, .int .i64 x5, .int .i64 x6, .int .i64 x7, .int .i64 x8, .int .i64 x9, .int .i64 cc, .int .i64 ss, .int .i64 x12, .int .i64 x13], .slice (some ⟨g, 0, none⟩) xs.length c] w (RefPost g xs.length w (⟨at_ + 1, own, false, x == own⟩, xs)) := by
  have q1 : (((at_ : Int) + 1) == 1) = false := by simp; omega
  have q2 : (((at_ : Int) + 1) == 2) = false := by simp; omega
  have HR := Lib.hid hR
  have HX := Lib.hid hx
  clear hR hx
  go_enter Try.func13, Try.ntmps13
  go_upto_region 4 with (fail)
  have HB3 : Hid (Blk (((w.alloc (.cells #[.int .i64 ((at_ : Int) + 1), .int .i64 own, .bool false, .bool false] 49)).alloc (.cells #[.int .i64 x0, .int .i64 x1, .int .i64 wk, .int .i64 x3, .int .i64 x4, .int .i64 x5, .int .i64 x6, .int .i64 x7, .int .i64 x8, .int .i64 x9, .int .i64 cc, .int .i64 ss, .int .i64 x12, .int .i64 x13] 28)).alloc (.cells #[.int .i64 0, .int .i64 0, .bool false, .bool false] 49)) w.heap.size [.int .i64 ((at_ : Int) + 1), .int .i64 own, .bool false, .bool false] 49) := Lib.hid (((Blk.new_at (w := w) [.int .i64 ((at_ : Int) + 1), .int .i64 own, .bool false, .bool false] _ rfl).alloc _).alloc _)
  have HB4 : Hid (Blk (((w.alloc (.cells #[.int .i64 ((at_ : Int) + 1), .int .i64 own, .bool false, .bool false] 49)).alloc (.cells #[.int .i64 x0, .int .i64 x1, .int .i64 wk, .int .i64 x3, .int .i64 x4, .int .i64 x5, .int .i64 x6, .int .i64 x7, .int .i64 x8, .int .i64 x9, .int .i64 cc, .int .i64 ss, .int .i64 x12, .int .i64 x13] 28)).alloc (.cells #[.int .i64 0, .int .i64 0, .bool false, .bool false] 49)) (w.heap.size + 1) [.int .i64 x0, .int .i64 x1, .int .i64 wk, .int .i64 x3, .int .i64 x4, .int .i64 x5, .int .i64 x6, .int .i64 x7, .int .i64 x8, .int .i64 x9, .int .i64 cc, .int .i64 ss, .int .i64 x12, .int .i64 x13] 28) := Lib.hid ((Blk.new_at [.int .i64 x0, .int .i64 x1, .int .i64 wk, .int .i64 x3, .int .i64 x4, .int .i64 x5, .int .i64 x6, .int .i64 x7, .int .i64 x8, .int .i64 x9, .int .i64 cc, .int .i64 ss, .int .i64 x12, .int .i64 x13] _ (by simp)).alloc _)
  have HB6 : Hid (Blk (((w.alloc (.cells #[.int .i64 ((at_ : Int) + 1), .int .i64 own, .bool false, .bool false] 49)).alloc (.cells #[.int .i64 x0, .int .i64 x1, .int .i64 wk, .int .i64 x3, .int .i64 x4, .int .i64 x5, .int .i64 x6, .int .i64 x7, .int .i64 x8, .int .i64 x9, .int .i64 cc, .int .i64 ss, .int .i64 x12, .int .i64 x13] 28)).alloc (.cells #[.int .i64 0, .int .i64 0, .bool false, .bool false] 49)) (w.heap.size + 1 + 1) [.int .i64 0, .int .i64 0, .bool false, .bool false] 49) := Lib.hid (Blk.new_at [.int .i64 0, .int .i64 0, .bool false, .bool false] _ (by simp))
  have HG : Hid (Fr [] w (((w.alloc (.cells #[.int .i64 ((at_ : Int) + 1), .int .i64 own, .bool false, .bool false] 49)).alloc (.cells #[.int .i64 x0, .int .i64 x1, .int .i64 wk, .int .i64 x3, .int .i64 x4, .int .i64 x5, .int .i64 x6, .int .i64 x7, .int .i64 x8, .int .i64 x9, .int .i64 cc, .int .i64 ss, .int .i64 x12, .int .i64 x13] 28)).alloc (.cells #[.int .i64 0, .int .i64 0, .bool false, .bool false] 49))) := Lib.hid ((((Fr.refl [] _).alloc _).alloc _).alloc _)
  have HR1 : Hid (Row64 (((w.alloc (.cells #[.int .i64 ((at_ : Int) + 1), .int .i64 own, .bool false, .bool false] 49)).alloc (.cells #[.int .i64 x0, .int .i64 x1, .int .i64 wk, .int .i64 x3, .int .i64 x4, .int .i64 x5, .int .i64 x6, .int .i64 x7, .int .i64 x8, .int .i64 x9, .int .i64 cc, .int .i64 ss, .int .i64 x12, .int .i64 x13] 28)).alloc (.cells #[.int .i64 0, .int .i64 0, .bool false, .bool false] 49)) g xs) := Lib.hid (HR.out.fr HG.out (by simp))
  have hz1 : (((w.alloc (.cells #[.int .i64 ((at_ : Int) + 1), .int .i64 own, .bool false, .bool false] 49)).alloc (.cells #[.int .i64 x0, .int .i64 x1, .int .i64 wk, .int .i64 x3, .int .i64 x4, .int .i64 x5, .int .i64 x6, .int .i64 x7, .int .i64 x8, .int .i64 x9, .int .i64 cc, .int .i64 ss, .int .i64 x12, .int .i64 x13] 28)).alloc (.cells #[.int .i64 0, .int .i64 0, .bool false, .bool false] 49)).heap.size = w.heap.size + 1 + 1 + 1 := by simp
  have hz2 : w.heap.size + 1 + 1 + 1 ≤ (((w.alloc (.cells #[.int .i64 ((at_ : Int) + 1), .int .i64 own, .bool false, .bool false] 49)).alloc (.cells #[.int .i64 x0, .int .i64 x1, .int .i64 wk, .int .i64 x3, .int .i64 x4, .int .i64 x5, .int .i64 x6, .int .i64 x7, .int .i64 x8, .int .i64 x9, .int .i64 cc, .int .i64 ss, .int .i64 x12, .int .i64 x13] 28)).alloc (.cells #[.int .i64 0, .int .i64 0, .bool false, .bool false] 49)).heap.size := by omega
  clear hz1
  generalize ((w.alloc (.cells #[.int .i64 ((at_ : Int) + 1), .int .i64 own, .bool false, .bool false] 49)).alloc (.cells #[.int .i64 x0, .int .i64 x1, .int .i64 wk, .int .i64 x3, .int .i64 x4, .int .i64 x5, .int .i64 x6, .int .i64 x7, .int .i64 x8, .int .i64 x9, .int .i64 cc, .int .i64 ss, .int .i64 x12, .int .i64 x13] 28)).alloc (.cells #[.int .i64 0, .int .i64 0, .bool false, .bool false] 49) = W1 at HB3 HB4 HB6 HG HR1 hz2 ⊢
  have c11 := HB4.out.cell (o := 11) (v := .int .i64 ss) rfl
  have k1 := HB3.out.cell (o := 1) (v := .int .i64 own) rfl
  have k3 := HB3.out.cell (o := 3) (v := .bool false) rfl
  have f3 := HB3.out.free 3
  refine wr_begin [8] (fun W => W.cell? ⟨w.heap.size + 1, 11, none⟩ = some (.int .i64 ss) ∧ W.cell? ⟨w.heap.size, 1, none⟩ = some (.int .i64 own)) (by kernel_rfl) (by exact ⟨c11, k1⟩) ?_
  refine wr_pure 0 _ rfl (by kernel_rfl) (by kernel_rfl) (by kernel_rfl) (fun _ _ _ h => h) (by kernel_rfl) (by rfl) (fun _ => by go_simp; try with_reducible rfl) ?_
  try simp only [Act.put, List.setIfInBounds_toArray, List.set_cons_zero, List.set_cons_succ]
  refine wr_pure 1 _ rfl (by kernel_rfl) (by kernel_rfl) (by kernel_rfl) (fun _ _ _ h => h) (by kernel_rfl) (by rfl) (fun _ => by go_simp; try with_reducible rfl) ?_
  try simp only [Act.put, List.setIfInBounds_toArray, List.set_cons_zero, List.set_cons_succ]
  refine wr_read 2 _ rfl (by kernel_rfl) (by kernel_rfl) (by kernel_rfl) (fun _ _ _ h => h) (by kernel_rfl) (by kernel_rfl) (by rfl) (fun _ hF => by have hF1 := hF.1; clear hF; go_simp; try with_reducible rfl) ?_
  try simp only [Act.put, List.setIfInBounds_toArray, List.set_cons_zero, List.set_cons_succ]
  refine wr_pure 4 _ rfl (by kernel_rfl) (by kernel_rfl) (by kernel_rfl) (fun _ _ _ h => h) (by kernel_rfl) (by rfl) (fun _ => by go_simp; try with_reducible rfl) ?_
  try simp only [Act.put, List.setIfInBounds_toArray, List.set_cons_zero, List.set_cons_succ]
  refine wr_read 5 _ rfl (by kernel_rfl) (by kernel_rfl) (by kernel_rfl) (fun _ _ _ h => h) (by kernel_rfl) (by kernel_rfl) (by rfl) (fun _ hF => by have hF1 := hF.2; clear hF; go_simp; try with_reducible rfl) ?_
  try simp only [Act.put, List.setIfInBounds_toArray, List.set_cons_zero, List.set_cons_succ]
  refine wr_do 3 rfl (by kernel_rfl) (by rfl) (fun K hK => ?_)
  refine wp_call (f := 24) (args := #[.slice (some ⟨g, 0, none⟩) xs.length c, .int .i64 ss]) (by kernel_rfl) (load10 (w := W1.drew) (HR1.out.fr (Fr.drew (Fr.refl [] _)) (by simp)) ss x (by omega) (by rw [Int.toNat_natCast]; exact HX.out)) ?_
  rintro e w2 ⟨rfl, rfl⟩
  refine ⟨_, rfl, hK _ _ ?_⟩
  refine ⟨fun _ => ⟨c11, k1⟩, ?_⟩
  try simp only [Act.put, List.setIfInBounds_toArray, List.set_cons_zero, List.set_cons_succ]
  refine wr_pure 6 _ rfl (by kernel_rfl) (by kernel_rfl) (by kernel_rfl) (fun _ _ _ h => h) (by kernel_rfl) (by rfl) (fun _ => by go_simp; try with_reducible rfl) ?_
  try simp only [Act.put, List.setIfInBounds_toArray, List.set_cons_zero, List.set_cons_succ]
  refine wr_pure 7 _ rfl (by kernel_rfl) (by kernel_rfl) (by kernel_rfl) (fun _ _ _ h => h) (by kernel_rfl) (by rfl) (fun _ => by go_simp; try with_reducible rfl) ?_
  try simp only [Act.put, List.setIfInBounds_toArray, List.set_cons_zero, List.set_cons_succ]
  refine wr_do 8 rfl (by kernel_rfl) (by rfl) (fun K hK => ?_)
  go_wp2_with fail
  refine ⟨Still.off 8 (by kernel_rfl) (by kernel_rfl), ?_⟩
  try simp only [Act.put, List.setIfInBounds_toArray, List.set_cons_zero, List.set_cons_succ]
  refine wr_done (by kernel_rfl) ?_ _
  obtain ⟨db, hdb⟩ : ∃ db : Bool, (x == own) = db := ⟨_, rfl⟩
  rw [hdb]
  have hb3' : Blk (W1.setCell ⟨w.heap.size, 3, none⟩ (.bool db)).drew w.heap.size [.int .i64 ((at_ : Int) + 1), .int .i64 own, .bool false, .bool db] _ := ((HB3.out).set 3 (.bool db)).drew
  have hb6' := ((HB6.out).away (c := w.heap.size) (o := 3) (by omega) (.bool db)).drew
  have hR5' : Row64 (W1.setCell ⟨w.heap.size, 3, none⟩ (.bool db)).drew g xs := HR1.out.fr (S := [w.heap.size]) (Fr.drew ((Fr.refl _ _).setCell (by simp) _)) (by have := HR.out.lt; simp; omega)
  have hG5' : Fr [] w (W1.setCell ⟨w.heap.size, 3, none⟩ (.bool db)).drew := (Fr.drew ((HG.out.more (S' := [w.heap.size]) (by simp)).setCell (by simp) _)).less (by simp)
  have hz5 : w.heap.size + 1 + 1 + 1 ≤ (W1.setCell ⟨w.heap.size, 3, none⟩ (.bool db)).drew.heap.size := by simpa [World.setCell, World.drew] using hz2
  generalize (W1.setCell ⟨w.heap.size, 3, none⟩ (.bool db)).drew = w5 at hb3' hb6' hR5' hG5' hz5 ⊢
  have H3' := Lib.hid hb3'
  have H6' := Lib.hid hb6'
  have HR5' := Lib.hid hR5'
  have HG5' := Lib.hid hG5'
  have hgl := HR.out.lt
  have HDB := Lib.hid hdb
  clear hb3' hb6' hR5' hG5' hdb
  go_wp2_with (first | (refine wl_load rfl rfl rfl [.int .i64 ((at_ : Int) + 1), .int .i64 own, .bool false, .bool db] H3'.out Try.underlying49 rfl (by kernel_rfl) ?_) | (refine wl_store rfl rfl [.int .i64 ((at_ : Int) + 1), .int .i64 own, .bool false, .bool db] rfl rfl H6'.out (by kernel_rfl) rfl rfl ?_))
  obtain rfl := HDB.out
  refine ret_ct (T := 49) (cs := [.int .i64 ((at_ : Int) + 1), .int .i64 own, .bool false, .bool (x == own)]) rfl rfl (H6'.out.row _) Try.underlying49 rfl (by kernel_rfl) rfl ⟨g, c, ?_, HR5'.out.otherRow (by omega) _, .inl rfl, HG5'.out.setRow (.inr (by omega)) _⟩
  simp [RefS.cells]

end
end Acq
