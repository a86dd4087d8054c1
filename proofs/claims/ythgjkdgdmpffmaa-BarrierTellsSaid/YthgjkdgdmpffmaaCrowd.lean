/- The contracts of the law's crowd: crowded and step. -/
import Derived.Test.YthgjkdgdmpffmaaBarBank
import Derived.Test.YthgjkdgdmpffmaaBarStep
import Derived.Test.YthgjkdgdmpffmaaRegion
import Derived.Deep.AppendLies
import Derived.Deep.DeepCutAuto
set_option linter.unusedSimpArgs false
set_option linter.unusedVariables false
namespace Acq
open Go Go.RowKit Go.Proofs

theorem infoInt : (Try.prog.info? 3).map (fun i => (i.zero.map Value.cells, i.size, i.bytes)) = some (some #[.int .i64 0], 1, 8) := by kernel_rfl

theorem infoArr : (Try.prog.info? 46).map (fun i => (i.zero, i.size, i.bytes)) = some (some (.agg #[.int .i64 0, .int .i64 0, .int .i64 0, .int .i64 0, .int .i64 0, .int .i64 0, .int .i64 0, .int .i64 0, .int .i64 0, .int .i64 0, .int .i64 0, .int .i64 0, .int .i64 0, .int .i64 0, .int .u8 0, .int .i64 0, .bool false]), 17, 136) := by kernel_rfl

/-- So many Arrives, one behind the other. -/
def arrs (k : Nat) (ls : List Value) : List Value := (List.replicate k (ls ++ [.int .u8 0, .int .i64 0, .bool false])).flatten

theorem arrs_succ (k : Nat) (ls : List Value) : arrs (k + 1) ls = arrs k ls ++ (ls ++ [.int .u8 0, .int .i64 0, .bool false]) := by
  simp [arrs, List.replicate_succ']

/-- A crowd in memory: where it lies, its layout's cells, the bank's, the Arrives' cells, how often each began and was done, and how often each was the last one. -/
structure CM (w : World) (base pc pb ab nb bb db : Nat) (ls : List Value) (n : Nat) (vals : List Int) (A : List Value) (began done : List Nat) (lv : Value) (lasts : List Nat) : Prop where
  crowd : ∃ capn, Blk w pc (ls ++ [.pointer (some ⟨pb, 0, none⟩), .slice (some ⟨nb, 0, none⟩) n capn, .slice (some ⟨bb, 0, none⟩) n n, .slice (some ⟨db, 0, none⟩) n n, lv]) 33
  bank : Bank w pb ab vals
  now : Blk w nb A 46
  beg : Blk w bb (began.map i64) 3
  don : Blk w db (done.map i64) 3
  las : w.ownsRow base 3 1 lv lasts.length (lasts.map i64)
  lo : ∀ q, lv.ownBlock = some q → q ∉ [pc, pb, ab, nb, bb, db]
  dis : [pc, pb, ab, nb, bb, db].Nodup
  ge : ∀ q ∈ [pc, pb, ab, nb, bb, db], base ≤ q

def CrowdedPost (n : Nat) (ls : List Value) (B : List Int) (w : World) (e : Ending) (w' : World) : Prop :=
  ∃ pc pb ab nb bb db A, e = .returned (.tuple #[.pointer (some ⟨pc, 0, none⟩), .bool true]) ∧
    CM w' w.heap.size pc pb ab nb bb db ls n B A (List.replicate n 0) (List.replicate n 0) (.slice none 0 0) [] ∧ A.take (n * 17) = arrs n ls ∧ Fr [] w w'

def CR (n pc pb bb db : Nat) (wc : World) (ls : List Value) (i : Value) (wr : World) : Prop :=
  ∃ (k : Nat) (v : Value), k ≤ n ∧ i = .int .i64 k ∧ Blk wr pc (ls ++ [.pointer (some ⟨pb, 0, none⟩), v, .slice (some ⟨bb, 0, none⟩) n n, .slice (some ⟨db, 0, none⟩) n n, .slice none 0 0]) 33 ∧
    wr.ownsRow wc.heap.size 46 17 v k (arrs k ls) ∧ Fr [pc] wc wr

theorem crowded_core (n : Nat) (x0 x1 x2 x3 x4 x5 x6 x7 x8 x9 x10 x11 x12 x13 : Int) (hn : 1 ≤ n) (hn2 : n ≤ 64) (B : List Int) (w : World)
    (hbank : ∀ W, Calls Try.prog 10 #[.int .i64 n] W fun e w' => ∃ pb ab, e = .returned (.tuple #[.agg #[.int .i64 x0, .int .i64 x1, .int .i64 x2, .int .i64 x3, .int .i64 x4, .int .i64 x5, .int .i64 x6, .int .i64 x7, .int .i64 x8, .int .i64 x9, .int .i64 x10, .int .i64 x11, .int .i64 x12, .int .i64 x13], .pointer (some ⟨pb, 0, none⟩), .bool true]) ∧ Bank w' pb ab B ∧ W.heap.size ≤ pb ∧ W.heap.size ≤ ab ∧ Fr [] W w') :
    Calls Try.prog 6 #[.int .i64 n] w (CrowdedPost n [.int .i64 x0, .int .i64 x1, .int .i64 x2, .int .i64 x3, .int .i64 x4, .int .i64 x5, .int .i64 x6, .int .i64 x7, .int .i64 x8, .int .i64 x9, .int .i64 x10, .int .i64 x11, .int .i64 x12, .int .i64 x13] B w) := by
  obtain ⟨i0, hi0, hz0, hz1, hz2⟩ := info_parts infoArr
  have HI := Lib.hid (And.intro hi0 (And.intro hz0 (And.intro hz1 hz2)))
  clear hi0 hz0 hz1 hz2
  have H3 := Lib.hid hbank
  clear hbank
  have hmk := run_mk (P := Try.prog) Try.underlying31 infoInt (by omega) n (by omega)
  go_enter Try.func6, Try.ntmps6
  go_wp2_with fail
  refine (H3.out _).mono ?_
  rintro e w1 ⟨pb, ab, rfl, hB1, hp1, ha1, hF1⟩
  go_wp2_with (first | (refine wl_store_new rfl rfl [.int .i64 x0, .int .i64 x1, .int .i64 x2, .int .i64 x3, .int .i64 x4, .int .i64 x5, .int .i64 x6, .int .i64 x7, .int .i64 x8, .int .i64 x9, .int .i64 x10, .int .i64 x11, .int .i64 x12, .int .i64 x13] (by simp) rfl rfl (by kernel_rfl) rfl rfl ?_))
  have hbl := hB1.lt
  go_cut [7] (fun s7 wx => ∃ pc bb db : Nat, s7 = .pointer (some ⟨pc, 0, none⟩) ∧ Blk wx pc [.int .i64 x0, .int .i64 x1, .int .i64 x2, .int .i64 x3, .int .i64 x4, .int .i64 x5, .int .i64 x6, .int .i64 x7, .int .i64 x8, .int .i64 x9, .int .i64 x10, .int .i64 x11, .int .i64 x12, .int .i64 x13, .pointer (some ⟨pb, 0, none⟩), .slice none 0 0, .slice (some ⟨bb, 0, none⟩) n n, .slice (some ⟨db, 0, none⟩) n n, .slice none 0 0] 33 ∧
      Blk wx bb (List.replicate n (.int .i64 0)) 3 ∧ Blk wx db (List.replicate n (.int .i64 0)) 3 ∧ w1.heap.size < bb ∧ w1.heap.size < db ∧ bb ≠ db ∧ bb < pc ∧ db < pc ∧ Fr [] (w1.alloc (.cells #[.int .i64 x0, .int .i64 x1, .int .i64 x2, .int .i64 x3, .int .i64 x4, .int .i64 x5, .int .i64 x6, .int .i64 x7, .int .i64 x8, .int .i64 x9, .int .i64 x10, .int .i64 x11, .int .i64 x12, .int .i64 x13] 28)) wx)
  case first =>
    go_region
    · go_wp2_with fail
      go_meet
      exact ⟨w1.heap.size + 1 + 1 + 1, w1.heap.size + 1, w1.heap.size + 1 + 1, rfl, Blk.drew (Blk.new_at _ _ (by simp)), Blk.drew (Blk.alloc (Blk.alloc (Blk.new_rep _ _ _ (by simp)) _) _), Blk.drew (Blk.alloc (Blk.new_rep _ _ _ (by simp)) _),
        by omega, by omega, by omega, by omega, by omega, Fr.drew (Fr.alloc (Fr.alloc (Fr.alloc (Fr.refl _ _) _) _) _)⟩
    · go_wp2_with fail
      go_meet
      exact ⟨w1.heap.size + 1 + 1 + 1, w1.heap.size + 1 + 1, w1.heap.size + 1, rfl, Blk.drew (Blk.new_at _ _ (by simp)), Blk.drew (Blk.alloc (Blk.new_rep _ _ _ (by simp)) _), Blk.drew (Blk.alloc (Blk.alloc (Blk.new_rep _ _ _ (by simp)) _) _),
        by omega, by omega, by omega, by omega, by omega, Fr.drew (Fr.alloc (Fr.alloc (Fr.alloc (Fr.refl _ _) _) _) _)⟩
  case rest =>
    obtain ⟨pc, bb, db, rfl, hC, hb, hd, hlb, hld, hbd, hbp, hdp, hF2⟩ := hcut
    have hB2 := (hB1.alloc (.cells #[.int .i64 x0, .int .i64 x1, .int .i64 x2, .int .i64 x3, .int .i64 x4, .int .i64 x5, .int .i64 x6, .int .i64 x7, .int .i64 x8, .int .i64 x9, .int .i64 x10, .int .i64 x11, .int .i64 x12, .int .i64 x13] 28)).fr hF2 (by simp) (by simp)
    have hl2 := (Blk.new w1 [.int .i64 x0, .int .i64 x1, .int .i64 x2, .int .i64 x3, .int .i64 x4, .int .i64 x5, .int .i64 x6, .int .i64 x7, .int .i64 x8, .int .i64 x9, .int .i64 x10, .int .i64 x11, .int .i64 x12, .int .i64 x13] 28).fr hF2 (by simp)
    have hG2 := (((hF1.alloc (.cells #[.int .i64 x0, .int .i64 x1, .int .i64 x2, .int .i64 x3, .int .i64 x4, .int .i64 x5, .int .i64 x6, .int .i64 x7, .int .i64 x8, .int .i64 x9, .int .i64 x10, .int .i64 x11, .int .i64 x12, .int .i64 x13] 28))).trans hF2)
    have hsz2 : w1.heap.size + 1 ≤ wc.heap.size := by have := hF2.size; rwa [World.size_alloc] at this
    have hpc := hC.lt
    have hsz1 := hF1.size
    clear hF1 hF2 hmk
    go_wp2_with fail
    go_loopw [23] (fun i wr => CR n pc pb bb db wc [.int .i64 x0, .int .i64 x1, .int .i64 x2, .int .i64 x3, .int .i64 x4, .int .i64 x5, .int .i64 x6, .int .i64 x7, .int .i64 x8, .int .i64 x9, .int .i64 x10, .int .i64 x11, .int .i64 x12, .int .i64 x13] i wr) (fun i _ => n - (intOf i).toNat)
    case atStart => exact ⟨0, .slice none 0 0, Nat.zero_le _, rfl, hC, World.ownsRow_nil _ _ _ _, Fr.refl _ _⟩
    case round =>
      obtain ⟨k, v, hk, rfl, hCr, hown, hFr⟩ := hrel
      have hlr := hl2.fr hFr (by simp; omega)
      have hsz := hFr.size
      by_cases hkn : k < n
      · have c15 := hCr.cell (o := 15) rfl
        have f15 := hCr.free 15
        obtain ⟨hi0, hz0, hz1, hz2⟩ := HI.out
        go_wp2_with fail
        refine wr_begin [11] (fun W => W.cell? ⟨pc, 15, none⟩ = some v ∧ Blk W w1.heap.size [.int .i64 x0, .int .i64 x1, .int .i64 x2, .int .i64 x3, .int .i64 x4, .int .i64 x5, .int .i64 x6, .int .i64 x7, .int .i64 x8, .int .i64 x9, .int .i64 x10, .int .i64 x11, .int .i64 x12, .int .i64 x13] 28) (by kernel_rfl) (⟨c15, hlr.drew⟩) ?_
        refine wr_pure 0 _ rfl (by kernel_rfl) (by kernel_rfl) (by kernel_rfl) (fun _ _ _ h => h) (by kernel_rfl) (by rfl) (fun _ => by go_simp; try with_reducible rfl) ?_
        try simp only [Act.put, List.setIfInBounds_toArray, List.set_cons_zero, List.set_cons_succ]
        refine wr_pure 1 _ rfl (by kernel_rfl) (by kernel_rfl) (by kernel_rfl) (fun _ _ _ h => h) (by kernel_rfl) (by rfl) (fun _ => by go_simp; try with_reducible rfl) ?_
        try simp only [Act.put, List.setIfInBounds_toArray, List.set_cons_zero, List.set_cons_succ]
        refine wr_pure 2 _ rfl (by kernel_rfl) (by kernel_rfl) (by kernel_rfl) (fun _ _ _ h => h) (by kernel_rfl) (by rfl) (fun _ => by go_simp; try with_reducible rfl) ?_
        try simp only [Act.put, List.setIfInBounds_toArray, List.set_cons_zero, List.set_cons_succ]
        refine wr_pure 3 _ rfl (by kernel_rfl) (by kernel_rfl) (by kernel_rfl) (fun _ _ _ h => h) (by kernel_rfl) (by rfl) (fun _ => by go_simp; try with_reducible rfl) ?_
        try simp only [Act.put, List.setIfInBounds_toArray, List.set_cons_zero, List.set_cons_succ]
        refine wr_read 4 _ rfl (by kernel_rfl) (by kernel_rfl) (by kernel_rfl) (fun _ _ _ h => h) (by kernel_rfl) (by kernel_rfl) (by rfl) (fun _ hF => by have hF1 := hF.1; clear hF; go_simp; try with_reducible rfl) ?_
        try simp only [Act.put, List.setIfInBounds_toArray, List.set_cons_zero, List.set_cons_succ]
        refine wr_read 5 _ rfl (by kernel_rfl) (by kernel_rfl) (by kernel_rfl) (fun _ _ _ h => h) (by kernel_rfl) (by kernel_rfl) (by rfl) (fun _ hF => exec_load_row rfl rfl hF.2 Try.underlying28 rfl (by kernel_rfl)) ?_
        try simp only [Act.put, List.setIfInBounds_toArray, List.set_cons_zero, List.set_cons_succ]
        refine wr_do 6 rfl (by kernel_rfl) (by rfl) (fun K hK => ?_)
        go_wp2_with (go_at_call 12; refine (NewArrive_lit x0 x1 x2 x3 x4 x5 x6 x7 x8 x9 x10 x11 x12 x13 _).mono ?_; rintro e w3 ⟨rfl, hF3⟩)
        have c3 := hF3.cell (p := ⟨pc, 15, none⟩) c15 (by simp)
        have hl3 := Blk.fr hlr.drew hF3 (by simp)
        have hC3 := Blk.fr hCr.drew hF3 (by simp)
        have hown3 := ownsRow_fr (hown.drew) hF3 (by simp)
        have hsz3 : wr.heap.size ≤ w3.heap.size := hF3.size
        refine ⟨fun _ => ⟨c3, hl3⟩, ?_⟩
        try simp only [Act.put, List.setIfInBounds_toArray, List.set_cons_zero, List.set_cons_succ]
        refine wr_do 7 rfl (by kernel_rfl) (by rfl) (fun K hK => ?_)
        refine wp_run (v := .slice (some ⟨w3.heap.size, 0, none⟩) 1 1) (w' := w3.alloc (.cells #[.int .i64 x0, .int .i64 x1, .int .i64 x2, .int .i64 x3, .int .i64 x4, .int .i64 x5, .int .i64 x6, .int .i64 x7, .int .i64 x8, .int .i64 x9, .int .i64 x10, .int .i64 x11, .int .i64 x12, .int .i64 x13, .int .u8 0, .int .i64 0, .bool false] 46)) (by kernel_rfl) (hK _ _ ⟨fun _ => ⟨?_, hl3.alloc _⟩, ?_⟩)
        · exact (hC3.alloc _).cell rfl
        try simp only [Act.put, List.setIfInBounds_toArray, List.set_cons_zero, List.set_cons_succ]
        refine wr_do 8 rfl (by kernel_rfl) (by rfl) (fun K hK => ?_)
        refine wp_append_lies _ _ _ _ rfl wc.heap.size 46 i0 _ 17 136 Try.underlying30 hi0 hz0 hz1 hz2 rfl (by omega) v k _ rfl (hown3.alloc _) ⟨w3.heap.size, 0, none⟩ 1 1 [.int .i64 x0, .int .i64 x1, .int .i64 x2, .int .i64 x3, .int .i64 x4, .int .i64 x5, .int .i64 x6, .int .i64 x7, .int .i64 x8, .int .i64 x9, .int .i64 x10, .int .i64 x11, .int .i64 x12, .int .i64 x13, .int .u8 0, .int .i64 0, .bool false] rfl rfl (World.news_of_block (heap_alloc_new w3 _)) (by simp [Value.oneCell']) (by omega) (by unfold maxLen; omega) (by omega) (by rw [World.size_alloc]; omega) (w3.heap.size + 1) (by simp) ?_
        intro g cap w4 hown4 hgr4 hat4 hlt4
        have hbo : ∀ q, v.ownBlock = some q → wc.heap.size ≤ q := fun q hq => (hown.lt q hq).1
        have hgF : Fr v.ownBlock.toList (w3.alloc (.cells #[.int .i64 x0, .int .i64 x1, .int .i64 x2, .int .i64 x3, .int .i64 x4, .int .i64 x5, .int .i64 x6, .int .i64 x7, .int .i64 x8, .int .i64 x9, .int .i64 x10, .int .i64 x11, .int .i64 x12, .int .i64 x13, .int .u8 0, .int .i64 0, .bool false] 46)) w4 := Fr.of_grown hgr4 (by simp)
        have hC4 := (hC3.alloc (.cells #[.int .i64 x0, .int .i64 x1, .int .i64 x2, .int .i64 x3, .int .i64 x4, .int .i64 x5, .int .i64 x6, .int .i64 x7, .int .i64 x8, .int .i64 x9, .int .i64 x10, .int .i64 x11, .int .i64 x12, .int .i64 x13, .int .u8 0, .int .i64 0, .bool false] 46)).fr hgF (by intro hm; have := hbo pc (by simpa using hm); omega)
        have hl4 := (hl3.alloc (.cells #[.int .i64 x0, .int .i64 x1, .int .i64 x2, .int .i64 x3, .int .i64 x4, .int .i64 x5, .int .i64 x6, .int .i64 x7, .int .i64 x8, .int .i64 x9, .int .i64 x10, .int .i64 x11, .int .i64 x12, .int .i64 x13, .int .u8 0, .int .i64 0, .bool false] 46)).fr hgF (by intro hm; have := hbo w1.heap.size (by simpa using hm); omega)
        have hF4 : Fr [pc] wc w4 := by
          have h1 := ((hFr.drew.trans (hF3.more (by simp))).alloc (.cells #[.int .i64 x0, .int .i64 x1, .int .i64 x2, .int .i64 x3, .int .i64 x4, .int .i64 x5, .int .i64 x6, .int .i64 x7, .int .i64 x8, .int .i64 x9, .int .i64 x10, .int .i64 x11, .int .i64 x12, .int .i64 x13, .int .u8 0, .int .i64 0, .bool false] 46)).more (S' := pc :: v.ownBlock.toList) (by simp)
          refine (h1.trans (hgF.more (fun x hx => List.mem_cons_of_mem _ hx))).less ?_
          intro x hx hn
          rcases List.mem_cons.1 hx with rfl | hx
          · exact (hn (by simp)).elim
          · exact hbo x (by simpa using hx)
        have hgp : g ≠ pc := by
          rintro rfl
          rcases hat4 with h | h
          · have := hbo _ h; omega
          · omega
        have c4 := hC4.cell (o := 15) (v := v) rfl
        have f4 := hC4.free 15
        clear hgF hgr4 hat4 hbo hown3 hC3 hl3 hF3
        refine hK _ _ ⟨fun _ => ⟨c4, hl4⟩, ?_⟩
        try simp only [Act.put, List.setIfInBounds_toArray, List.set_cons_zero, List.set_cons_succ]
        refine wr_pure 9 _ rfl (by kernel_rfl) (by kernel_rfl) (by kernel_rfl) (fun _ _ _ h => h) (by kernel_rfl) (by rfl) (fun _ => by go_simp; try with_reducible rfl) ?_
        try simp only [Act.put, List.setIfInBounds_toArray, List.set_cons_zero, List.set_cons_succ]
        refine wr_pure 10 _ rfl (by kernel_rfl) (by kernel_rfl) (by kernel_rfl) (fun _ _ _ h => h) (by kernel_rfl) (by rfl) (fun _ => by go_simp; try with_reducible rfl) ?_
        try simp only [Act.put, List.setIfInBounds_toArray, List.set_cons_zero, List.set_cons_succ]
        refine wr_do 11 rfl (by kernel_rfl) (by rfl) (fun K hK => ?_)
        go_wp2_with fail
        refine ⟨Still.off 11 (by kernel_rfl) (by kernel_rfl), ?_⟩
        try simp only [Act.put, List.setIfInBounds_toArray, List.set_cons_zero, List.set_cons_succ]
        refine wr_done (by kernel_rfl) ?_ _
        go_wp2_with fail
        go_roundw
        case rel =>
          refine ⟨k + 1, .slice (some ⟨g, 0, none⟩) (k + 1) cap, by omega, by go_num, (hC4.set 15 _).cast rfl, ?_, hF4.setCell (by simp) _⟩
          rw [arrs_succ]
          exact ownsRow_setCell_other hown4 (by simp [Value.ownBlock, hgp]) _
        case measure => simp [intOf]; omega
      · obtain rfl : k = n := by omega
        have hBr := hB2.fr hFr (by simp; omega) (by simp; omega)
        have hbr := hb.fr hFr (by simp; omega)
        have hdr := hd.fr hFr (by simp; omega)
        have hsw : w.heap.size ≤ w1.heap.size := hsz1
        obtain ⟨nb, cap, rfl, hnb, hnlt⟩ := hown.form (by omega)
        go_wp2_with fail
        go_ret2
        rcases hown.2 with ⟨h0, _⟩ | ⟨q, cap', cur, hv, hq, hheap, hle, hmax, hcs, htake⟩
        · cases h0
        · cases hv
          refine ⟨pc, pb, ab, nb, bb, db, cur.toList, rfl, ⟨⟨cap, hCr⟩, hBr, ?_, ?_, ?_, World.ownsRow_nil _ _ _ _, by simp [Value.ownBlock], ?_, ?_⟩, htake, ?_⟩
          · unfold Blk; simpa using hheap
          · rw [List.map_replicate]; exact hbr
          · rw [List.map_replicate]; exact hdr
          · have := hB1.1
            simp; omega
          · simp; omega
          · exact ((hG2.more (S' := [pc]) (by simp)).trans hFr).less (by simp; omega)

end Acq
