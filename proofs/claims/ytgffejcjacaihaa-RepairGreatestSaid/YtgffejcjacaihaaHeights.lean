/- acequialaw06.Heights: heights out of any numbers. -/
import Derived.Test.YtgffejcjacaihaaHelp
set_option linter.unusedSimpArgs false
set_option linter.unnecessarySimpa false
set_option linter.unusedVariables false
namespace Acq
open Go Go.RowKit Go.Proofs

def HeightsOk (N S T : Nat) (w : World) (e : Ending) (w' : World) : Prop := ∃ g h, e = .returned (.slice (some ⟨g, 0, none⟩) N N) ∧ (h.length = N ∧ (∀ k ∈ h, 0 ≤ k ∧ k ≤ (N : Int)) ∧ h[T]? = some 0 ∧ h[S]? = some (N : Int)) ∧ Blk w' g (ints h) 3 ∧ w.heap.size ≤ g ∧ Fr [] w w'

theorem ints_set (h : List Int) (i : Nat) (x : Int) : (ints h).set i (.int .i64 x) = ints (h.set i x) := by rw [ints, ints, List.map_set]

set_option maxRecDepth 100000 in
set_option maxHeartbeats 2000000 in
theorem heights_core (N S T : Nat) (r3 r4 r5 r6 r7 r8 : Value) (A : Option Addr) (c : Nat) (l : List Int) (w : World) (hN : 2 ≤ N) (hN2 : N ≤ 16) (hS : S < N) (hT : T < N) (hST : S ≠ T) (hA : SlI w A l) (hl : ∀ x ∈ l, -9223372036854775808 ≤ x ∧ x ≤ 9223372036854775807) (hlm : l.length ≤ 9223372036854775807) :
    Calls Try.prog 9 #[.agg #[.int .i64 N, .int .i64 S, .int .i64 T, r3, r4, r5, r6, r7, r8], .slice A l.length c] w (HeightsOk N S T w) := by
  have HB := Lib.hid (Blk.new w [.int .i64 N, .int .i64 S, .int .i64 T, r3, r4, r5, r6, r7, r8] 29)
  have HA := Lib.hid hA
  have HL := Lib.hid hl
  have hmk := run_mk (P := Try.prog) Try.underlying26 infoIntC (by omega) N (by omega) (w.alloc (.cells #[.int .i64 N, .int .i64 S, .int .i64 T, r3, r4, r5, r6, r7, r8] 29))
  clear hA hl
  go_enter Try.func9, Try.ntmps9
  go_upto_region 2 with (fail)
  obtain ⟨nb, hnb⟩ : ∃ b, b = w.heap.size := ⟨_, rfl⟩
  obtain ⟨g, hg⟩ : ∃ b, b = w.heap.size + 1 := ⟨_, rfl⟩
  obtain ⟨w1, hw1⟩ : ∃ W, W = (w.alloc (.cells #[.int .i64 N, .int .i64 S, .int .i64 T, r3, r4, r5, r6, r7, r8] 29)).alloc (.cells (Array.replicate N (Value.int .i64 0)) 3) := ⟨_, rfl⟩
  rw [← hw1, ← hg, ← hnb]
  have HB1 : Hid (Blk w1 nb [.int .i64 N, .int .i64 S, .int .i64 T, r3, r4, r5, r6, r7, r8] 29) := Lib.hid (by rw [hw1, hnb]; exact HB.out.alloc _)
  have HG1 : Hid (Blk w1 g (ints (List.replicate N 0)) 3) := Lib.hid (by rw [hw1, hg, ints, List.map_replicate]; exact Blk.new_rep _ _ _ (by simp))
  have HF1 : Hid (Fr [] w w1) := Lib.hid (by rw [hw1]; exact ((Fr.refl _ _).alloc _).alloc _)
  have HGB : Hid (g = w.heap.size + 1 ∧ nb = w.heap.size ∧ w1.heap.size = w.heap.size + 2) := Lib.hid ⟨hg, hnb, by rw [hw1]; simp⟩
  clear hmk hw1 hg hnb HB
  go_wp2_with fail
  go_loopw [6, 12] (fun _ i wr => ∃ (k : Nat) (h : List Int), i = .int .i64 k ∧ k ≤ N ∧ h.length = N ∧ (∀ x ∈ h, 0 ≤ x ∧ x ≤ (N : Int)) ∧ Blk wr g (ints h) 3 ∧ Fr [g] w1 wr) (fun _ i _ => N - (intOf i).toNat)
  case atStart => exact ⟨0, _, rfl, Nat.zero_le _, by simp, fun x hx => by rw [List.eq_of_mem_replicate hx]; omega, HG1.out, Fr.refl _ _⟩
  case round =>
    obtain ⟨k, h, rfl, hk, hlen, hok, hG, hF⟩ := hrel
    have HOK := Lib.hid hok
    have HLN := Lib.hid hlen
    have HG := Lib.hid hG
    have hgn : g ≠ nb := by have := HGB.out; omega
    have hb := HB1.out.fr hF (by simp; omega)
    have HFW : Hid (Fr [] w wr) := Lib.hid (((HF1.out.more (by simp)).trans hF).less (by simp; have := HGB.out; omega))
    have c0 := hb.cell (o := 0) rfl
    have c1 := hb.cell (o := 1) rfl
    have c2 := hb.cell (o := 2) rfl
    have HF := Lib.hid hF
    clear hok hlen hG hb hF HG1
    by_cases hkN : k < N
    · have hkf : (ints h)[k]? = some (.int .i64 (h.getD k 0)) := ints_get (by rw [List.getD_eq_getElem?_getD, List.getElem?_eq_getElem (by have := HLN.out; omega)]; rfl)
      have g1 := HG.out.cell hkf
      have g2 := HG.out.free k
      clear hkf
      by_cases hkl : k < l.length
      · obtain ⟨u, hu⟩ : ∃ u, l[k]? = some u := ⟨_, List.getElem?_eq_getElem (by omega)⟩
        obtain ⟨gl, ol, rfl, hc⟩ := (HA.out.fr0 HFW.out).at hu
        obtain ⟨hu1, hu2⟩ := HL.out u (List.mem_of_getElem? hu)
        have hN1 : IntKind.i64.wrap ((N : Int) + 1) = (N : Int) + 1 := IntWalk.i64_in _ (by omega)
        have HAM : Hid (∀ W : World, Calls Try.prog 23 #[.int .i64 u, .int .i64 ((N : Int) + 1)] W fun e w' => e = .returned (.int .i64 (u % ((N : Int) + 1))) ∧ W = w') := fun W => among_any u _ (by omega) (by omega) hu1 hu2 W
        obtain ⟨r, hr, hr0, hr1⟩ : ∃ r : Int, u % ((N : Int) + 1) = r ∧ 0 ≤ r ∧ r ≤ N := ⟨_, rfl, Int.emod_nonneg _ (by omega), by have := Int.emod_lt_of_pos u (by omega : 0 < (N : Int) + 1); omega⟩
        rw [hr] at HAM
        have k0 : (0 : Int) ≤ (k : Int) := by omega
        have k1 : (k : Int) < (N : Int) := by omega
        have k2 : (k : Int) < (l.length : Int) := by omega
        clear hu hr
        go_upto_region 6 with (fail)
        refine wr_begin [11] (fun W => W.cell? ⟨gl, ol + k, none⟩ = some (.int .i64 u) ∧ W.cell? ⟨nb, 0, none⟩ = some (.int .i64 N)) (by kernel_rfl) (by exact ⟨hc, c0⟩) ?_
        refine wr_pure 0 _ rfl (by kernel_rfl) (by kernel_rfl) (by kernel_rfl) (fun _ _ _ h => h) (by kernel_rfl) (by rfl) (fun _ => by go_simp; try with_reducible rfl) ?_
        try simp only [Act.put, List.setIfInBounds_toArray, List.set_cons_zero, List.set_cons_succ]
        refine wr_pure 1 _ rfl (by kernel_rfl) (by kernel_rfl) (by kernel_rfl) (fun _ _ _ h => h) (by kernel_rfl) (by rfl) (fun _ => by go_simp; try with_reducible rfl) ?_
        try simp only [Act.put, List.setIfInBounds_toArray, List.set_cons_zero, List.set_cons_succ]
        refine wr_pure 2 _ rfl (by kernel_rfl) (by kernel_rfl) (by kernel_rfl) (fun _ _ _ h => h) (by kernel_rfl) (by rfl) (fun _ => by go_simp; try with_reducible rfl) ?_
        try simp only [Act.put, List.setIfInBounds_toArray, List.set_cons_zero, List.set_cons_succ]
        refine wr_pure 3 _ rfl (by kernel_rfl) (by kernel_rfl) (by kernel_rfl) (fun _ _ _ h => h) (by kernel_rfl) (by rfl) (fun _ => by go_simp; try with_reducible rfl) ?_
        try simp only [Act.put, List.setIfInBounds_toArray, List.set_cons_zero, List.set_cons_succ]
        refine wr_pure 4 _ rfl (by kernel_rfl) (by kernel_rfl) (by kernel_rfl) (fun _ _ _ h => h) (by kernel_rfl) (by rfl) (fun _ => by go_simp; try with_reducible rfl) ?_
        try simp only [Act.put, List.setIfInBounds_toArray, List.set_cons_zero, List.set_cons_succ]
        refine wr_read 5 _ rfl (by kernel_rfl) (by kernel_rfl) (by kernel_rfl) (fun _ _ _ h => h) (by kernel_rfl) (by kernel_rfl) (by rfl) (fun _ hF => by have hF1 := hF.1; clear hF; go_simp; try with_reducible rfl) ?_
        try simp only [Act.put, List.setIfInBounds_toArray, List.set_cons_zero, List.set_cons_succ]
        refine wr_pure 6 _ rfl (by kernel_rfl) (by kernel_rfl) (by kernel_rfl) (fun _ _ _ h => h) (by kernel_rfl) (by rfl) (fun _ => by go_simp; try with_reducible rfl) ?_
        try simp only [Act.put, List.setIfInBounds_toArray, List.set_cons_zero, List.set_cons_succ]
        refine wr_read 7 _ rfl (by kernel_rfl) (by kernel_rfl) (by kernel_rfl) (fun _ _ _ h => h) (by kernel_rfl) (by kernel_rfl) (by rfl) (fun _ hF => by have hF1 := hF.2; clear hF; go_simp; try with_reducible rfl) ?_
        try simp only [Act.put, List.setIfInBounds_toArray, List.set_cons_zero, List.set_cons_succ]
        refine wr_pure 8 _ rfl (by kernel_rfl) (by kernel_rfl) (by kernel_rfl) (fun _ _ _ h => h) (by kernel_rfl) (by rfl) (fun _ => by go_simp; try with_reducible rfl) ?_
        try simp only [Act.put, List.setIfInBounds_toArray, List.set_cons_zero, List.set_cons_succ]
        refine wr_do 9 rfl (by kernel_rfl) (by rfl) (fun K hK => ?_)
        refine wp_call (f := 23) (args := #[.int .i64 u, .int .i64 ((N : Int) + 1)]) (by kernel_rfl) (HAM.out _) ?_
        rintro e w5 ⟨rfl, rfl⟩
        refine ⟨_, rfl, hK _ _ ⟨fun _ => ⟨hc, c0⟩, ?_⟩⟩
        try simp only [Act.put, List.setIfInBounds_toArray, List.set_cons_zero, List.set_cons_succ]
        refine wr_pure 10 _ rfl (by kernel_rfl) (by kernel_rfl) (by kernel_rfl) (fun _ _ _ h => h) (by kernel_rfl) (by rfl) (fun _ => by go_simp; try with_reducible rfl) ?_
        try simp only [Act.put, List.setIfInBounds_toArray, List.set_cons_zero, List.set_cons_succ]
        refine wr_do 11 rfl (by kernel_rfl) (by rfl) (fun K hK => ?_)
        go_wp2_with fail
        refine ⟨Still.off 11 (by kernel_rfl) (by kernel_rfl), ?_⟩
        try simp only [Act.put, List.setIfInBounds_toArray, List.set_cons_zero, List.set_cons_succ]
        refine wr_done (by kernel_rfl) ?_ _
        go_wp2_with fail
        go_roundw
        case rel =>
          refine ⟨k + 1, h.set k r, by go_num, by omega, by rw [List.length_set]; exact HLN.out, fun x hx => ?_, ?_, ?_⟩
          · rcases List.mem_or_eq_of_mem_set hx with h1 | h1
            · exact HOK.out x h1
            · subst h1; exact ⟨hr0, hr1⟩
          · rw [← ints_set]; exact (HG.out.set k _).drew
          · exact (HF.out.trans ((Fr.refl [g] wr).setCell (by simp) _)).drew
        case measure => simp [intOf]; omega
      · go_wp2_with fail
        go_roundw
        case rel => exact ⟨k + 1, h, by go_num, by omega, HLN.out, HOK.out, HG.out, HF.out⟩
        case measure => simp [intOf]; omega
    · have hln := HLN.out
      have hTf : (ints h)[T]? = some (.int .i64 (h.getD T 0)) := ints_get (by rw [List.getD_eq_getElem?_getD, List.getElem?_eq_getElem (by omega)]; rfl)
      have hSf : (ints h)[S]? = some (.int .i64 (h.getD S 0)) := ints_get (by rw [List.getD_eq_getElem?_getD, List.getElem?_eq_getElem (by omega)]; rfl)
      have g1 := HG.out.cell hTf
      have g2 := HG.out.free T
      have g3 := HG.out.cell hSf
      have g4 := HG.out.free S
      have hs2 : Blk (wr.setCell ⟨g, T, none⟩ (.int .i64 0)) g (ints (h.set T 0)) 3 := by rw [← ints_set]; exact HG.out.set T _
      have hSf2 : (ints (h.set T 0))[S]? = some (.int .i64 (h.getD S 0)) := ints_get (by rw [List.getElem?_set_ne (Ne.symm hST), List.getD_eq_getElem?_getD, List.getElem?_eq_getElem (by omega)]; rfl)
      have g5 := hs2.cell hSf2
      have g6 := hs2.free S
      have HS2 := Lib.hid hs2
      have hb2 := (HB1.out.fr HF.out (by simp; omega)).away (o := T) (Ne.symm hgn) (.int .i64 0)
      have e0 := hb2.cell (o := 0) rfl
      have e1 := hb2.cell (o := 1) rfl
      have e2 := hb2.cell (o := 2) rfl
      have HLN' := Lib.hid hln
      have T0 : (0 : Int) ≤ (T : Int) := by omega
      have T1 : (T : Int) < (N : Int) := by omega
      have S0 : (0 : Int) ≤ (S : Int) := by omega
      have S1 : (S : Int) < (N : Int) := by omega
      clear hTf hSf hSf2 hs2 hln hb2
      go_upto_region 8 with (fail)
      refine wr_begin [11] (fun W => W.cell? ⟨nb, 0, none⟩ = some (.int .i64 N) ∧ W.cell? ⟨nb, 1, none⟩ = some (.int .i64 S) ∧ W.cell? ⟨nb, 2, none⟩ = some (.int .i64 T)) (by kernel_rfl) (by exact ⟨c0, c1, c2⟩) ?_
      refine wr_pure 0 _ rfl (by kernel_rfl) (by kernel_rfl) (by kernel_rfl) (fun _ _ _ h => h) (by kernel_rfl) (by rfl) (fun _ => by go_simp; try with_reducible rfl) ?_
      try simp only [Act.put, List.setIfInBounds_toArray, List.set_cons_zero, List.set_cons_succ]
      refine wr_pure 1 _ rfl (by kernel_rfl) (by kernel_rfl) (by kernel_rfl) (fun _ _ _ h => h) (by kernel_rfl) (by rfl) (fun _ => by go_simp; try with_reducible rfl) ?_
      try simp only [Act.put, List.setIfInBounds_toArray, List.set_cons_zero, List.set_cons_succ]
      refine wr_read 2 _ rfl (by kernel_rfl) (by kernel_rfl) (by kernel_rfl) (fun _ _ _ h => h) (by kernel_rfl) (by kernel_rfl) (by rfl) (fun _ hF => by have hF1 := hF.2.2; clear hF; go_simp; try with_reducible rfl) ?_
      try simp only [Act.put, List.setIfInBounds_toArray, List.set_cons_zero, List.set_cons_succ]
      refine wr_pure 3 _ rfl (by kernel_rfl) (by kernel_rfl) (by kernel_rfl) (fun _ _ _ h => h) (by kernel_rfl) (by rfl) (fun _ => by go_simp; try with_reducible rfl) ?_
      try simp only [Act.put, List.setIfInBounds_toArray, List.set_cons_zero, List.set_cons_succ]
      refine wr_pure 4 _ rfl (by kernel_rfl) (by kernel_rfl) (by kernel_rfl) (fun _ _ _ h => h) (by kernel_rfl) (by rfl) (fun _ => by go_simp; try with_reducible rfl) ?_
      try simp only [Act.put, List.setIfInBounds_toArray, List.set_cons_zero, List.set_cons_succ]
      refine wr_read 5 _ rfl (by kernel_rfl) (by kernel_rfl) (by kernel_rfl) (fun _ _ _ h => h) (by kernel_rfl) (by kernel_rfl) (by rfl) (fun _ hF => by have hF1 := hF.2.1; clear hF; go_simp; try with_reducible rfl) ?_
      try simp only [Act.put, List.setIfInBounds_toArray, List.set_cons_zero, List.set_cons_succ]
      refine wr_pure 6 _ rfl (by kernel_rfl) (by kernel_rfl) (by kernel_rfl) (fun _ _ _ h => h) (by kernel_rfl) (by rfl) (fun _ => by go_simp; try with_reducible rfl) ?_
      try simp only [Act.put, List.setIfInBounds_toArray, List.set_cons_zero, List.set_cons_succ]
      refine wr_read 7 _ rfl (by kernel_rfl) (by kernel_rfl) (by kernel_rfl) (fun _ _ _ h => h) (by kernel_rfl) (by kernel_rfl) (by rfl) (fun _ hF => by have hF1 := hF.1; clear hF; go_simp; try with_reducible rfl) ?_
      try simp only [Act.put, List.setIfInBounds_toArray, List.set_cons_zero, List.set_cons_succ]
      refine wr_pure 8 _ rfl (by kernel_rfl) (by kernel_rfl) (by kernel_rfl) (fun _ _ _ h => h) (by kernel_rfl) (by rfl) (fun _ => by go_simp; try with_reducible rfl) ?_
      try simp only [Act.put, List.setIfInBounds_toArray, List.set_cons_zero, List.set_cons_succ]
      refine wr_do 9 rfl (by kernel_rfl) (by rfl) (fun K hK => ?_)
      go_wp2_with fail
      refine ⟨fun _ => ⟨e0, e1, e2⟩, ?_⟩
      try simp only [Act.put, List.setIfInBounds_toArray, List.set_cons_zero, List.set_cons_succ]
      refine wr_pure 10 _ rfl (by kernel_rfl) (by kernel_rfl) (by kernel_rfl) (fun _ _ _ h => h) (by kernel_rfl) (by rfl) (fun _ => by go_simp; try with_reducible rfl) ?_
      try simp only [Act.put, List.setIfInBounds_toArray, List.set_cons_zero, List.set_cons_succ]
      refine wr_do 11 rfl (by kernel_rfl) (by rfl) (fun K hK => ?_)
      go_wp2_with fail
      refine ⟨Still.off 11 (by kernel_rfl) (by kernel_rfl), ?_⟩
      try simp only [Act.put, List.setIfInBounds_toArray, List.set_cons_zero, List.set_cons_succ]
      refine wr_done (by kernel_rfl) ?_ _
      go_wp2_with fail
      go_ret
      refine ⟨g, (h.set T 0).set S N, rfl, ⟨by simp [HLN.out], fun x hx => ?_, ?_, ?_⟩, ?_, by have := HGB.out; omega, ?_⟩
      · rcases List.mem_or_eq_of_mem_set hx with h1 | h1
        · rcases List.mem_or_eq_of_mem_set h1 with h2 | h2
          · exact HOK.out x h2
          · subst h2; omega
        · subst h1; omega
      · rw [List.getElem?_set_ne hST, List.getElem?_set_self (by have := HLN.out; omega)]
      · rw [List.getElem?_set_self (by rw [List.length_set]; have := HLN.out; omega)]
      · rw [← ints_set]; exact (HS2.out.set S _).drew
      · exact (((HFW.out.more (S' := [g]) (by simp)).trans (((Fr.refl [g] wr).setCell (p := ⟨g, T, none⟩) (by simp) _).setCell (by simp) _)).drew).less (by simp; have := HGB.out; omega)
end Acq
