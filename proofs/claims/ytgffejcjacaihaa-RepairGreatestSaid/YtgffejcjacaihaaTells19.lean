/- RepairTells: what heights are made, and who is lowered, is as the document defines. -/
import Derived.Test.YtgffejcjacaihaaAwake19
import Derived.Laws.AppendOwnNone
set_option linter.unusedSimpArgs false
set_option linter.unnecessarySimpa false
set_option linter.unusedVariables false
namespace Acq
open Go Go.RowKit Go.Proofs Acq.Low

theorem SlI.take {w : World} {A : Option Addr} {xs : List Int} (h : SlI w A xs) (k : Nat) : SlI w A (xs.take k) := by
  refine ⟨by rw [ints_len]; omega, fun hk => ?_⟩
  have hl : 0 < xs.length := by rw [List.length_take] at hk; omega
  obtain ⟨g, off, rfl, hr⟩ := h.2 hl
  refine ⟨g, off, rfl, fun j v hv => ?_⟩
  rw [ints, List.getElem?_map] at hv
  obtain ⟨x, hx, rfl⟩ := Option.map_eq_some_iff.1 hv
  rw [List.getElem?_take] at hx
  split at hx
  · exact hr j _ (ints_get hx)
  · simp at hx

set_option maxRecDepth 100000 in
set_option maxHeartbeats 4000000 in
theorem tells19 (N S T : Int) (A : Option Addr) (c : Nat) (l3 : List R3) (B : Option Addr) (d : Nat) (l : List Int) (C : Option Addr) (ec : Nat) (h : List Int) (odd : Int) (w : World) (hN : In64 N) (hS : In64 S) (hT : In64 T)
    (hl3 : ∀ a ∈ l3, In64 a.1 ∧ In64 a.2.1 ∧ In64 a.2.2) (hc : l3.length ≤ c) (hcm : c ≤ maxLen) (hA : Sl w A l3.length 3 (cat rawCells l3)) (hB : SlI w B l) (hl : ∀ x ∈ l, -9223372036854775808 ≤ x ∧ x ≤ 9223372036854775807) (hlm : l.length ≤ 9223372036854775807)
    (hC : SlI w C h) (hh : ∀ x ∈ h, -9223372036854775808 ≤ x ∧ x ≤ 9223372036854775807) (hhl : h.length * 8 ≤ 140737488351232) (hC0 : C = none → ec = 0) (ho0 : 0 ≤ odd) (ho1 : odd ≤ 255) :
    Calls Try.prog 3 #[.agg #[.int .i64 N, .int .i64 S, .int .i64 T, .slice A l3.length c], .slice B l.length d, .slice C h.length ec, .int .u8 odd] w fun e w' => e = .returned (.bool true) ∧ Fr [] w w' := by
  have HB0 := Lib.hid (Blk.new w [.int .i64 N, .int .i64 S, .int .i64 T, .slice A l3.length c] 24)
  have HSM := Lib.hid (some_any N S T A c l3 16 40 (w.alloc (.cells #[.int .i64 N, .int .i64 S, .int .i64 T, .slice A l3.length c] 24)) hN hS hT hl3 hc hcm (Sl.fr0 hA ((Fr.refl [] w).alloc _)) (by omega) (by omega) (by omega))
  have HBL := Lib.hid hB
  have HLL := Lib.hid hl
  have HC := Lib.hid hC
  have HH := Lib.hid hh
  have HC0 := Lib.hid hC0
  clear hA hB hl hC hh hC0 hl3 hN hS hT
  go_enter Try.func3, Try.ntmps3
  go_wp2_with (refine wl_load rfl rfl rfl _ HB0.out Try.underlying24 rfl (by kernel_rfl) ?_)
  refine HSM.out.mono ?_
  rintro e w1 ⟨G, A1, c1, rfl, hG, hNV, hF1⟩
  have HF1 := Lib.hid (((Fr.refl [] w).alloc _).trans hF1)
  have HNV := Lib.hid hNV
  clear hF1 hNV HSM HB0
  go_wp2_with fail
  refine (left_any G hG A1 c1 B d l w1 HNV.out (HBL.out.fr0 HF1.out) HLL.out hlm).mono ?_
  rintro e w2 ⟨base, f, AF, AH, AR, AC, AA, AB, cF, cH, cR, cC, cA, cB, A2, c2, rfl, hV, hI, hfo, hfz, hown, hbs, hF2⟩
  obtain ⟨R, hR⟩ : ∃ R, R = resOf G.ar G.E f := ⟨_, rfl⟩
  have hRl : R.length = G.E.length := by rw [hR, resOf_len]
  rw [← hR] at hown
  obtain ⟨c', hc', hve, hsl⟩ := Sl.of_own hown (by decide)
  simp only [Value.slice.injEq] at hve
  obtain ⟨hA0, -, hcc⟩ := hve
  rw [← hA0] at hsl
  rw [← hcc] at hc'
  have HS2 : Hid (SlI w2 A2 R) := Lib.hid (by unfold SlI; rw [hRl]; exact hsl)
  have HV2 := Lib.hid hV
  have HF2 := Lib.hid (HF1.out.trans hF2)
  have hEl := E_len hG
  have HRL := Lib.hid hRl
  have HC2 : Hid (R.length ≤ c2) := Lib.hid (by rw [hRl]; exact hc')
  clear hV hI hfo hfz hown hbs hF2 hc' hsl hA0 hcc hR HNV
  rw [← hRl] at hEl ⊢
  clear hRl
  -- the contracts of what is compared
  have HLO : Hid (∀ (W : World) (r h : List Int) (A B : Option Addr) (c d : Nat), Fr [] w2 W → SlI W A r → SlI W B h → r.length ≤ 5000 → h.length * 8 ≤ 140737488351232 → Calls Try.prog 11 #[.agg (csrCells G AF AH AR AC AA AB cF cH cR cC cA cB).toArray, .slice A r.length c, .slice B h.length d] W fun e w' => ∃ out A c, e = .returned (.slice A (out : List Int).length c) ∧ SlI w' A out ∧ LowPost G r h out ∧ Fr [] W w') := Lib.hid fun W r h A B c d hW hA hB h1 h2 =>
    lower_any G hG AF AH AR AC AA AB cF cH cR cC cA cB r h A B c d W (HV2.out.fr0 hW) hA hB (by omega) (by omega)
  have HRL2 : Hid (∀ (W : World) (r h : List Int) (A B : Option Addr) (c d : Nat), Fr [] w2 W → SlI W A r → SlI W B h → r.length ≤ 5000 → h.length * 8 ≤ 140737488351232 → Calls Try.prog 12 #[.agg (csrCells G AF AH AR AC AA AB cF cH cR cC cA cB).toArray, .slice A r.length c, .slice B h.length d] W fun e w' => ∃ out A c, e = .returned (.slice A (out : List Int).length c) ∧ SlI w' A out ∧ LowPost G r h out ∧ Fr [] W w') := Lib.hid fun W r h A B c d hW hA hB h1 h2 =>
    reflower_any G hG AF AH AR AC AA AB cF cH cR cC cA cB r h A B c d W (HV2.out.fr0 hW) hA hB (by omega) (by omega)
  have HLD : Hid (∀ (W : World) (r h : List Int) (A B : Option Addr) (c d : Nat), Fr [] w2 W → SlI W A r → SlI W B h → r.length ≤ 5000 → h.length * 8 ≤ 140737488351232 → Calls Try.prog 13 #[.agg (csrCells G AF AH AR AC AA AB cF cH cR cC cA cB).toArray, .slice A r.length c, .slice B h.length d] W (LoweredOk G r h W)) := Lib.hid fun W r h A B c d hW hA hB h1 h2 =>
    lowered_any G hG AF AH AR AC AA AB cF cH cR cC cA cB r h A B c d W (HV2.out.fr0 hW) hA hB (by omega) (by omega)
  have HRD : Hid (∀ (W : World) (r h : List Int) (A B : Option Addr) (c d : Nat), Fr [] w2 W → SlI W A r → SlI W B h → r.length ≤ 5000 → h.length * 8 ≤ 140737488351232 → Calls Try.prog 14 #[.agg (csrCells G AF AH AR AC AA AB cF cH cR cC cA cB).toArray, .slice A r.length c, .slice B h.length d] W (LoweredOk G r h W)) := Lib.hid fun W r h A B c d hW hA hB h1 h2 =>
    reflowered_any G hG AF AH AR AC AA AB cF cH cR cC cA cB r h A B c d W (HV2.out.fr0 hW) hA hB (by omega) (by omega)
  have HHT : Hid (∀ (W : World), Fr [] w2 W → Calls Try.prog 9 #[.agg (csrCells G AF AH AR AC AA AB cF cH cR cC cA cB).toArray, .slice C h.length ec] W (HeightsOk G.N G.S G.T W)) := Lib.hid fun W hW =>
    heights_core G.N G.S G.T _ _ _ _ _ _ C ec h W hG.n2 hG.n16 hG.s hG.t hG.st (HC.out.fr0 (HF2.out.trans hW)) HH.out (by omega)
  obtain ⟨H1, H2⟩ := csr_one G AF AH AR AC AA AB cF cH cR cC cA cB
  obtain ⟨cs, hcs⟩ : ∃ cs, cs = csrCells G AF AH AR AC AA AB cF cH cR cC cA cB := ⟨_, rfl⟩
  rw [← hcs] at H1 H2 HLO HRL2 HLD HRD HHT
  rw [← hcs]
  have H1' := Lib.hid H1
  have H2' := Lib.hid H2
  have HN16 := Lib.hid hG.n16
  clear hcs H1 H2 HV2
  go_upto_region 2 with (refine wl_store_new rfl rfl cs (by simp) rfl rfl (by rw [H2'.out]; kernel_rfl) (by rw [H2'.out]; rfl) H1'.out ?_)
  obtain ⟨cb, hcb⟩ : ∃ b, b = w2.heap.size := ⟨_, rfl⟩
  obtain ⟨w3, hw3⟩ : ∃ W, W = w2.alloc (.cells cs.toArray 29) := ⟨_, rfl⟩
  rw [← hw3, ← hcb]
  have HC3 : Hid (Blk w3 cb cs 29) := Lib.hid (by rw [hw3, hcb]; exact Blk.new _ _ _)
  have HF3 : Hid (Fr [] w2 w3) := Lib.hid (by rw [hw3]; exact (Fr.refl _ _).alloc _)
  clear hw3 hcb
  obtain ⟨o4, ho4, ho40⟩ : ∃ r : Int, odd % 4 = r ∧ 0 ≤ r := ⟨_, rfl, by omega⟩
  have HO4 := Lib.hid ho4
  go_upto_if 21 with (fail)
  go_cut [2] (fun s2 wx => ∃ (h' : List Int) (C' : Option Addr) (e' : Nat), s2 = .slice C' h'.length e' ∧ SlI wx C' h' ∧ h'.length * 8 ≤ 140737488351232 ∧ (C' = none → e' = 0) ∧ Fr [] w3 wx)
  case first =>
    by_cases hp : 0 < o4
    · have t1 : decide (0 < o4) = true := by simp [hp]
      go_wp2_with (refine wl_load rfl rfl rfl cs HC3.out Try.underlying29 rfl (by rw [H2'.out]; kernel_rfl) ?_)
      refine (HHT.out _ HF3.out).mono ?_
      rintro e w4 ⟨g, hh, rfl, hts, hb, hge, hF4⟩
      have HB4 := Lib.hid hb
      have HT4 := Lib.hid hts
      have HF4 := Lib.hid hF4
      clear hb hts hge hF4
      go_wp2_with fail
      go_meet
      exact ⟨hh, some ⟨g, 0, none⟩, G.N, by rw [HT4.out.1], SlI.of_blk HB4.out, by rw [HT4.out.1]; have := HN16.out; omega, fun h => by simp at h, HF4.out⟩
    · have t1 : decide (0 < o4) = false := by simp; omega
      go_wp2_with fail
      go_meet
      exact ⟨h, C, ec, rfl, HC.out.fr0 (HF2.out.trans HF3.out), hhl, HC0.out, Fr.refl _ _⟩
  case rest =>
    obtain ⟨h', C', e', rfl, hC', hh', hc0', hF4⟩ := hcut
    obtain ⟨w4, rfl⟩ : ∃ w4 : World, w4 = wc := ⟨_, rfl⟩
    have HC4' := Lib.hid hC'
    have HC04 := Lib.hid hc0'
    have HC4 := Lib.hid (HC3.out.fr hF4 (by simp))
    have HF4 := Lib.hid (HF3.out.trans hF4)
    clear hC' hc0' hF4 HC3 HF3 HHT HC HH HC0 ho4 ho40 HO4
    have HS4 := Lib.hid (HS2.out.fr0 HF4.out)
    obtain ⟨o8, ho8⟩ : ∃ r : Int, odd % 8 = r := ⟨_, rfl⟩
    go_upto_if 27 with (fail)
    go_cut [10] (fun s10 wx => ∃ (r : List Int) (c' : Nat), s10 = .slice A2 r.length c' ∧ SlI wx A2 r ∧ r.length ≤ 5000 ∧ Fr [] w4 wx)
    case first =>
      by_cases hp : o8 = 7
      · have t1 : (o8 == 7) = true := by simp [hp]
        obtain ⟨k2, hk2, hk3, hk4⟩ : ∃ k2 : Nat, (R.length : Int) / 2 = (k2 : Int) ∧ k2 ≤ R.length ∧ k2 ≤ c2 := ⟨R.length / 2, by omega, by omega, by have := HC2.out; omega⟩
        have hk5 : (k2 : Int) ≤ (c2 : Int) := by omega
        have hk6 : (0 : Int) ≤ (k2 : Int) := by omega
        go_wp2_with fail
        go_meet
        exact ⟨R.take k2, c2, by simp; omega, HS4.out.take k2, by simp; omega, Fr.refl _ _⟩
      · have t1 : (o8 == 7) = false := by simp [hp]
        go_wp2_with fail
        go_meet
        exact ⟨R, c2, rfl, HS4.out, by omega, Fr.refl _ _⟩
    case rest =>
      obtain ⟨r, c5, rfl, hS5, hr5, hF5⟩ := hcut
      obtain ⟨w5, rfl⟩ : ∃ w5 : World, w5 = wc := ⟨_, rfl⟩
      have HS5 := Lib.hid hS5
      have HC5 := Lib.hid (HC4.out.fr hF5 (by simp))
      have HC5' := Lib.hid (HC4'.out.fr0 hF5)
      have HF5 := Lib.hid (HF4.out.trans hF5)
      clear hS5 hF5 HC4 HC4' HF4 HS4 ho8
      obtain ⟨ii, hi0, hi1, hi2, hi3⟩ := info_parts infoInt
      have HII := Lib.hid (And.intro hi0 (And.intro hi1 (And.intro hi2 hi3)))
      clear hi0 hi1 hi2 hi3
      go_upto_region 6 with (fail)
      go_cut [11] (fun s11 wx => ∃ (A' : Option Addr) (c' : Nat), s11 = .slice A' h'.length c' ∧ SlI wx A' h' ∧ Fr [] w5 wx)
      case first =>
        refine wp_region_list (wl_empty (e := 3) rfl rfl (by kernel_rfl) ?_)
        rcases C' with _ | ad
        · have hn : h'.length = 0 := by
            rcases Nat.eq_zero_or_pos h'.length with h0 | h0
            · exact h0
            · obtain ⟨_, _, h1, _⟩ := HC5'.out.2 h0
              simp at h1
          obtain rfl : h' = [] := List.eq_nil_of_length_eq_zero hn
          obtain rfl : e' = 0 := HC04.out rfl
          go_wp2_with (at_builtin; refine wpList_append_own_none rfl _ _ 26 rfl w5.heap.size 3 ii 1 Try.underlying26 HII.out.1 (.slice (some ⟨w5.heap.size, 0, none⟩) 0 0) 0 [] rfl (own_none w5 _) rfl ?_)
          go_meet
          exact ⟨some ⟨w5.heap.size, 0, none⟩, 0, rfl, Sl.nil _ _ _, (Fr.refl _ _).alloc _⟩
        · have HNW : Hid (∀ (j : Nat) u, (ints h')[j]? = some u → (w5.alloc (.cells #[] 3)).cell? (Addr.add ad j) = some u) := Lib.hid (by
            intro j u hu
            have hj := (List.getElem?_eq_some_iff.1 hu).1
            rw [ints_len] at hj
            obtain ⟨g0, off, h1, hc⟩ := HC5'.out.2 (by omega)
            simp only [Option.some.injEq] at h1
            subst h1
            rw [Addr.add_mid]
            exact ((Fr.refl [] w5).alloc _).cell (hc j u hu) (by simp))
          have H1C : Hid (∀ u ∈ ints h', u.oneCell' = true) := Lib.hid (by
            intro u hu
            obtain ⟨i, _, rfl⟩ := List.mem_map.1 hu
            rfl)
          have HLD : Hid ((ints h').length = h'.length * 1) := Lib.hid (by rw [ints_len]; omega)
          go_wp2_with (at_builtin; refine wpList_append_own_at _ rfl _ _ 26 rfl w5.heap.size 3 ii _ 1 8 Try.underlying26 HII.out.1 HII.out.2.1 HII.out.2.2.1 HII.out.2.2.2 rfl (by decide) (.slice (some ⟨w5.heap.size, 0, none⟩) 0 0) 0 [] rfl (own_none w5 _) ad h'.length _ (ints h') rfl HLD.out HNW.out H1C.out (by unfold maxLen; omega) (by omega) (by rw [World.size_alloc]; omega) ?_; intro v4 w6 hown4 hgr4 hnn4 hat4; have HO4 := Lib.hid hown4; have HG4 := Lib.hid hgr4; clear hown4 hgr4 hnn4 hat4)
          go_meet
          have ho := HO4.out
          rw [Nat.zero_add, List.nil_append] at ho
          obtain ⟨c6, _, hve, hsl⟩ := Sl.of_own ho (by decide)
          exact ⟨_, c6, hve, hsl, (((Fr.refl [] w5).alloc _).more (S' := [w5.heap.size]) (by simp)).trans (Fr.of_grown HG4.out (by simp [Value.ownBlock])) |>.less (by simp)⟩
      case rest =>
        obtain ⟨A6, c6, rfl, hS6, hF6⟩ := hcut
        obtain ⟨w6, rfl⟩ : ∃ w6 : World, w6 = wc := ⟨_, rfl⟩
        have HW6 := Lib.hid hS6
        have HS6 := Lib.hid (HS5.out.fr0 hF6)
        have HC6 := Lib.hid (HC5.out.fr hF6 (by simp))
        have HC6' := Lib.hid (HC5'.out.fr0 hF6)
        have HF6 := Lib.hid (HF5.out.trans hF6)
        clear hS6 hF6 HS5 HC5 HC5' HF5
        go_upto_region 7 with (fail)
        have HSW : Hid (∀ W, Fr [] w6 W → Fr [] w2 W ∧ SlI W A2 r ∧ SlI W C' h' ∧ SlI W A6 h' ∧ Blk W cb cs 29) := Lib.hid fun W hW => ⟨HF6.out.trans hW, HS6.out.fr0 hW, HC6'.out.fr0 hW, HW6.out.fr0 hW, HC6.out.fr hW (by simp)⟩
        clear HW6 HS6 HC6'
        refine wr_begin [26] (fun W => Blk W cb cs 29) (by kernel_rfl) (by exact HC6.out.drew) ?_
        refine wr_read 0 _ rfl (by kernel_rfl) (by kernel_rfl) (by kernel_rfl) (fun _ _ _ h => h) (by kernel_rfl) (by kernel_rfl) (by rfl) (fun _ hF => exec_load_row rfl rfl hF Try.underlying29 rfl (by rw [H2'.out]; kernel_rfl)) ?_
        try simp only [Act.put, List.setIfInBounds_toArray, List.set_cons_zero, List.set_cons_succ]
        refine wr_pure 1 _ rfl (by kernel_rfl) (by kernel_rfl) (by kernel_rfl) (fun _ _ _ h => h) (by kernel_rfl) (by rfl) (fun _ => by go_simp; try with_reducible rfl) ?_
        try simp only [Act.put, List.setIfInBounds_toArray, List.set_cons_zero, List.set_cons_succ]
        refine wr_pure 2 _ rfl (by kernel_rfl) (by kernel_rfl) (by kernel_rfl) (fun _ _ _ h => h) (by kernel_rfl) (by rfl) (fun _ => by go_simp; try with_reducible rfl) ?_
        try simp only [Act.put, List.setIfInBounds_toArray, List.set_cons_zero, List.set_cons_succ]
        refine wr_read 4 _ rfl (by kernel_rfl) (by kernel_rfl) (by kernel_rfl) (fun _ _ _ h => h) (by kernel_rfl) (by kernel_rfl) (by rfl) (fun _ hF => exec_load_row rfl rfl hF Try.underlying29 rfl (by rw [H2'.out]; kernel_rfl)) ?_
        try simp only [Act.put, List.setIfInBounds_toArray, List.set_cons_zero, List.set_cons_succ]
        refine wr_pure 5 _ rfl (by kernel_rfl) (by kernel_rfl) (by kernel_rfl) (fun _ _ _ h => h) (by kernel_rfl) (by rfl) (fun _ => by go_simp; try with_reducible rfl) ?_
        try simp only [Act.put, List.setIfInBounds_toArray, List.set_cons_zero, List.set_cons_succ]
        refine wr_pure 6 _ rfl (by kernel_rfl) (by kernel_rfl) (by kernel_rfl) (fun _ _ _ h => h) (by kernel_rfl) (by rfl) (fun _ => by go_simp; try with_reducible rfl) ?_
        try simp only [Act.put, List.setIfInBounds_toArray, List.set_cons_zero, List.set_cons_succ]
        refine wr_do 3 rfl (by kernel_rfl) (by rfl) (fun K hK => ?_)
        have h0 := HSW.out _ (Fr.drew (Fr.refl [] w6))
        refine wp_call (f := 11) (args := #[.agg cs.toArray, .slice A2 r.length c5, .slice C' h'.length e']) (by kernel_rfl) (HLO.out _ r h' A2 C' c5 e' h0.1 h0.2.1 h0.2.2.1 hr5 hh') ?_
        rintro e w7 ⟨out, A7, c7, rfl, hs7, hp7, hF7⟩
        have HS7 := Lib.hid hs7
        have HP7 := Lib.hid hp7
        have HF7 := Lib.hid ((Fr.drew (Fr.refl [] w6)).trans hF7)
        clear hs7 hp7 hF7 h0
        refine ⟨_, rfl, hK _ _ ⟨fun _ => (HSW.out _ HF7.out).2.2.2.2, ?_⟩⟩
        try simp only [Act.put, List.setIfInBounds_toArray, List.set_cons_zero, List.set_cons_succ]
        refine wr_do 7 rfl (by kernel_rfl) (by rfl) (fun K hK => ?_)
        have h0 := HSW.out _ HF7.out
        refine wp_call (f := 12) (args := #[.agg cs.toArray, .slice A2 r.length c5, .slice C' h'.length e']) (by kernel_rfl) (HRL2.out _ r h' A2 C' c5 e' h0.1 h0.2.1 h0.2.2.1 hr5 hh') ?_
        rintro e w8 ⟨out2, A8, c8, rfl, hs8, hp8, hF8⟩
        obtain rfl := HP7.out.same hp8
        have HS8 := Lib.hid hs8
        have HS7b := Lib.hid (HS7.out.fr0 hF8)
        have HF8 := Lib.hid (HF7.out.trans hF8)
        clear hs8 hp8 hF8 h0
        refine ⟨_, rfl, hK _ _ ⟨fun _ => (HSW.out _ HF8.out).2.2.2.2, ?_⟩⟩
        try simp only [Act.put, List.setIfInBounds_toArray, List.set_cons_zero, List.set_cons_succ]
        refine wr_do 8 rfl (by kernel_rfl) (by rfl) (fun K hK => ?_)
        have hsm := HP7.out.small hG
        refine wp_call (f := 10) (args := #[.slice A7 out.length c7, .slice A8 out.length c8]) (by kernel_rfl) (ints_same A7 A8 _ _ c7 c8 out _ rfl rfl HS7b.out HS8.out (by omega)) ?_
        rintro e w9 ⟨rfl, hF9⟩
        have HF9 := Lib.hid (HF8.out.trans hF9)
        clear hF9 hsm
        refine ⟨_, rfl, hK _ _ ⟨fun _ => (HSW.out _ HF9.out).2.2.2.2, ?_⟩⟩
        try simp only [Act.put, List.setIfInBounds_toArray, List.set_cons_zero, List.set_cons_succ]
        refine wr_pure 9 _ rfl (by kernel_rfl) (by kernel_rfl) (by kernel_rfl) (fun _ _ _ h => h) (by kernel_rfl) (by rfl) (fun _ => by go_simp; try with_reducible rfl) ?_
        try simp only [Act.put, List.setIfInBounds_toArray, List.set_cons_zero, List.set_cons_succ]
        refine wr_read 10 _ rfl (by kernel_rfl) (by kernel_rfl) (by kernel_rfl) (fun _ _ _ h => h) (by kernel_rfl) (by kernel_rfl) (by rfl) (fun _ hF => exec_load_row rfl rfl hF Try.underlying29 rfl (by rw [H2'.out]; kernel_rfl)) ?_
        try simp only [Act.put, List.setIfInBounds_toArray, List.set_cons_zero, List.set_cons_succ]
        refine wr_pure 11 _ rfl (by kernel_rfl) (by kernel_rfl) (by kernel_rfl) (fun _ _ _ h => h) (by kernel_rfl) (by rfl) (fun _ => by go_simp; try with_reducible rfl) ?_
        try simp only [Act.put, List.setIfInBounds_toArray, List.set_cons_zero, List.set_cons_succ]
        refine wr_pure 12 _ rfl (by kernel_rfl) (by kernel_rfl) (by kernel_rfl) (fun _ _ _ h => h) (by kernel_rfl) (by rfl) (fun _ => by go_simp; try with_reducible rfl) ?_
        try simp only [Act.put, List.setIfInBounds_toArray, List.set_cons_zero, List.set_cons_succ]
        refine wr_read 14 _ rfl (by kernel_rfl) (by kernel_rfl) (by kernel_rfl) (fun _ _ _ h => h) (by kernel_rfl) (by kernel_rfl) (by rfl) (fun _ hF => exec_load_row rfl rfl hF Try.underlying29 rfl (by rw [H2'.out]; kernel_rfl)) ?_
        try simp only [Act.put, List.setIfInBounds_toArray, List.set_cons_zero, List.set_cons_succ]
        refine wr_pure 15 _ rfl (by kernel_rfl) (by kernel_rfl) (by kernel_rfl) (fun _ _ _ h => h) (by kernel_rfl) (by rfl) (fun _ => by go_simp; try with_reducible rfl) ?_
        try simp only [Act.put, List.setIfInBounds_toArray, List.set_cons_zero, List.set_cons_succ]
        refine wr_pure 16 _ rfl (by kernel_rfl) (by kernel_rfl) (by kernel_rfl) (fun _ _ _ h => h) (by kernel_rfl) (by rfl) (fun _ => by go_simp; try with_reducible rfl) ?_
        try simp only [Act.put, List.setIfInBounds_toArray, List.set_cons_zero, List.set_cons_succ]
        refine wr_do 13 rfl (by kernel_rfl) (by rfl) (fun K hK => ?_)
        have h0 := HSW.out _ HF9.out
        refine wp_call (f := 13) (args := #[.agg cs.toArray, .slice A2 r.length c5, .slice C' h'.length e']) (by kernel_rfl) (HLD.out _ r h' A2 C' c5 e' h0.1 h0.2.1 h0.2.2.1 hr5 hh') ?_
        rintro e w10 ⟨out3, A10, c10, hp10, rfl, hs10, hF10⟩
        have HS10 := Lib.hid hs10
        have HP10 := Lib.hid hp10
        have HF10 := Lib.hid (HF9.out.trans hF10)
        clear hs10 hp10 hF10 h0
        refine ⟨_, rfl, hK _ _ ⟨fun _ => (HSW.out _ HF10.out).2.2.2.2, ?_⟩⟩
        try simp only [Act.put, List.setIfInBounds_toArray, List.set_cons_zero, List.set_cons_succ]
        refine wr_do 17 rfl (by kernel_rfl) (by rfl) (fun K hK => ?_)
        have h0 := HSW.out _ HF10.out
        refine wp_call (f := 14) (args := #[.agg cs.toArray, .slice A2 r.length c5, .slice C' h'.length e']) (by kernel_rfl) (HRD.out _ r h' A2 C' c5 e' h0.1 h0.2.1 h0.2.2.1 hr5 hh') ?_
        rintro e w11 ⟨out4, A11, c11, hp11, rfl, hs11, hF11⟩
        obtain rfl := HP10.out.same hp11
        have HS11 := Lib.hid hs11
        have HS10b := Lib.hid (HS10.out.fr0 hF11)
        have HF11 := Lib.hid (HF10.out.trans hF11)
        clear hs11 hp11 hF11 h0
        refine ⟨_, rfl, hK _ _ ⟨fun _ => (HSW.out _ HF11.out).2.2.2.2, ?_⟩⟩
        try simp only [Act.put, List.setIfInBounds_toArray, List.set_cons_zero, List.set_cons_succ]
        refine wr_do 18 rfl (by kernel_rfl) (by rfl) (fun K hK => ?_)
        have hsm := HP10.out.small hG
        have hsm2 := lowTo_len out3 h' out3.length
        refine wp_call (f := 10) (args := #[.slice A10 (lowTo out3 h' out3.length).length c10, .slice A11 (lowTo out3 h' out3.length).length c11]) (by kernel_rfl) (ints_same A10 A11 _ _ c10 c11 _ _ rfl rfl HS10b.out HS11.out (by omega)) ?_
        rintro e w12 ⟨rfl, hF12⟩
        have HF12 := Lib.hid (HF11.out.trans hF12)
        clear hF12 hsm hsm2
        refine ⟨_, rfl, hK _ _ ⟨fun _ => (HSW.out _ HF12.out).2.2.2.2, ?_⟩⟩
        try simp only [Act.put, List.setIfInBounds_toArray, List.set_cons_zero, List.set_cons_succ]
        refine wr_pure 19 _ rfl (by kernel_rfl) (by kernel_rfl) (by kernel_rfl) (fun _ _ _ h => h) (by kernel_rfl) (by rfl) (fun _ => by go_simp; try with_reducible rfl) ?_
        try simp only [Act.put, List.setIfInBounds_toArray, List.set_cons_zero, List.set_cons_succ]
        refine wr_pure 20 _ rfl (by kernel_rfl) (by kernel_rfl) (by kernel_rfl) (fun _ _ _ h => h) (by kernel_rfl) (by rfl) (fun _ => by go_simp; try with_reducible rfl) ?_
        try simp only [Act.put, List.setIfInBounds_toArray, List.set_cons_zero, List.set_cons_succ]
        refine wr_pure 21 _ rfl (by kernel_rfl) (by kernel_rfl) (by kernel_rfl) (fun _ _ _ h => h) (by kernel_rfl) (by rfl) (fun _ => by go_simp; try with_reducible rfl) ?_
        try simp only [Act.put, List.setIfInBounds_toArray, List.set_cons_zero, List.set_cons_succ]
        refine wr_pure 22 _ rfl (by kernel_rfl) (by kernel_rfl) (by kernel_rfl) (fun _ _ _ h => h) (by kernel_rfl) (by rfl) (fun _ => by go_simp; try with_reducible rfl) ?_
        try simp only [Act.put, List.setIfInBounds_toArray, List.set_cons_zero, List.set_cons_succ]
        refine wr_do 23 rfl (by kernel_rfl) (by rfl) (fun K hK => ?_)
        have h0 := HSW.out _ HF12.out
        refine wp_call (f := 10) (args := #[.slice C' h'.length e', .slice A6 h'.length c6]) (by kernel_rfl) (ints_same C' A6 _ _ e' c6 h' _ rfl rfl h0.2.2.1 h0.2.2.2.1 (by omega)) ?_
        rintro e w13 ⟨rfl, hF13⟩
        have HF13 := Lib.hid (HF12.out.trans hF13)
        clear hF13 h0
        refine ⟨_, rfl, hK _ _ ⟨fun _ => (HSW.out _ HF13.out).2.2.2.2, ?_⟩⟩
        try simp only [Act.put, List.setIfInBounds_toArray, List.set_cons_zero, List.set_cons_succ]
        refine wr_pure 24 _ rfl (by kernel_rfl) (by kernel_rfl) (by kernel_rfl) (fun _ _ _ h => h) (by kernel_rfl) (by rfl) (fun _ => by go_simp; try with_reducible rfl) ?_
        try simp only [Act.put, List.setIfInBounds_toArray, List.set_cons_zero, List.set_cons_succ]
        refine wr_pure 25 _ rfl (by kernel_rfl) (by kernel_rfl) (by kernel_rfl) (fun _ _ _ h => h) (by kernel_rfl) (by rfl) (fun _ => by go_simp; try with_reducible rfl) ?_
        try simp only [Act.put, List.setIfInBounds_toArray, List.set_cons_zero, List.set_cons_succ]
        refine wr_do 26 rfl (by kernel_rfl) (by rfl) (fun K hK => ?_)
        refine wp_call (f := 15) (args := #[]) (by kernel_rfl) (awake_any w13) ?_
        rintro e w14 ⟨rfl, hF14⟩
        have HF14 := Lib.hid (HF13.out.trans hF14)
        clear hF14
        refine ⟨_, rfl, hK _ _ ⟨Still.off 26 (by kernel_rfl) (by kernel_rfl), ?_⟩⟩
        try simp only [Act.put, List.setIfInBounds_toArray, List.set_cons_zero, List.set_cons_succ]
        refine wr_pure 27 _ rfl (by kernel_rfl) (by kernel_rfl) (by kernel_rfl) (fun _ _ _ h => h) (by kernel_rfl) (by rfl) (fun _ => by go_simp; try with_reducible rfl) ?_
        try simp only [Act.put, List.setIfInBounds_toArray, List.set_cons_zero, List.set_cons_succ]
        refine wr_pure 28 _ rfl (by kernel_rfl) (by kernel_rfl) (by kernel_rfl) (fun _ _ _ h => h) (by kernel_rfl) (by rfl) (fun _ => by go_simp; try with_reducible rfl) ?_
        try simp only [Act.put, List.setIfInBounds_toArray, List.set_cons_zero, List.set_cons_succ]
        refine wr_done (by kernel_rfl) ?_ _
        go_wp2_with fail
        go_ret
        exact ⟨rfl, (HF2.out.trans HF6.out).trans HF14.out⟩
end Acq
