/- RepairOrder: lower heights come to lower ones. -/
import Derived.Test.YtgffejcjacaihaaTW19
set_option linter.unusedSimpArgs false
set_option linter.unnecessarySimpa false
set_option linter.unusedVariables false
namespace Acq
open Go Go.RowKit Go.Proofs Acq.Low

/-- The lower of two, vertex by vertex. -/
def bothL (h g : List Int) : List Int := List.zipWith (fun x y => if y < x then y else x) h g

theorem bothL_get {h g : List Int} {i : Nat} {x y : Int} (hx : h[i]? = some x) (hy : g[i]? = some y) : (bothL h g)[i]? = some (if y < x then y else x) := by
  rw [bothL, List.getElem?_zipWith, hx, hy]

theorem bothL_len {h g : List Int} {n : Nat} (hh : h.length = n) (hg : g.length = n) : (bothL h g).length = n := by
  rw [bothL, List.length_zipWith]; omega

theorem bothL_fn {h g : List Int} {n : Nat} (hh : h.length = n) (hg : g.length = n) : fn (bothL h g) = fun v => min (fn h v) (fn g v) := by
  funext v
  by_cases hv : v < n
  · obtain ⟨x, hx⟩ : ∃ x, h[v]? = some x := ⟨_, List.getElem?_eq_getElem (by omega)⟩
    obtain ⟨y, hy⟩ : ∃ y, g[v]? = some y := ⟨_, List.getElem?_eq_getElem (by omega)⟩
    rw [fn_get hx, fn_get hy, fn_get (bothL_get hx hy)]
    split <;> omega
  · have far : ∀ (l : List Int), l.length = n → fn l v = 0 := fun l hl => by
      simp only [fn, List.getD_eq_getElem?_getD]; rw [List.getElem?_eq_none (by omega)]; rfl
    rw [far _ hh, far _ hg, far _ (bothL_len hh hg)]
    rfl

theorem bothL_hts {G : Net} {h g : List Int} (hh : Hts G h) (hg : Hts G g) : Hts G (bothL h g) := by
  refine ⟨bothL_len hh.1 hg.1, fun k hk => ?_, ?_, ?_⟩
  · obtain ⟨i, hi⟩ := List.mem_iff_getElem?.1 hk
    have hil := (List.getElem?_eq_some_iff.1 hi).1
    rw [bothL_len hh.1 hg.1] at hil
    obtain ⟨x, hx⟩ : ∃ x, h[i]? = some x := ⟨_, List.getElem?_eq_getElem (by rw [hh.1]; exact hil)⟩
    obtain ⟨y, hy⟩ : ∃ y, g[i]? = some y := ⟨_, List.getElem?_eq_getElem (by rw [hg.1]; exact hil)⟩
    rw [bothL_get hx hy] at hi
    have b1 := hh.2.1 x (List.mem_of_getElem? hx)
    have b2 := hg.2.1 y (List.mem_of_getElem? hy)
    obtain rfl := Option.some.inj hi
    split <;> omega
  · rw [bothL_get hh.2.2.1 hg.2.2.1]; rfl
  · rw [bothL_get hh.2.2.2 hg.2.2.2]; simp

/-- Of fewer open arcs. -/
theorem open_less {G : Net} {R L : List Int} (h : ∀ (i : Nat) x, R[i]? = some x → ∃ y, L[i]? = some y ∧ (y = x ∨ y = 0)) (hl : L.length = R.length) {u v : Nat} (ho : Open G L u v) : Open G R u v := by
  obtain ⟨hu, a, e, he, h1, h2, h3⟩ := ho
  refine ⟨hu, a, e, he, h1, h2, ?_⟩
  by_cases ha : a < R.length
  · obtain ⟨x, hx⟩ : ∃ x, R[a]? = some x := ⟨_, List.getElem?_eq_getElem ha⟩
    obtain ⟨y, hy, hxy⟩ := h a x hx
    rw [List.getD_eq_getElem?_getD, hy] at h3
    rw [List.getD_eq_getElem?_getD, hx]
    rcases hxy with rfl | rfl
    · exact h3
    · simp at h3
  · rw [List.getD_eq_getElem?_getD, List.getElem?_eq_none (by omega)] at h3
    simp at h3

/-- One more arc shut. -/
theorem less_set {R L : List Int} (h : ∀ (i : Nat) x, R[i]? = some x → ∃ y, L[i]? = some y ∧ (y = x ∨ y = 0)) (k : Nat) : ∀ (i : Nat) x, R[i]? = some x → ∃ y, (L.set k 0)[i]? = some y ∧ (y = x ∨ y = 0) := by
  intro i x hx
  obtain ⟨y, hy, h1⟩ := h i x hx
  by_cases hik : k = i
  · subst hik
    have hi := (List.getElem?_eq_some_iff.1 hy).1
    exact ⟨0, by rw [List.getElem?_set_self hi], .inr rfl⟩
  · exact ⟨y, by rw [List.getElem?_set_ne hik]; exact hy, h1⟩


set_option maxRecDepth 100000 in
set_option maxHeartbeats 4000000 in
theorem order19 (N S T : Int) (A : Option Addr) (c : Nat) (l3 : List R3) (B : Option Addr) (d : Nat) (l : List Int) (C : Option Addr) (ec : Nat) (h : List Int) (D : Option Addr) (ed : Nat) (g : List Int) (F : Option Addr) (ef : Nat) (shut : List Bool) (w : World) (hN : In64 N) (hS : In64 S) (hT : In64 T)
    (hl3 : ∀ a ∈ l3, In64 a.1 ∧ In64 a.2.1 ∧ In64 a.2.2) (hc : l3.length ≤ c) (hcm : c ≤ maxLen) (hA : Sl w A l3.length 3 (cat rawCells l3)) (hB : SlI w B l) (hl : ∀ x ∈ l, -9223372036854775808 ≤ x ∧ x ≤ 9223372036854775807) (hlm : l.length ≤ 9223372036854775807)
    (hC : SlI w C h) (hh : ∀ x ∈ h, -9223372036854775808 ≤ x ∧ x ≤ 9223372036854775807) (hhl : h.length ≤ 9223372036854775807)
    (hD : SlI w D g) (hg : ∀ x ∈ g, -9223372036854775808 ≤ x ∧ x ≤ 9223372036854775807) (hgl : g.length ≤ 9223372036854775807) (hF : SlB w F shut) (hsl : shut.length ≤ 9223372036854775807) :
    Calls Try.prog 4 #[.agg #[.int .i64 N, .int .i64 S, .int .i64 T, .slice A l3.length c], .slice B l.length d, .slice C h.length ec, .slice D g.length ed, .slice F shut.length ef] w fun e w' => e = .returned (.bool true) ∧ Fr [] w w' := by
  have HB0 := Lib.hid (Blk.new w [.int .i64 N, .int .i64 S, .int .i64 T, .slice A l3.length c] 24)
  have HSM := Lib.hid (some_any N S T A c l3 16 40 (w.alloc (.cells #[.int .i64 N, .int .i64 S, .int .i64 T, .slice A l3.length c] 24)) hN hS hT hl3 hc hcm (Sl.fr0 hA ((Fr.refl [] w).alloc _)) (by omega) (by omega) (by omega))
  have HBL := Lib.hid hB
  have HLL := Lib.hid hl
  have HC := Lib.hid hC
  have HH := Lib.hid hh
  have HD := Lib.hid hD
  have HG := Lib.hid hg
  have HFS := Lib.hid hF
  clear hA hB hl hC hh hD hg hF hl3 hN hS hT
  go_enter Try.func4, Try.ntmps4
  go_wp2_with (refine wl_load rfl rfl rfl _ HB0.out Try.underlying24 rfl (by kernel_rfl) ?_)
  refine HSM.out.mono ?_
  rintro e w1 ⟨G, A1, c1, rfl, hG, hNV, hF1⟩
  have HF1 := Lib.hid (((Fr.refl [] w).alloc _).trans hF1)
  have HNV := Lib.hid hNV
  clear hF1 hNV HSM HB0
  go_wp2_with fail
  refine (left_any G hG A1 c1 B d l w1 HNV.out (HBL.out.fr0 HF1.out) HLL.out hlm).mono ?_
  rintro e w2 ⟨base, f, AF, AH, AR, AC, AA, AB, cF, cH, cR, cC, cA, cB, A2, c2, rfl, hV, hI, hfo, hfz, hown, hbs, hF2⟩
  obtain ⟨R, hR⟩ : ∃ R, R = resOf G.ar G.E f := ⟨_, rfl⟩
  have hRl : R.length = G.E.length := by rw [hR, resOf_len]
  rw [← hR] at hown
  obtain ⟨c', hc', hve, hsl2⟩ := Sl.of_own hown (by decide)
  have HNC : Hid (A2 = none → c2 = 0) := Lib.hid (by
    rintro rfl
    rcases hown.2 with ⟨h1, _⟩ | ⟨g, cap, cur, h1, _⟩
    · simp only [Value.slice.injEq] at h1; exact h1.2.2
    · simp at h1)
  simp only [Value.slice.injEq] at hve
  obtain ⟨hA0, -, hcc⟩ := hve
  rw [← hA0] at hsl2
  have HS2 : Hid (SlI w2 A2 R) := Lib.hid (by unfold SlI; rw [hRl]; exact hsl2)
  have HV2 := Lib.hid hV
  have HF2 := Lib.hid (HF1.out.trans hF2)
  have hEl := E_len hG
  have HRL := Lib.hid hRl
  clear hV hI hfo hfz hown hbs hF2 hc' hsl2 hA0 hcc hR HNV
  rw [← hRl] at hEl ⊢
  clear hRl
  have HLS : Hid (∀ (W : World) (r h : List Int) (A B : Option Addr) (c d : Nat), Fr [] w2 W → SlI W A r → SlI W B h → r.length = R.length → Hts G h → Calls Try.prog 11 #[.agg (csrCells G AF AH AR AC AA AB cF cH cR cC cA cB).toArray, .slice A R.length c, .slice B G.N d] W fun e w' => ∃ out A' c', e = .returned (.slice A' G.N c') ∧ (out : List Int).length = G.N ∧ SlI w' A' out ∧ (∀ x ∈ out, 0 ≤ x ∧ x ≤ (G.N : Int)) ∧ Best (Open G r) (fn h) (fn out) ∧ Fr [] W w') := Lib.hid fun W r h A B c d hW hA hB h1 h2 => by
    have h3 := lower_any G hG AF AH AR AC AA AB cF cH cR cC cA cB r h A B c d W (HV2.out.fr0 hW) hA hB (by omega) (by rw [h2.1]; have := hG.n16; omega)
    rw [h1, h2.1] at h3
    refine h3.mono fun e w' ⟨out, A', c', he, hs, hp, hF⟩ => ?_
    obtain ⟨hl, hb, hbest⟩ := hp.yes (by rw [h1]; exact HRL.out) h2
    exact ⟨out, A', c', by rw [he, hl], hl, hs, hb, hbest, hF⟩
  have HHT : Hid (∀ (W : World), Fr [] w2 W → Calls Try.prog 9 #[.agg (csrCells G AF AH AR AC AA AB cF cH cR cC cA cB).toArray, .slice C h.length ec] W (HeightsOk G.N G.S G.T W)) := Lib.hid fun W hW =>
    heights_core G.N G.S G.T _ _ _ _ _ _ C ec h W hG.n2 hG.n16 hG.s hG.t hG.st (HC.out.fr0 (HF2.out.trans hW)) HH.out hhl
  have HGT : Hid (∀ (W : World), Fr [] w2 W → Calls Try.prog 9 #[.agg (csrCells G AF AH AR AC AA AB cF cH cR cC cA cB).toArray, .slice D g.length ed] W (HeightsOk G.N G.S G.T W)) := Lib.hid fun W hW =>
    heights_core G.N G.S G.T _ _ _ _ _ _ D ed g W hG.n2 hG.n16 hG.s hG.t hG.st (HD.out.fr0 (HF2.out.trans hW)) HG.out hgl
  obtain ⟨H1, H2⟩ := csr_one G AF AH AR AC AA AB cF cH cR cC cA cB
  obtain ⟨cs, hcs⟩ : ∃ cs, cs = csrCells G AF AH AR AC AA AB cF cH cR cC cA cB := ⟨_, rfl⟩
  have HC0 : Hid (cs[0]? = some (.int .i64 G.N)) := Lib.hid (by rw [hcs]; rfl)
  rw [← hcs] at H1 H2 HLS HHT HGT
  rw [← hcs]
  have H1' := Lib.hid H1
  have H2' := Lib.hid H2
  have hN16 := hG.n16
  clear hcs H1 H2 HV2
  go_upto_region 2 with (refine wl_store_new rfl rfl cs (by simp) rfl rfl (by rw [H2'.out]; kernel_rfl) (by rw [H2'.out]; rfl) H1'.out ?_)
  obtain ⟨cb, hcb⟩ : ∃ b, b = w2.heap.size := ⟨_, rfl⟩
  obtain ⟨w3, hw3⟩ : ∃ W, W = w2.alloc (.cells cs.toArray 29) := ⟨_, rfl⟩
  rw [← hw3, ← hcb]
  have HC3 : Hid (Blk w3 cb cs 29) := Lib.hid (by rw [hw3, hcb]; exact Blk.new _ _ _)
  have HF3 : Hid (Fr [] w2 w3) := Lib.hid (by rw [hw3]; exact (Fr.refl _ _).alloc _)
  clear hw3 hcb
  refine wr_begin [5] (fun W => Blk W cb cs 29) (by kernel_rfl) (by exact HC3.out.drew) ?_
  refine wr_read 0 _ rfl (by kernel_rfl) (by kernel_rfl) (by kernel_rfl) (fun _ _ _ h => h) (by kernel_rfl) (by kernel_rfl) (by rfl) (fun _ hF => exec_load_row rfl rfl hF Try.underlying29 rfl (by rw [H2'.out]; kernel_rfl)) ?_
  try simp only [Act.put, List.setIfInBounds_toArray, List.set_cons_zero, List.set_cons_succ]
  refine wr_pure 1 _ rfl (by kernel_rfl) (by kernel_rfl) (by kernel_rfl) (fun _ _ _ h => h) (by kernel_rfl) (by rfl) (fun _ => by go_simp; try with_reducible rfl) ?_
  try simp only [Act.put, List.setIfInBounds_toArray, List.set_cons_zero, List.set_cons_succ]
  refine wr_read 3 _ rfl (by kernel_rfl) (by kernel_rfl) (by kernel_rfl) (fun _ _ _ h => h) (by kernel_rfl) (by kernel_rfl) (by rfl) (fun _ hF => exec_load_row rfl rfl hF Try.underlying29 rfl (by rw [H2'.out]; kernel_rfl)) ?_
  try simp only [Act.put, List.setIfInBounds_toArray, List.set_cons_zero, List.set_cons_succ]
  refine wr_pure 4 _ rfl (by kernel_rfl) (by kernel_rfl) (by kernel_rfl) (fun _ _ _ h => h) (by kernel_rfl) (by rfl) (fun _ => by go_simp; try with_reducible rfl) ?_
  try simp only [Act.put, List.setIfInBounds_toArray, List.set_cons_zero, List.set_cons_succ]
  refine wr_do 2 rfl (by kernel_rfl) (by rfl) (fun K hK => ?_)
  refine wp_call (f := 9) (args := #[.agg cs.toArray, .slice C h.length ec]) (by kernel_rfl) (HHT.out _ HF3.out.drew) ?_
  rintro e w4 ⟨g1, h1, rfl, ht1, hb1, hge1, hF4⟩
  have HT1 : Hid (Hts G h1) := Lib.hid ht1
  have HB1 := Lib.hid hb1
  have HF4 := Lib.hid ((Fr.drew (Fr.refl [] w3)).trans hF4)
  clear ht1 hb1 hge1 hF4
  refine ⟨_, rfl, hK _ _ ⟨fun _ => HC3.out.fr HF4.out (by simp), ?_⟩⟩
  try simp only [Act.put, List.setIfInBounds_toArray, List.set_cons_zero, List.set_cons_succ]
  refine wr_do 5 rfl (by kernel_rfl) (by rfl) (fun K hK => ?_)
  refine wp_call (f := 9) (args := #[.agg cs.toArray, .slice D g.length ed]) (by kernel_rfl) (HGT.out _ (HF3.out.trans HF4.out)) ?_
  rintro e w5 ⟨g2, h2, rfl, ht2, hb2, hge2, hF5⟩
  have HT2 : Hid (Hts G h2) := Lib.hid ht2
  have HB2 := Lib.hid hb2
  have HB1' := Lib.hid (HB1.out.fr hF5 (by simp))
  have HF5 := Lib.hid (HF4.out.trans hF5)
  clear ht2 hb2 hge2 hF5
  refine ⟨_, rfl, hK _ _ ⟨Still.off 5 (by kernel_rfl) (by kernel_rfl), ?_⟩⟩
  try simp only [Act.put, List.setIfInBounds_toArray, List.set_cons_zero, List.set_cons_succ]
  refine wr_pure 6 _ rfl (by kernel_rfl) (by kernel_rfl) (by kernel_rfl) (fun _ _ _ h => h) (by kernel_rfl) (by rfl) (fun _ => by go_simp; try with_reducible rfl) ?_
  try simp only [Act.put, List.setIfInBounds_toArray, List.set_cons_zero, List.set_cons_succ]
  refine wr_pure 7 _ rfl (by kernel_rfl) (by kernel_rfl) (by kernel_rfl) (fun _ _ _ h => h) (by kernel_rfl) (by rfl) (fun _ => by go_simp; try with_reducible rfl) ?_
  try simp only [Act.put, List.setIfInBounds_toArray, List.set_cons_zero, List.set_cons_succ]
  refine wr_done (by kernel_rfl) ?_ _
  have HC5 := Lib.hid (HC3.out.fr HF5.out (by simp))
  have c0 := HC5.out.cell HC0.out
  have hmk := run_mk (P := Try.prog) Try.underlying26 infoIntC (by omega) G.N (by omega) w5
  go_upto_region 4 with (fail)
  clear hmk
  obtain ⟨gb, hgb⟩ : ∃ b, b = w5.heap.size := ⟨_, rfl⟩
  obtain ⟨w6, hw6⟩ : ∃ W, W = w5.alloc (.cells (Array.replicate G.N (Value.int .i64 0)) 3) := ⟨_, rfl⟩
  rw [← hw6, ← hgb]
  have hbl : (bothL h1 h2).length = G.N := bothL_len HT1.out.1 HT2.out.1
  have HG6 : Hid (Blk w6 gb (ints (fill (bothL h1 h2) 0 0)) 3) := Lib.hid (by rw [hw6, hgb, fill_zero, hbl, ints, List.map_replicate]; exact Blk.new_rep _ _ _ rfl)
  have HB16 : Hid (Blk w6 g1 (ints h1) 3) := Lib.hid (by rw [hw6]; exact HB1'.out.alloc _)
  have HB26 : Hid (Blk w6 g2 (ints h2) 3) := Lib.hid (by rw [hw6]; exact HB2.out.alloc _)
  have HGN : Hid (g1 ≠ gb ∧ g2 ≠ gb ∧ cb ≠ gb) := Lib.hid (by have := HB1'.out.lt; have := HB2.out.lt; have := HC5.out.lt; omega)
  have HC6 : Hid (Blk w6 cb cs 29) := Lib.hid (by rw [hw6]; exact HC5.out.alloc _)
  have HF6 : Hid (Fr [] w3 w6) := Lib.hid (by rw [hw6]; exact HF5.out.alloc _)
  have HGZ : Hid (w3.heap.size ≤ gb) := Lib.hid (by rw [hgb]; exact HF5.out.size)
  have HBL2 := Lib.hid hbl
  clear hw6 hgb HB1 HB1' HB2 HC5 HF5 HF4 c0 hbl HC3
  go_wp2_with fail
  go_loopw [14, 40] (fun _ i wr => ∃ k : Nat, i = .int .i64 k ∧ k ≤ G.N ∧ Blk wr gb (ints (fill (bothL h1 h2) k 0)) 3 ∧ Fr [gb] w6 wr) (fun _ i _ => G.N - (intOf i).toNat)
  case atStart => exact ⟨0, rfl, Nat.zero_le _, HG6.out, Fr.refl _ _⟩
  case round =>
    clear HG6
    obtain ⟨k, rfl, hk, hb, hF⟩ := hrel
    have b1 := HB16.out.fr hF (by simp; have := HGN.out; omega)
    have b2 := HB26.out.fr hF (by simp; have := HGN.out; omega)
    have HB1 := Lib.hid b1
    have HB2 := Lib.hid b2
    have HGB := Lib.hid hb
    have HF := Lib.hid hF
    clear hb hF b1 b2
    by_cases hkN : k < G.N
    · obtain ⟨x, hx⟩ : ∃ x, h1[k]? = some x := ⟨_, List.getElem?_eq_getElem (by rw [HT1.out.1]; exact hkN)⟩
      obtain ⟨y, hy⟩ : ∃ y, h2[k]? = some y := ⟨_, List.getElem?_eq_getElem (by rw [HT2.out.1]; exact hkN)⟩
      have x1 := HB1.out.cell (ints_get hx)
      have x2 := HB2.out.cell (ints_get hy)
      have hfk : (ints (fill (bothL h1 h2) k 0))[k]? = some (.int .i64 0) := ints_get (fill_get _ _ _ (by rw [HBL2.out]; exact hkN))
      have x3 := HGB.out.cell hfk
      have x4 := HGB.out.free k
      obtain ⟨mn, hmn⟩ : ∃ m, (if y < x then y else x) = m := ⟨_, rfl⟩
      have HMN : Hid ((bothL h1 h2)[k]? = some mn) := Lib.hid (by rw [bothL_get hx hy, hmn])
      have k0 : (0 : Int) ≤ (k : Int) := by omega
      have k1 : (k : Int) < (G.N : Int) := by omega
      clear hx hy hfk
      go_upto_region 7 with (fail)
      refine wr_begin [12] (fun W => W.cell? ⟨g1, k, none⟩ = some (.int .i64 x) ∧ W.cell? ⟨g2, k, none⟩ = some (.int .i64 y)) (by kernel_rfl) (by exact ⟨x1, x2⟩) ?_
      refine wr_pure 0 _ rfl (by kernel_rfl) (by kernel_rfl) (by kernel_rfl) (fun _ _ _ h => h) (by kernel_rfl) (by rfl) (fun _ => by go_simp; try with_reducible rfl) ?_
      try simp only [Act.put, List.setIfInBounds_toArray, List.set_cons_zero, List.set_cons_succ]
      refine wr_pure 1 _ rfl (by kernel_rfl) (by kernel_rfl) (by kernel_rfl) (fun _ _ _ h => h) (by kernel_rfl) (by rfl) (fun _ => by go_simp; try with_reducible rfl) ?_
      try simp only [Act.put, List.setIfInBounds_toArray, List.set_cons_zero, List.set_cons_succ]
      refine wr_pure 2 _ rfl (by kernel_rfl) (by kernel_rfl) (by kernel_rfl) (fun _ _ _ h => h) (by kernel_rfl) (by rfl) (fun _ => by go_simp; try with_reducible rfl) ?_
      try simp only [Act.put, List.setIfInBounds_toArray, List.set_cons_zero, List.set_cons_succ]
      refine wr_pure 3 _ rfl (by kernel_rfl) (by kernel_rfl) (by kernel_rfl) (fun _ _ _ h => h) (by kernel_rfl) (by rfl) (fun _ => by go_simp; try with_reducible rfl) ?_
      try simp only [Act.put, List.setIfInBounds_toArray, List.set_cons_zero, List.set_cons_succ]
      refine wr_pure 4 _ rfl (by kernel_rfl) (by kernel_rfl) (by kernel_rfl) (fun _ _ _ h => h) (by kernel_rfl) (by rfl) (fun _ => by go_simp; try with_reducible rfl) ?_
      try simp only [Act.put, List.setIfInBounds_toArray, List.set_cons_zero, List.set_cons_succ]
      refine wr_read 5 _ rfl (by kernel_rfl) (by kernel_rfl) (by kernel_rfl) (fun _ _ _ h => h) (by kernel_rfl) (by kernel_rfl) (by rfl) (fun _ hF => by have hF1 := hF.1; clear hF; go_simp; try with_reducible rfl) ?_
      try simp only [Act.put, List.setIfInBounds_toArray, List.set_cons_zero, List.set_cons_succ]
      refine wr_pure 6 _ rfl (by kernel_rfl) (by kernel_rfl) (by kernel_rfl) (fun _ _ _ h => h) (by kernel_rfl) (by rfl) (fun _ => by go_simp; try with_reducible rfl) ?_
      try simp only [Act.put, List.setIfInBounds_toArray, List.set_cons_zero, List.set_cons_succ]
      refine wr_pure 7 _ rfl (by kernel_rfl) (by kernel_rfl) (by kernel_rfl) (fun _ _ _ h => h) (by kernel_rfl) (by rfl) (fun _ => by go_simp; try with_reducible rfl) ?_
      try simp only [Act.put, List.setIfInBounds_toArray, List.set_cons_zero, List.set_cons_succ]
      refine wr_pure 8 _ rfl (by kernel_rfl) (by kernel_rfl) (by kernel_rfl) (fun _ _ _ h => h) (by kernel_rfl) (by rfl) (fun _ => by go_simp; try with_reducible rfl) ?_
      try simp only [Act.put, List.setIfInBounds_toArray, List.set_cons_zero, List.set_cons_succ]
      refine wr_read 9 _ rfl (by kernel_rfl) (by kernel_rfl) (by kernel_rfl) (fun _ _ _ h => h) (by kernel_rfl) (by kernel_rfl) (by rfl) (fun _ hF => by have hF1 := hF.2; clear hF; go_simp; try with_reducible rfl) ?_
      try simp only [Act.put, List.setIfInBounds_toArray, List.set_cons_zero, List.set_cons_succ]
      refine wr_pure 10 _ rfl (by kernel_rfl) (by kernel_rfl) (by kernel_rfl) (fun _ _ _ h => h) (by kernel_rfl) (by rfl) (fun _ => by go_simp; try with_reducible rfl) ?_
      try simp only [Act.put, List.setIfInBounds_toArray, List.set_cons_zero, List.set_cons_succ]
      refine wr_pure 11 _ rfl (by kernel_rfl) (by kernel_rfl) (by kernel_rfl) (fun _ _ _ h => h) (by kernel_rfl) (by rfl) (fun _ => by go_simp; try with_reducible rfl) ?_
      try simp only [Act.put, List.setIfInBounds_toArray, List.set_cons_zero, List.set_cons_succ]
      refine wr_do 12 rfl (by kernel_rfl) (by rfl) (fun K hK => ?_)
      go_wp2_with fail
      refine ⟨Still.off 12 (by kernel_rfl) (by kernel_rfl), ?_⟩
      try simp only [Act.put, List.setIfInBounds_toArray, List.set_cons_zero, List.set_cons_succ]
      refine wr_done (by kernel_rfl) ?_ _
      go_wp2_with fail
      go_roundw
      case rel =>
        refine ⟨k + 1, by go_num, by omega, ?_, (HF.out.trans ((Fr.refl [gb] wr).setCell (by simp) _)).drew⟩
        rw [← fill_set _ _ _ _ HMN.out, ← ints_set]
        exact (HGB.out.set k _).drew
      case measure => simp [intOf]; omega
    · have hkk : k = G.N := by omega
      subst hkk
      have HT3 := Lib.hid (bothL_hts HT1.out HT2.out)
      have HB3 : Hid (Blk wr gb (ints (bothL h1 h2)) 3) := Lib.hid (by
        have := HGB.out
        rw [show fill (bothL h1 h2) G.N 0 = bothL h1 h2 by rw [← HBL2.out]; exact fill_all _ _] at this
        exact this)
      have HC7 := Lib.hid (HC6.out.fr HF.out (by simp; have := HGN.out; omega))
      have HF7 : Hid (Fr [] w2 wr) := Lib.hid (HF3.out.trans (((HF6.out.more (by simp)).trans HF.out).less (by simp; have := HGZ.out; omega)))
      obtain ⟨w7, rfl⟩ : ∃ w7 : World, w7 = wr := ⟨_, rfl⟩
      have HSW : Hid (∀ W, Fr [] w7 W → Fr [] w2 W ∧ SlI W A2 R ∧ Blk W cb cs 29 ∧ SlI W (some ⟨g1, 0, none⟩) h1 ∧ SlI W (some ⟨g2, 0, none⟩) h2 ∧ SlI W (some ⟨gb, 0, none⟩) (bothL h1 h2)) := Lib.hid fun W hW => ⟨HF7.out.trans hW, HS2.out.fr0 (HF7.out.trans hW), HC7.out.fr hW (by simp), (SlI.of_blk HB1.out).fr0 hW, (SlI.of_blk HB2.out).fr0 hW, (SlI.of_blk HB3.out).fr0 hW⟩
      clear HGB HF HF6 HB16 HB26 HC6 HF3 HB1 HB2 HB3
      go_upto_region 9 with (fail)
      refine wr_begin [11] (fun W => Blk W cb cs 29) (by kernel_rfl) (by exact HC7.out.drew) ?_
      refine wr_read 0 _ rfl (by kernel_rfl) (by kernel_rfl) (by kernel_rfl) (fun _ _ _ h => h) (by kernel_rfl) (by kernel_rfl) (by rfl) (fun _ hF => exec_load_row rfl rfl hF Try.underlying29 rfl (by rw [H2'.out]; kernel_rfl)) ?_
      try simp only [Act.put, List.setIfInBounds_toArray, List.set_cons_zero, List.set_cons_succ]
      refine wr_pure 1 _ rfl (by kernel_rfl) (by kernel_rfl) (by kernel_rfl) (fun _ _ _ h => h) (by kernel_rfl) (by rfl) (fun _ => by go_simp; try with_reducible rfl) ?_
      try simp only [Act.put, List.setIfInBounds_toArray, List.set_cons_zero, List.set_cons_succ]
      refine wr_pure 2 _ rfl (by kernel_rfl) (by kernel_rfl) (by kernel_rfl) (fun _ _ _ h => h) (by kernel_rfl) (by rfl) (fun _ => by go_simp; try with_reducible rfl) ?_
      try simp only [Act.put, List.setIfInBounds_toArray, List.set_cons_zero, List.set_cons_succ]
      refine wr_read 4 _ rfl (by kernel_rfl) (by kernel_rfl) (by kernel_rfl) (fun _ _ _ h => h) (by kernel_rfl) (by kernel_rfl) (by rfl) (fun _ hF => exec_load_row rfl rfl hF Try.underlying29 rfl (by rw [H2'.out]; kernel_rfl)) ?_
      try simp only [Act.put, List.setIfInBounds_toArray, List.set_cons_zero, List.set_cons_succ]
      refine wr_pure 5 _ rfl (by kernel_rfl) (by kernel_rfl) (by kernel_rfl) (fun _ _ _ h => h) (by kernel_rfl) (by rfl) (fun _ => by go_simp; try with_reducible rfl) ?_
      try simp only [Act.put, List.setIfInBounds_toArray, List.set_cons_zero, List.set_cons_succ]
      refine wr_pure 6 _ rfl (by kernel_rfl) (by kernel_rfl) (by kernel_rfl) (fun _ _ _ h => h) (by kernel_rfl) (by rfl) (fun _ => by go_simp; try with_reducible rfl) ?_
      try simp only [Act.put, List.setIfInBounds_toArray, List.set_cons_zero, List.set_cons_succ]
      refine wr_read 8 _ rfl (by kernel_rfl) (by kernel_rfl) (by kernel_rfl) (fun _ _ _ h => h) (by kernel_rfl) (by kernel_rfl) (by rfl) (fun _ hF => exec_load_row rfl rfl hF Try.underlying29 rfl (by rw [H2'.out]; kernel_rfl)) ?_
      try simp only [Act.put, List.setIfInBounds_toArray, List.set_cons_zero, List.set_cons_succ]
      refine wr_pure 9 _ rfl (by kernel_rfl) (by kernel_rfl) (by kernel_rfl) (fun _ _ _ h => h) (by kernel_rfl) (by rfl) (fun _ => by go_simp; try with_reducible rfl) ?_
      try simp only [Act.put, List.setIfInBounds_toArray, List.set_cons_zero, List.set_cons_succ]
      refine wr_pure 10 _ rfl (by kernel_rfl) (by kernel_rfl) (by kernel_rfl) (fun _ _ _ h => h) (by kernel_rfl) (by rfl) (fun _ => by go_simp; try with_reducible rfl) ?_
      try simp only [Act.put, List.setIfInBounds_toArray, List.set_cons_zero, List.set_cons_succ]
      refine wr_do 3 rfl (by kernel_rfl) (by rfl) (fun K hK => ?_)
      have h0 := HSW.out _ (Fr.drew (Fr.refl [] w7))
      refine wp_call (f := 11) (args := #[.agg cs.toArray, .slice A2 R.length c2, .slice (some ⟨g1, 0, none⟩) G.N G.N]) (by kernel_rfl) (HLS.out _ R h1 A2 (some ⟨g1, 0, none⟩) c2 G.N h0.1 h0.2.1 h0.2.2.2.1 rfl HT1.out) ?_
      rintro e w8 ⟨o1, A8, c8, rfl, hl8, hs8, hb8, hp8, hF8⟩
      have HL8 := Lib.hid hl8
      have HS8 := Lib.hid hs8
      have HP8 := Lib.hid hp8
      have HF8 := Lib.hid ((Fr.drew (Fr.refl [] w7)).trans hF8)
      clear hl8 hs8 hb8 hp8 hF8 h0
      refine ⟨_, rfl, hK _ _ ⟨fun _ => (HSW.out _ HF8.out).2.2.1, ?_⟩⟩
      try simp only [Act.put, List.setIfInBounds_toArray, List.set_cons_zero, List.set_cons_succ]
      refine wr_do 7 rfl (by kernel_rfl) (by rfl) (fun K hK => ?_)
      have h0 := HSW.out _ HF8.out
      refine wp_call (f := 11) (args := #[.agg cs.toArray, .slice A2 R.length c2, .slice (some ⟨g2, 0, none⟩) G.N G.N]) (by kernel_rfl) (HLS.out _ R h2 A2 (some ⟨g2, 0, none⟩) c2 G.N h0.1 h0.2.1 h0.2.2.2.2.1 rfl HT2.out) ?_
      rintro e w9 ⟨o2, A9, c9, rfl, hl9, hs9, hb9, hp9, hF9⟩
      have HL9 := Lib.hid hl9
      have HS9 := Lib.hid hs9
      have HP9 := Lib.hid hp9
      have HF9b := Lib.hid hF9
      have HF9 := Lib.hid (HF8.out.trans hF9)
      clear hl9 hs9 hb9 hp9 hF9 h0
      refine ⟨_, rfl, hK _ _ ⟨fun _ => (HSW.out _ HF9.out).2.2.1, ?_⟩⟩
      try simp only [Act.put, List.setIfInBounds_toArray, List.set_cons_zero, List.set_cons_succ]
      refine wr_do 11 rfl (by kernel_rfl) (by rfl) (fun K hK => ?_)
      have h0 := HSW.out _ HF9.out
      refine wp_call (f := 11) (args := #[.agg cs.toArray, .slice A2 R.length c2, .slice (some ⟨gb, 0, none⟩) G.N G.N]) (by kernel_rfl) (HLS.out _ R (bothL h1 h2) A2 (some ⟨gb, 0, none⟩) c2 G.N h0.1 h0.2.1 h0.2.2.2.2.2 rfl HT3.out) ?_
      rintro e w10 ⟨o3, A10, c10, rfl, hl10, hs10, hb10, hp10, hF10⟩
      have HL10 := Lib.hid hl10
      have HS10 := Lib.hid hs10
      have HP10 := Lib.hid hp10
      have HS9' := Lib.hid (HS9.out.fr0 hF10)
      have HS8' := Lib.hid ((HS8.out.fr0 HF9b.out).fr0 hF10)
      have HF10 := Lib.hid (HF9.out.trans hF10)
      clear hl10 hs10 hb10 hp10 hF10 h0
      refine ⟨_, rfl, hK _ _ ⟨Still.off 11 (by kernel_rfl) (by kernel_rfl), ?_⟩⟩
      try simp only [Act.put, List.setIfInBounds_toArray, List.set_cons_zero, List.set_cons_succ]
      refine wr_pure 12 _ rfl (by kernel_rfl) (by kernel_rfl) (by kernel_rfl) (fun _ _ _ h => h) (by kernel_rfl) (by rfl) (fun _ => by go_simp; try with_reducible rfl) ?_
      try simp only [Act.put, List.setIfInBounds_toArray, List.set_cons_zero, List.set_cons_succ]
      refine wr_pure 13 _ rfl (by kernel_rfl) (by kernel_rfl) (by kernel_rfl) (fun _ _ _ h => h) (by kernel_rfl) (by rfl) (fun _ => by go_simp; try with_reducible rfl) ?_
      try simp only [Act.put, List.setIfInBounds_toArray, List.set_cons_zero, List.set_cons_succ]
      refine wr_pure 14 _ rfl (by kernel_rfl) (by kernel_rfl) (by kernel_rfl) (fun _ _ _ h => h) (by kernel_rfl) (by rfl) (fun _ => by go_simp; try with_reducible rfl) ?_
      try simp only [Act.put, List.setIfInBounds_toArray, List.set_cons_zero, List.set_cons_succ]
      refine wr_done (by kernel_rfl) ?_ _
      have HS210 := Lib.hid ((HSW.out _ HF10.out).2.1)
      obtain ⟨ii, hi0, hi1, hi2, hi3⟩ := info_parts infoLng
      have HII := Lib.hid (And.intro hi0 (And.intro hi1 (And.intro hi2 hi3)))
      clear hi0 hi1 hi2 hi3
      go_upto_region 10 with (fail)
      go_cut [18] (fun s18 wx => ∃ (A' : Option Addr) (c' : Nat), s18 = .slice A' R.length c' ∧ wx.ownsRow w10.heap.size 2 1 (.slice A' R.length c') R.length (ints R) ∧ Fr [] w10 wx)
      case first =>
        refine wp_region_list (wl_empty (e := 2) rfl rfl (by kernel_rfl) ?_)
        rcases A2 with _ | ad
        · have hn : R.length = 0 := by
            rcases Nat.eq_zero_or_pos R.length with h0 | h0
            · exact h0
            · obtain ⟨_, _, h1, _⟩ := HS210.out.2 h0
              simp at h1
          obtain rfl : R = [] := List.eq_nil_of_length_eq_zero hn
          obtain rfl : c2 = 0 := HNC.out rfl
          go_wp2_with (at_builtin; refine wpList_append_own_none rfl _ _ 25 rfl w10.heap.size 2 ii 1 Try.underlying25 HII.out.1 (.slice (some ⟨w10.heap.size, 0, none⟩) 0 0) 0 [] rfl (own_none w10 _) rfl ?_)
          go_meet
          exact ⟨some ⟨w10.heap.size, 0, none⟩, 0, rfl, own_none w10 _, (Fr.refl _ _).alloc _⟩
        · have HNW : Hid (∀ (j : Nat) u, (ints R)[j]? = some u → (w10.alloc (.cells #[] 2)).cell? (Addr.add ad j) = some u) := Lib.hid (by
            intro j u hu
            have hj := (List.getElem?_eq_some_iff.1 hu).1
            rw [ints_len] at hj
            obtain ⟨g0, off, h1, hc⟩ := HS210.out.2 (by omega)
            simp only [Option.some.injEq] at h1
            subst h1
            rw [Addr.add_mid]
            exact ((Fr.refl [] w10).alloc _).cell (hc j u hu) (by simp))
          have H1C : Hid (∀ u ∈ ints R, u.oneCell' = true) := Lib.hid (by
            intro u hu
            obtain ⟨i, _, rfl⟩ := List.mem_map.1 hu
            rfl)
          have HLD : Hid ((ints R).length = R.length * 1) := Lib.hid (by rw [ints_len]; omega)
          go_wp2_with (at_builtin; refine wpList_append_own_at _ rfl _ _ 25 rfl w10.heap.size 2 ii _ 1 8 Try.underlying25 HII.out.1 HII.out.2.1 HII.out.2.2.1 HII.out.2.2.2 rfl (by decide) (.slice (some ⟨w10.heap.size, 0, none⟩) 0 0) 0 [] rfl (own_none w10 _) ad R.length _ (ints R) rfl HLD.out HNW.out H1C.out (by unfold maxLen; omega) (by omega) (by rw [World.size_alloc]; omega) ?_; intro v4 w6 hown4 hgr4 hnn4 hat4; have HO4 := Lib.hid hown4; have HG4 := Lib.hid hgr4; clear hown4 hgr4 hnn4 hat4)
          go_meet
          have ho := HO4.out
          rw [Nat.zero_add, List.nil_append] at ho
          obtain ⟨A', c', rfl⟩ := ownsRow_slice ho
          exact ⟨A', c', rfl, ho, (((Fr.refl [] w10).alloc _).more (S' := [w10.heap.size]) (by simp)).trans (Fr.of_grown HG4.out (by simp [Value.ownBlock])) |>.less (by simp)⟩
      case rest =>
        obtain ⟨A11, c11, rfl, hO, hF⟩ := hcut
        obtain ⟨w11, rfl⟩ : ∃ w11 : World, w11 = wc := ⟨_, rfl⟩
        have HO0 := Lib.hid hO
        have HF11 := Lib.hid hF
        have HGE : Hid (∀ q, (Value.slice A11 R.length c11).ownBlock = some q → w10.heap.size ≤ q) := Lib.hid (fun q hq => own_ge hO q hq)
        clear hO hF
        go_wp2_with fail
        go_loopw [19, 73] (fun _ i wr => ∃ (k : Nat) (L : List Int), i = .int .i64 k ∧ k ≤ R.length ∧ L.length = R.length ∧ (∀ (i : Nat) x, R[i]? = some x → ∃ y, L[i]? = some y ∧ (y = x ∨ y = 0)) ∧ wr.ownsRow w10.heap.size 2 1 (.slice A11 R.length c11) R.length (ints L) ∧ Fr (Value.slice A11 R.length c11).ownBlock.toList w11 wr) (fun _ i _ => R.length - (intOf i).toNat)
        case atStart => exact ⟨0, R, rfl, Nat.zero_le _, rfl, fun i x hx => ⟨x, hx, .inl rfl⟩, HO0.out, Fr.refl _ _⟩
        case round =>
          clear HO0
          obtain ⟨k, L, rfl, hk, hLn, hle, hO, hF⟩ := hrel
          have HLn := Lib.hid hLn
          have HLe := Lib.hid hle
          have HO := Lib.hid hO
          have HF := Lib.hid hF
          have HFX : Hid (Fr [] w10 wr) := Lib.hid (((HF11.out.more (by simp)).trans hF).less fun x hx _ => HGE.out x (Option.mem_toList.1 hx))
          clear hLn hle hO hF
          by_cases hkR : k < R.length
          · obtain ⟨ag, rfl⟩ : ∃ g, A11 = some ⟨g, 0, none⟩ := by
              rcases HO.out.2 with ⟨h1, _⟩ | ⟨g, cap, cur, h1, _⟩
              · simp only [Value.slice.injEq] at h1
                have := h1.2.1
                omega
              · simp only [Value.slice.injEq] at h1
                exact ⟨g, h1.1⟩
            obtain ⟨lx, hlx⟩ : ∃ y, L[k]? = some y := ⟨_, List.getElem?_eq_getElem (by rw [HLn.out]; exact hkR)⟩
            have z1 := HO.out.cellAt k (by omega)
            rw [ints_get hlx] at z1
            have z2 := HO.out.frozenAt k
            have k0 : (0 : Int) ≤ (k : Int) := by omega
            have k1 : (k : Int) < (R.length : Int) := by omega
            clear hlx
            by_cases hs : k < shut.length
            · obtain ⟨x, hx⟩ : ∃ x, shut[k]? = some x := ⟨_, List.getElem?_eq_getElem hs⟩
              obtain ⟨fg, fo, rfl, y1⟩ := (HFS.out.fr0 (HF2.out.trans (HSW.out _ (HF10.out.trans HFX.out)).1)).at hx
              have t1 : decide ((k : Int) < (shut.length : Int)) = true := by simp; omega
              have t2 : decide (k < shut.length) = true := by simp; omega
              have k2 : (k : Int) < (shut.length : Int) := by omega
              clear hx
              cases x
              · go_wp2_with fail
                go_roundw
                case rel => exact ⟨k + 1, L, by go_num, by omega, HLn.out, HLe.out, HO.out, HF.out⟩
                case measure => simp [intOf]; omega
              · go_wp2_with fail
                go_roundw
                case rel =>
                  refine ⟨k + 1, L.set k 0, by go_num, by omega, by rw [List.length_set]; exact HLn.out, less_set HLe.out k, ?_, HF.out.setCell (by simp [Value.ownBlock]) _⟩
                  rw [← ints_set]
                  exact (HO.out.stored k _).1
                case measure => simp [intOf]; omega
            · have t1 : decide ((k : Int) < (shut.length : Int)) = false := by simp; omega
              have t2 : decide (k < shut.length) = false := by simp; omega
              go_wp2_with fail
              go_roundw
              case rel => exact ⟨k + 1, L, by go_num, by omega, HLn.out, HLe.out, HO.out, HF.out⟩
              case measure => simp [intOf]; omega
          · have hkk : k = R.length := by omega
            subst hkk
            clear hkR hk
            obtain ⟨w12, rfl⟩ : ∃ w12 : World, w12 = wr := ⟨_, rfl⟩
            have HW := Lib.hid (HSW.out _ (HF10.out.trans HFX.out))
            have HB12 := Lib.hid HW.out.2.2.1
            have HL12 : Hid (SlI w12 A11 L) := Lib.hid (by
              obtain ⟨_, _, hve, hsl⟩ := Sl.of_own HO.out (by decide)
              simp only [Value.slice.injEq] at hve
              rw [← hve.1] at hsl
              unfold SlI
              rw [HLn.out]
              exact hsl)
            clear HO HF
            go_wp2_with (refine wl_load rfl rfl rfl cs HB12.out Try.underlying29 rfl (by rw [H2'.out]; kernel_rfl) ?_)
            refine (HLS.out _ L h1 A11 (some ⟨g1, 0, none⟩) c11 G.N HW.out.1 HL12.out HW.out.2.2.2.1 HLn.out HT1.out).mono ?_
            rintro e w13 ⟨o4, A13, c13, rfl, hl13, hs13, hb13, hp13, hF13⟩
            have HL13 := Lib.hid hl13
            have HS13 := Lib.hid hs13
            have HP13 := Lib.hid hp13
            have HF13 := Lib.hid (HFX.out.trans hF13)
            have c0 := ((HSW.out _ (HF10.out.trans HF13.out)).2.2.1).cell HC0.out
            clear hl13 hs13 hb13 hp13 HFX HW
            have HF13b := Lib.hid hF13
            clear hF13
            have q1 : ((G.N : Int) == (G.N : Int)) = true := by simp
            have q2 : ((G.N : Int) != (G.N : Int)) = false := by simp
            have q3 : (G.N == G.N) = true := by simp
            have q4 : (G.N != G.N) = false := by simp
            go_wp2_with fail
            go_loopw [21, 122] (fun _ i wr => ∃ k : Nat, i = .int .i64 k ∧ k ≤ G.N ∧ Fr [] w13 wr) (fun _ i _ => G.N - (intOf i).toNat)
            case atStart => exact ⟨0, rfl, Nat.zero_le _, Fr.refl _ _⟩
            case round =>
              obtain ⟨k, rfl, hk, hF⟩ := hrel
              have HFK := Lib.hid hF
              clear hF q1 q2 q3 q4 c0
              by_cases hkN : k < G.N
              · obtain ⟨x, hx⟩ : ∃ y, o1[k]? = some y := ⟨_, List.getElem?_eq_getElem (by rw [HL8.out]; exact hkN)⟩
                obtain ⟨y, hy⟩ : ∃ y, o2[k]? = some y := ⟨_, List.getElem?_eq_getElem (by rw [HL9.out]; exact hkN)⟩
                obtain ⟨z, hz⟩ : ∃ y, o3[k]? = some y := ⟨_, List.getElem?_eq_getElem (by rw [HL10.out]; exact hkN)⟩
                obtain ⟨u, hu⟩ : ∃ y, o4[k]? = some y := ⟨_, List.getElem?_eq_getElem (by rw [HL13.out]; exact hkN)⟩
                have hzm : z = min x y := by
                  have h1 := Best.min HP8.out HP9.out (by have := HP10.out; rw [bothL_fn HT1.out.1 HT2.out.1] at this; exact this) k
                  rw [fn_get hx, fn_get hy, fn_get hz] at h1
                  exact h1
                have hux : x ≤ u := by
                  have h1 := Best.mono HP8.out HP13.out (fun u v h => open_less HLe.out HLn.out h) (fun v => Int.le_refl _) k
                  rw [fn_get hx, fn_get hu] at h1
                  exact h1
                obtain ⟨g8, f8, rfl, x1⟩ := (HS8'.out.fr0 (HF13.out.trans HFK.out)).at hx
                obtain ⟨g9, f9, rfl, x2⟩ := (HS9'.out.fr0 (HF13.out.trans HFK.out)).at hy
                obtain ⟨g10, f10, rfl, x3⟩ := (HS10.out.fr0 (HF13.out.trans HFK.out)).at hz
                obtain ⟨g13, f13, rfl, x4⟩ := (HS13.out.fr0 HFK.out).at hu
                have t1 : decide (x < z) = false := by simp; omega
                have t2 : decide (y < z) = false := by simp; omega
                have t3 : (if y < x then y else x) = z := by split <;> omega
                have t4 : decide (u < x) = false := by simp; omega
                have t5 : (z != z) = false := by simp
                have k0 : (0 : Int) ≤ (k : Int) := by omega
                have k1 : (k : Int) < (G.N : Int) := by omega
                clear hx hy hz hu hzm hux
                go_upto_region 23 with (fail)
                go_quiet (fail)
                go_wp2_with fail
                go_roundw
                case rel => exact ⟨k + 1, by go_num, by omega, HFK.out.drewN _⟩
                case measure => simp [intOf]; omega
              · have hkk : k = G.N := by omega
                subst hkk
                go_wp2_with fail
                refine (awake_any wr).mono ?_
                rintro e w15 ⟨rfl, hF15⟩
                have HF15 := Lib.hid hF15
                clear hF15
                go_wp2_with fail
                go_ret
                exact ⟨rfl, HF2.out.trans (HSW.out _ (HF10.out.trans ((HF13.out.trans HFK.out).trans HF15.out))).1⟩
end Acq
