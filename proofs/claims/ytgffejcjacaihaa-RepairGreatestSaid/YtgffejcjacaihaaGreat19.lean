/- RepairGreatest: what heights are made is the greatest that is valid. -/
import Derived.Test.YtgffejcjacaihaaOrder19
import Derived.Test.YtgffejcjacaihaaSteep
set_option linter.unusedSimpArgs false
set_option linter.unnecessarySimpa false
set_option linter.unusedVariables false
namespace Acq
open Go Go.RowKit Go.Proofs Acq.Low

/-- The first `k` of one list, behind them the other one. -/
def mix (x y : List Int) (k : Nat) : List Int := x.take k ++ y.drop k

theorem mix_zero (x y : List Int) : mix x y 0 = y := by simp [mix]

theorem mix_all {x y : List Int} {n : Nat} (hx : x.length = n) (hy : y.length = n) : mix x y n = x := by
  rw [mix, List.take_of_length_le (by omega), List.drop_eq_nil_of_le (by omega), List.append_nil]

theorem mix_get {x y : List Int} {k : Nat} (hk : k ≤ x.length) : (mix x y k)[k]? = y[k]? := by
  rw [mix, List.getElem?_append_right (by rw [List.length_take]; omega), List.length_take, List.getElem?_drop]
  congr 1
  omega

theorem mix_set {x y : List Int} {k : Nat} {v : Int} (hx : x[k]? = some v) (hl : x.length = y.length) : (mix x y k).set k v = mix x y (k + 1) := by
  have hk := (List.getElem?_eq_some_iff.1 hx).1
  apply List.ext_getElem?
  intro i
  by_cases hik : i = k
  · subst hik
    rw [List.getElem?_set_self (by rw [mix, List.length_append, List.length_take, List.length_drop]; omega), mix, List.getElem?_append_left (by rw [List.length_take]; omega), List.getElem?_take_of_lt (by omega), hx]
  · rw [List.getElem?_set_ne (Ne.symm hik), mix, mix]
    by_cases h1 : i < k
    · rw [List.getElem?_append_left (by rw [List.length_take]; omega), List.getElem?_append_left (by rw [List.length_take]; omega), List.getElem?_take_of_lt h1, List.getElem?_take_of_lt (by omega)]
    · rw [List.getElem?_append_right (by rw [List.length_take]; omega), List.getElem?_append_right (by rw [List.length_take]; omega), List.length_take, List.length_take, List.getElem?_drop, List.getElem?_drop]
      congr 1
      omega

theorem SlI.here {w : World} {g off : Nat} {xs : List Int} (h : SlI w (some ⟨g, off, none⟩) xs) {i : Nat} {x : Int} (hx : xs[i]? = some x) : w.cell? ⟨g, off + i, none⟩ = some (.int .i64 x) := by
  obtain ⟨g', off', h1, h2⟩ := h.at hx
  simp only [Option.some.injEq, Addr.mk.injEq, and_true] at h1
  rw [h1.1, h1.2]; exact h2

/-- Lowered by one at the tail of a steep arc: still heights, still below, and the sum is less. -/
theorem lower_one {G : Net} {R h g : List Int} {u v : Nat} (hS : Open G R u v) (hg : Hts G g) (hv : v < G.N) (hu : u < G.N) (hs : 1 < fn g u - fn g v) (hle : ∀ v, fn g v ≤ fn h v) : u ≠ G.T ∧ Hts G (g.set u (fn g u - 1)) ∧ (∀ v, fn (g.set u (fn g u - 1)) v ≤ fn h v) ∧ sumN (g.set u (fn g u - 1)) + 1 ≤ sumN g := by
  obtain ⟨x, hx⟩ : ∃ x, g[u]? = some x := ⟨_, List.getElem?_eq_getElem (by rw [hg.1]; exact hu)⟩
  obtain ⟨y, hy⟩ : ∃ y, g[v]? = some y := ⟨_, List.getElem?_eq_getElem (by rw [hg.1]; exact hv)⟩
  have bx := hg.2.1 x (List.mem_of_getElem? hx)
  have hb := hg.2.1 y (List.mem_of_getElem? hy)
  have huS : u ≠ G.S := hS.1
  rw [fn_get hx, fn_get hy] at hs
  have huT : u ≠ G.T := fun e => by
    have := hg.2.2.1
    rw [← e, hx] at this
    have := Option.some.inj this
    omega
  rw [fn_get hx]
  refine ⟨huT, ⟨by rw [List.length_set]; exact hg.1, fun k hk => ?_, by rw [List.getElem?_set_ne huT]; exact hg.2.2.1, by rw [List.getElem?_set_ne huS]; exact hg.2.2.2⟩, fun z => ?_, sumN_set hx (by omega) (by omega)⟩
  · rcases List.mem_or_eq_of_mem_set hk with h1 | h1
    · exact hg.2.1 k h1
    · omega
  · rw [fn_set (by rw [hg.1]; exact hu)]
    simp only [Acq.Low.upd]
    split
    · rename_i e; subst e; have := hle z; rw [fn_get hx] at this; omega
    · exact hle z

set_option maxRecDepth 100000 in
set_option maxHeartbeats 4000000 in
theorem great19 (N S T : Int) (A : Option Addr) (c : Nat) (l3 : List R3) (B : Option Addr) (d : Nat) (l : List Int) (C : Option Addr) (ec : Nat) (h : List Int) (D : Option Addr) (ed : Nat) (g : List Int) (w : World) (hN : In64 N) (hS : In64 S) (hT : In64 T)
    (hl3 : ∀ a ∈ l3, In64 a.1 ∧ In64 a.2.1 ∧ In64 a.2.2) (hc : l3.length ≤ c) (hcm : c ≤ maxLen) (hA : Sl w A l3.length 3 (cat rawCells l3)) (hB : SlI w B l) (hl : ∀ x ∈ l, -9223372036854775808 ≤ x ∧ x ≤ 9223372036854775807) (hlm : l.length ≤ 9223372036854775807)
    (hC : SlI w C h) (hh : ∀ x ∈ h, -9223372036854775808 ≤ x ∧ x ≤ 9223372036854775807) (hhl : h.length ≤ 9223372036854775807)
    (hD : SlI w D g) (hg : ∀ x ∈ g, -9223372036854775808 ≤ x ∧ x ≤ 9223372036854775807) (hgl : g.length ≤ 9223372036854775807) :
    Calls Try.prog 5 #[.agg #[.int .i64 N, .int .i64 S, .int .i64 T, .slice A l3.length c], .slice B l.length d, .slice C h.length ec, .slice D g.length ed] w fun e w' => e = .returned (.bool true) ∧ Fr [] w w' := by
  have HB0 := Lib.hid (Blk.new w [.int .i64 N, .int .i64 S, .int .i64 T, .slice A l3.length c] 24)
  have HSM := Lib.hid (some_any N S T A c l3 16 40 (w.alloc (.cells #[.int .i64 N, .int .i64 S, .int .i64 T, .slice A l3.length c] 24)) hN hS hT hl3 hc hcm (Sl.fr0 hA ((Fr.refl [] w).alloc _)) (by omega) (by omega) (by omega))
  have HBL := Lib.hid hB
  have HLL := Lib.hid hl
  have HC := Lib.hid hC
  have HH := Lib.hid hh
  have HD := Lib.hid hD
  have HG := Lib.hid hg
  clear hA hB hl hC hh hD hg hl3 hN hS hT
  go_enter Try.func5, Try.ntmps5
  go_wp2_with (refine wl_load rfl rfl rfl _ HB0.out Try.underlying24 rfl (by kernel_rfl) ?_)
  refine HSM.out.mono ?_
  rintro e w1 ⟨G, A1, c1, rfl, hG, hNV, hF1⟩
  have HF1 := Lib.hid (((Fr.refl [] w).alloc _).trans hF1)
  have HNV := Lib.hid hNV
  clear hF1 hNV HSM HB0
  go_wp2_with fail
  refine (left_any G hG A1 c1 B d l w1 HNV.out (HBL.out.fr0 HF1.out) HLL.out hlm).mono ?_
  rintro e w2 ⟨base, f, AF, AH, AR, AC, AA, AB, cF, cH, cR, cC, cA, cB, A2, c2, rfl, hV, hI, hfo, hfz, hown, hbs, hF2⟩
  obtain ⟨R, hR⟩ : ∃ R, R = resOf G.ar G.E f := ⟨_, rfl⟩
  have hRl : R.length = G.E.length := by rw [hR, resOf_len]
  rw [← hR] at hown
  obtain ⟨c', hc', hve, hsl2⟩ := Sl.of_own hown (by decide)
  have HNC : Hid (A2 = none → c2 = 0) := Lib.hid (by
    rintro rfl
    rcases hown.2 with ⟨h1, _⟩ | ⟨g, cap, cur, h1, _⟩
    · simp only [Value.slice.injEq] at h1; exact h1.2.2
    · simp at h1)
  simp only [Value.slice.injEq] at hve
  obtain ⟨hA0, -, hcc⟩ := hve
  rw [← hA0] at hsl2
  have HS2 : Hid (SlI w2 A2 R) := Lib.hid (by unfold SlI; rw [hRl]; exact hsl2)
  have HV2 := Lib.hid hV
  have HF2 := Lib.hid (HF1.out.trans hF2)
  have hEl := E_len hG
  have HRL := Lib.hid hRl
  clear hV hI hfo hfz hown hbs hF2 hc' hsl2 hA0 hcc hR HNV
  rw [← hRl] at hEl ⊢
  clear hRl
  have HLS : Hid (∀ (W : World) (h : List Int) (B : Option Addr) (d : Nat), Fr [] w2 W → SlI W B h → Hts G h → Calls Try.prog 11 #[.agg (csrCells G AF AH AR AC AA AB cF cH cR cC cA cB).toArray, .slice A2 R.length c2, .slice B G.N d] W fun e w' => ∃ out A' c', e = .returned (.slice A' G.N c') ∧ (out : List Int).length = G.N ∧ SlI w' A' out ∧ (∀ x ∈ out, 0 ≤ x ∧ x ≤ (G.N : Int)) ∧ Best (Open G R) (fn h) (fn out) ∧ (∀ g off sp, A' = some ⟨g, off, sp⟩ → W.heap.size ≤ g) ∧ Fr [] W w') := Lib.hid fun W h B d hW hB h2 => by
    have h3 := lower_fresh G hG AF AH AR AC AA AB cF cH cR cC cA cB R h A2 B c2 d W (HV2.out.fr0 hW) (HS2.out.fr0 hW) hB (by omega) (by rw [h2.1]; have := hG.n16; omega)
    rw [h2.1] at h3
    refine h3.mono fun e w' ⟨out, A', c', he, hs, hp, _, hfr, hF⟩ => ?_
    obtain ⟨hl, hb, hbest⟩ := hp HRL.out h2
    exact ⟨out, A', c', by rw [he, hl], hl, hs, hb, hbest, hfr, hF⟩
  have HVA : Hid (∀ (W : World) (h : List Int) (B : Option Addr) (d : Nat), Fr [] w2 W → SlI W B h → Hts G h → Calls Try.prog 16 #[.agg (csrCells G AF AH AR AC AA AB cF cH cR cC cA cB).toArray, .slice A2 R.length c2, .slice B G.N d] W fun e w' => ∃ b : Bool, e = .returned (.bool b) ∧ (b = true ↔ Valid (Open G R) (fn h)) ∧ Fr [] W w') := Lib.hid fun W h B d hW hB h2 => by
    have h3 := valid_any G hG AF AH AR AC AA AB cF cH cR cC cA cB R h A2 B c2 d W (HV2.out.fr0 hW) (HS2.out.fr0 hW) hB HRL.out h2
    rw [h2.1] at h3
    exact h3
  have HST : Hid (∀ (W : World) (h : List Int) (B : Option Addr) (d : Nat), Fr [] w2 W → SlI W B h → Hts G h → Calls Try.prog 17 #[.agg (csrCells G AF AH AR AC AA AB cF cH cR cC cA cB).toArray, .slice A2 R.length c2, .slice B G.N d] W (DownOk G R h steepQ W)) := Lib.hid fun W h B d hW hB h2 => by
    have h3 := steep_any G hG AF AH AR AC AA AB cF cH cR cC cA cB R h A2 B c2 d W (HV2.out.fr0 hW) (HS2.out.fr0 hW) hB HRL.out h2
    rw [h2.1] at h3
    exact h3
  have HTL : Hid (∀ (W : World) (a : Nat) (e : Ent), Fr [] w2 W → G.E[a]? = some e → Calls Try.prog 18 #[.agg (csrCells G AF AH AR AC AA AB cF cH cR cC cA cB).toArray, .int .i64 (a : Nat)] W fun en w' => en = .returned (.tuple #[.int .i64 (e.tl : Nat), .bool true]) ∧ Fr [] W w') := Lib.hid fun W a e hW he =>
    tail_any G hG AF AH AR AC AA AB cF cH cR cC cA cB a e W (HV2.out.fr0 hW) he
  have HHT : Hid (∀ (W : World), Fr [] w2 W → Calls Try.prog 9 #[.agg (csrCells G AF AH AR AC AA AB cF cH cR cC cA cB).toArray, .slice C h.length ec] W (HeightsOk G.N G.S G.T W)) := Lib.hid fun W hW =>
    heights_core G.N G.S G.T _ _ _ _ _ _ C ec h W hG.n2 hG.n16 hG.s hG.t hG.st (HC.out.fr0 (HF2.out.trans hW)) HH.out hhl
  have HGT : Hid (∀ (W : World), Fr [] w2 W → Calls Try.prog 9 #[.agg (csrCells G AF AH AR AC AA AB cF cH cR cC cA cB).toArray, .slice D g.length ed] W (HeightsOk G.N G.S G.T W)) := Lib.hid fun W hW =>
    heights_core G.N G.S G.T _ _ _ _ _ _ D ed g W hG.n2 hG.n16 hG.s hG.t hG.st (HD.out.fr0 (HF2.out.trans hW)) HG.out hgl
  obtain ⟨H1, H2⟩ := csr_one G AF AH AR AC AA AB cF cH cR cC cA cB
  obtain ⟨cs, hcs⟩ : ∃ cs, cs = csrCells G AF AH AR AC AA AB cF cH cR cC cA cB := ⟨_, rfl⟩
  have HC0 : Hid (cs[0]? = some (.int .i64 G.N)) := Lib.hid (by rw [hcs]; rfl)
  have HC1 : Hid (cs[1]? = some (.int .i64 G.S)) := Lib.hid (by rw [hcs]; rfl)
  have HC2 : Hid (cs[2]? = some (.int .i64 G.T)) := Lib.hid (by rw [hcs]; rfl)
  rw [← hcs] at H1 H2 HLS HHT HGT HVA HST HTL
  rw [← hcs]
  have H1' := Lib.hid H1
  have H2' := Lib.hid H2
  have hN16 := hG.n16
  clear hcs H1 H2 HV2
  go_upto_region 2 with (refine wl_store_new rfl rfl cs (by simp) rfl rfl (by rw [H2'.out]; kernel_rfl) (by rw [H2'.out]; rfl) H1'.out ?_)
  obtain ⟨cb, hcb⟩ : ∃ b, b = w2.heap.size := ⟨_, rfl⟩
  obtain ⟨w3, hw3⟩ : ∃ W, W = w2.alloc (.cells cs.toArray 29) := ⟨_, rfl⟩
  rw [← hw3, ← hcb]
  have HC3 : Hid (Blk w3 cb cs 29) := Lib.hid (by rw [hw3, hcb]; exact Blk.new _ _ _)
  have HF3 : Hid (Fr [] w2 w3) := Lib.hid (by rw [hw3]; exact (Fr.refl _ _).alloc _)
  clear hw3 hcb
  refine wr_begin [5] (fun W => Blk W cb cs 29) (by kernel_rfl) (by exact HC3.out.drew) ?_
  refine wr_read 0 _ rfl (by kernel_rfl) (by kernel_rfl) (by kernel_rfl) (fun _ _ _ h => h) (by kernel_rfl) (by kernel_rfl) (by rfl) (fun _ hF => exec_load_row rfl rfl hF Try.underlying29 rfl (by rw [H2'.out]; kernel_rfl)) ?_
  try simp only [Act.put, List.setIfInBounds_toArray, List.set_cons_zero, List.set_cons_succ]
  refine wr_pure 1 _ rfl (by kernel_rfl) (by kernel_rfl) (by kernel_rfl) (fun _ _ _ h => h) (by kernel_rfl) (by rfl) (fun _ => by go_simp; try with_reducible rfl) ?_
  try simp only [Act.put, List.setIfInBounds_toArray, List.set_cons_zero, List.set_cons_succ]
  refine wr_read 3 _ rfl (by kernel_rfl) (by kernel_rfl) (by kernel_rfl) (fun _ _ _ h => h) (by kernel_rfl) (by kernel_rfl) (by rfl) (fun _ hF => exec_load_row rfl rfl hF Try.underlying29 rfl (by rw [H2'.out]; kernel_rfl)) ?_
  try simp only [Act.put, List.setIfInBounds_toArray, List.set_cons_zero, List.set_cons_succ]
  refine wr_pure 4 _ rfl (by kernel_rfl) (by kernel_rfl) (by kernel_rfl) (fun _ _ _ h => h) (by kernel_rfl) (by rfl) (fun _ => by go_simp; try with_reducible rfl) ?_
  try simp only [Act.put, List.setIfInBounds_toArray, List.set_cons_zero, List.set_cons_succ]
  refine wr_do 2 rfl (by kernel_rfl) (by rfl) (fun K hK => ?_)
  refine wp_call (f := 9) (args := #[.agg cs.toArray, .slice C h.length ec]) (by kernel_rfl) (HHT.out _ HF3.out.drew) ?_
  rintro e w4 ⟨g1, h1, rfl, ht1, hb1, hge1, hF4⟩
  have HT1 : Hid (Hts G h1) := Lib.hid ht1
  have HB1 := Lib.hid hb1
  have HF4 := Lib.hid ((Fr.drew (Fr.refl [] w3)).trans hF4)
  clear ht1 hb1 hge1 hF4
  refine ⟨_, rfl, hK _ _ ⟨fun _ => HC3.out.fr HF4.out (by simp), ?_⟩⟩
  try simp only [Act.put, List.setIfInBounds_toArray, List.set_cons_zero, List.set_cons_succ]
  refine wr_do 5 rfl (by kernel_rfl) (by rfl) (fun K hK => ?_)
  refine wp_call (f := 9) (args := #[.agg cs.toArray, .slice D g.length ed]) (by kernel_rfl) (HGT.out _ (HF3.out.trans HF4.out)) ?_
  rintro e w5 ⟨g2, h2, rfl, ht2, hb2, hge2, hF5⟩
  have HT2 : Hid (Hts G h2) := Lib.hid ht2
  have HB2 := Lib.hid hb2
  have HB1' := Lib.hid (HB1.out.fr hF5 (by simp))
  have HF5 := Lib.hid (HF4.out.trans hF5)
  have HGE2 := Lib.hid hge2
  clear ht2 hb2 hge2 hF5
  refine ⟨_, rfl, hK _ _ ⟨Still.off 5 (by kernel_rfl) (by kernel_rfl), ?_⟩⟩
  try simp only [Act.put, List.setIfInBounds_toArray, List.set_cons_zero, List.set_cons_succ]
  refine wr_pure 6 _ rfl (by kernel_rfl) (by kernel_rfl) (by kernel_rfl) (fun _ _ _ h => h) (by kernel_rfl) (by rfl) (fun _ => by go_simp; try with_reducible rfl) ?_
  try simp only [Act.put, List.setIfInBounds_toArray, List.set_cons_zero, List.set_cons_succ]
  refine wr_pure 7 _ rfl (by kernel_rfl) (by kernel_rfl) (by kernel_rfl) (fun _ _ _ h => h) (by kernel_rfl) (by rfl) (fun _ => by go_simp; try with_reducible rfl) ?_
  try simp only [Act.put, List.setIfInBounds_toArray, List.set_cons_zero, List.set_cons_succ]
  refine wr_done (by kernel_rfl) ?_ _
  have HC5 := Lib.hid (HC3.out.fr HF5.out (by simp))
  have HSW : Hid (∀ W, Fr [] w5 W → Fr [] w2 W ∧ SlI W A2 R ∧ Blk W cb cs 29 ∧ SlI W (some ⟨g1, 0, none⟩) h1) := Lib.hid fun W hW => ⟨(HF3.out.trans HF5.out).trans hW, HS2.out.fr0 ((HF3.out.trans HF5.out).trans hW), HC5.out.fr hW (by simp), (SlI.of_blk HB1'.out).fr0 hW⟩
  go_wp2_with (refine wl_load rfl rfl rfl cs HC5.out Try.underlying29 rfl (by rw [H2'.out]; kernel_rfl) ?_)
  refine (HLS.out _ h1 (some ⟨g1, 0, none⟩) G.N (HSW.out _ (Fr.refl [] w5)).1 (HSW.out _ (Fr.refl [] w5)).2.2.2 HT1.out).mono ?_
  rintro e w6 ⟨o1, A8, c8, rfl, hl8, hs8, hb8, hp8, hfr8, hF6⟩
  have HL8 := Lib.hid hl8
  have HP8 := Lib.hid hp8
  have hto := best_hts hG.s HT1.out hl8 hb8 hp8 hG.t
  have HTO := Lib.hid hto
  obtain ⟨g8, f8, rfl, -⟩ := hs8.at hto.2.2.1
  have HS8 := Lib.hid hs8
  have HGE8 := Lib.hid (hfr8 g8 f8 none rfl)
  clear hfr8
  have x1 : w6.cell? ⟨g8, f8 + G.S, none⟩ = some (.int .i64 G.N) := by
    obtain ⟨g, off, h1, h2⟩ := hs8.at hto.2.2.2
    simp only [Option.some.injEq, Addr.mk.injEq, and_true] at h1
    rw [h1.1, h1.2]; exact h2
  have x2 : w6.cell? ⟨g8, f8 + G.T, none⟩ = some (.int .i64 0) := by
    obtain ⟨g, off, h1, h2⟩ := hs8.at hto.2.2.1
    simp only [Option.some.injEq, Addr.mk.injEq, and_true] at h1
    rw [h1.1, h1.2]; exact h2
  have HX1 := Lib.hid x1
  have HX2 := Lib.hid x2
  have HF6 := Lib.hid hF6
  have HC6 := Lib.hid (HSW.out _ hF6).2.2.1
  have S0 : (0 : Int) ≤ (G.S : Int) := by omega
  have S1 : (G.S : Int) < (G.N : Int) := by have := hG.s; omega
  have T0 : (0 : Int) ≤ (G.T : Int) := by omega
  have T1 : (G.T : Int) < (G.N : Int) := by have := hG.t; omega
  have q1 : (((G.N : Int) : Int) == ((G.N : Int) : Int)) = true := by simp
  have q2 : (((G.N : Int) : Int) != ((G.N : Int) : Int)) = false := by simp
  have q3 : ((G.N : Int) == (G.N : Int)) = true := by simp
  have q4 : ((G.N : Int) != (G.N : Int)) = false := by simp
  clear hl8 hs8 hb8 hp8 hto hF6 x1 x2
  go_upto_region 4 with (fail)
  refine wr_begin [] (fun W => Blk W cb cs 29 ∧ W.cell? ⟨g8, f8 + G.S, none⟩ = some (.int .i64 G.N) ∧ W.cell? ⟨g8, f8 + G.T, none⟩ = some (.int .i64 0)) (by kernel_rfl) (by exact ⟨HC6.out.drew, HX1.out, HX2.out⟩) ?_
  refine wr_read 0 _ rfl (by kernel_rfl) (by kernel_rfl) (by kernel_rfl) (fun _ _ _ h => h) (by kernel_rfl) (by kernel_rfl) (by rfl) (fun _ hF => exec_load_row rfl rfl hF.1 Try.underlying29 rfl (by rw [H2'.out]; kernel_rfl)) ?_
  try simp only [Act.put, List.setIfInBounds_toArray, List.set_cons_zero, List.set_cons_succ]
  refine wr_pure 1 _ rfl (by kernel_rfl) (by kernel_rfl) (by kernel_rfl) (fun _ _ _ h => h) (by kernel_rfl) (by rfl) (fun _ => by go_simp; try with_reducible rfl) ?_
  try simp only [Act.put, List.setIfInBounds_toArray, List.set_cons_zero, List.set_cons_succ]
  refine wr_pure 2 _ rfl (by kernel_rfl) (by kernel_rfl) (by kernel_rfl) (fun _ _ _ h => h) (by kernel_rfl) (by rfl) (fun _ => by go_simp; try with_reducible rfl) ?_
  try simp only [Act.put, List.setIfInBounds_toArray, List.set_cons_zero, List.set_cons_succ]
  refine wr_do 3 rfl (by kernel_rfl) (by rfl) (fun K hK => ?_)
  refine wp_call (f := 16) (args := #[.agg cs.toArray, .slice A2 R.length c2, .slice (some ⟨g8, f8, none⟩) G.N c8]) (by kernel_rfl) (HVA.out _ o1 (some ⟨g8, f8, none⟩) c8 ((HSW.out _ HF6.out.drew).1) (HS8.out.fr0 (Fr.drew (Fr.refl [] w6))) HTO.out) ?_
  rintro e w7 ⟨b, rfl, hbv, hF7⟩
  obtain rfl := hbv.2 HP8.out.valid
  have HF7 := Lib.hid ((Fr.drew (Fr.refl [] w6)).trans hF7)
  clear hbv hF7
  refine ⟨_, rfl, hK _ _ ⟨fun _ => ⟨(HSW.out _ (HF6.out.trans HF7.out)).2.2.1, HF7.out.cell HX1.out (by simp), HF7.out.cell HX2.out (by simp)⟩, ?_⟩⟩
  try simp only [Act.put, List.setIfInBounds_toArray, List.set_cons_zero, List.set_cons_succ]
  refine wr_pure 4 _ rfl (by kernel_rfl) (by kernel_rfl) (by kernel_rfl) (fun _ _ _ h => h) (by kernel_rfl) (by rfl) (fun _ => by go_simp; try with_reducible rfl) ?_
  try simp only [Act.put, List.setIfInBounds_toArray, List.set_cons_zero, List.set_cons_succ]
  refine wr_pure 5 _ rfl (by kernel_rfl) (by kernel_rfl) (by kernel_rfl) (fun _ _ _ h => h) (by kernel_rfl) (by rfl) (fun _ => by go_simp; try with_reducible rfl) ?_
  try simp only [Act.put, List.setIfInBounds_toArray, List.set_cons_zero, List.set_cons_succ]
  refine wr_pure 6 _ rfl (by kernel_rfl) (by kernel_rfl) (by kernel_rfl) (fun _ _ _ h => h) (by kernel_rfl) (by rfl) (fun _ => by go_simp; try with_reducible rfl) ?_
  try simp only [Act.put, List.setIfInBounds_toArray, List.set_cons_zero, List.set_cons_succ]
  refine wr_pure 7 _ rfl (by kernel_rfl) (by kernel_rfl) (by kernel_rfl) (fun _ _ _ h => h) (by kernel_rfl) (by rfl) (fun _ => by go_simp; try with_reducible rfl) ?_
  try simp only [Act.put, List.setIfInBounds_toArray, List.set_cons_zero, List.set_cons_succ]
  refine wr_pure 8 _ rfl (by kernel_rfl) (by kernel_rfl) (by kernel_rfl) (fun _ _ _ h => h) (by kernel_rfl) (by rfl) (fun _ => by go_simp; try with_reducible rfl) ?_
  try simp only [Act.put, List.setIfInBounds_toArray, List.set_cons_zero, List.set_cons_succ]
  refine wr_read 9 _ rfl (by kernel_rfl) (by kernel_rfl) (by kernel_rfl) (fun _ _ _ h => h) (by kernel_rfl) (by kernel_rfl) (by rfl) (fun _ hF => by have hF1 := hF.1.cell HC0.out; clear hF; go_simp; try with_reducible rfl) ?_
  try simp only [Act.put, List.setIfInBounds_toArray, List.set_cons_zero, List.set_cons_succ]
  refine wr_pure 10 _ rfl (by kernel_rfl) (by kernel_rfl) (by kernel_rfl) (fun _ _ _ h => h) (by kernel_rfl) (by rfl) (fun _ => by go_simp; try with_reducible rfl) ?_
  try simp only [Act.put, List.setIfInBounds_toArray, List.set_cons_zero, List.set_cons_succ]
  refine wr_pure 11 _ rfl (by kernel_rfl) (by kernel_rfl) (by kernel_rfl) (fun _ _ _ h => h) (by kernel_rfl) (by rfl) (fun _ => by go_simp; try with_reducible rfl) ?_
  try simp only [Act.put, List.setIfInBounds_toArray, List.set_cons_zero, List.set_cons_succ]
  refine wr_pure 12 _ rfl (by kernel_rfl) (by kernel_rfl) (by kernel_rfl) (fun _ _ _ h => h) (by kernel_rfl) (by rfl) (fun _ => by go_simp; try with_reducible rfl) ?_
  try simp only [Act.put, List.setIfInBounds_toArray, List.set_cons_zero, List.set_cons_succ]
  refine wr_pure 13 _ rfl (by kernel_rfl) (by kernel_rfl) (by kernel_rfl) (fun _ _ _ h => h) (by kernel_rfl) (by rfl) (fun _ => by go_simp; try with_reducible rfl) ?_
  try simp only [Act.put, List.setIfInBounds_toArray, List.set_cons_zero, List.set_cons_succ]
  refine wr_pure 14 _ rfl (by kernel_rfl) (by kernel_rfl) (by kernel_rfl) (fun _ _ _ h => h) (by kernel_rfl) (by rfl) (fun _ => by go_simp; try with_reducible rfl) ?_
  try simp only [Act.put, List.setIfInBounds_toArray, List.set_cons_zero, List.set_cons_succ]
  refine wr_read 15 _ rfl (by kernel_rfl) (by kernel_rfl) (by kernel_rfl) (fun _ _ _ h => h) (by kernel_rfl) (by kernel_rfl) (by rfl) (fun _ hF => by have hF1 := hF.1.cell HC1.out; clear hF; go_simp; try with_reducible rfl) ?_
  try simp only [Act.put, List.setIfInBounds_toArray, List.set_cons_zero, List.set_cons_succ]
  refine wr_pure 16 _ rfl (by kernel_rfl) (by kernel_rfl) (by kernel_rfl) (fun _ _ _ h => h) (by kernel_rfl) (by rfl) (fun _ => by go_simp; try with_reducible rfl) ?_
  try simp only [Act.put, List.setIfInBounds_toArray, List.set_cons_zero, List.set_cons_succ]
  refine wr_read 17 _ rfl (by kernel_rfl) (by kernel_rfl) (by kernel_rfl) (fun _ _ _ h => h) (by kernel_rfl) (by kernel_rfl) (by rfl) (fun _ hF => by have hF1 := hF.2.1; clear hF; go_simp; try with_reducible rfl) ?_
  try simp only [Act.put, List.setIfInBounds_toArray, List.set_cons_zero, List.set_cons_succ]
  refine wr_pure 18 _ rfl (by kernel_rfl) (by kernel_rfl) (by kernel_rfl) (fun _ _ _ h => h) (by kernel_rfl) (by rfl) (fun _ => by go_simp; try with_reducible rfl) ?_
  try simp only [Act.put, List.setIfInBounds_toArray, List.set_cons_zero, List.set_cons_succ]
  refine wr_read 19 _ rfl (by kernel_rfl) (by kernel_rfl) (by kernel_rfl) (fun _ _ _ h => h) (by kernel_rfl) (by kernel_rfl) (by rfl) (fun _ hF => by have hF1 := hF.1.cell HC0.out; clear hF; go_simp; try with_reducible rfl) ?_
  try simp only [Act.put, List.setIfInBounds_toArray, List.set_cons_zero, List.set_cons_succ]
  refine wr_pure 20 _ rfl (by kernel_rfl) (by kernel_rfl) (by kernel_rfl) (fun _ _ _ h => h) (by kernel_rfl) (by rfl) (fun _ => by go_simp; try with_reducible rfl) ?_
  try simp only [Act.put, List.setIfInBounds_toArray, List.set_cons_zero, List.set_cons_succ]
  refine wr_pure 21 _ rfl (by kernel_rfl) (by kernel_rfl) (by kernel_rfl) (fun _ _ _ h => h) (by kernel_rfl) (by rfl) (fun _ => by go_simp; try with_reducible rfl) ?_
  try simp only [Act.put, List.setIfInBounds_toArray, List.set_cons_zero, List.set_cons_succ]
  refine wr_pure 22 _ rfl (by kernel_rfl) (by kernel_rfl) (by kernel_rfl) (fun _ _ _ h => h) (by kernel_rfl) (by rfl) (fun _ => by go_simp; try with_reducible rfl) ?_
  try simp only [Act.put, List.setIfInBounds_toArray, List.set_cons_zero, List.set_cons_succ]
  refine wr_pure 23 _ rfl (by kernel_rfl) (by kernel_rfl) (by kernel_rfl) (fun _ _ _ h => h) (by kernel_rfl) (by rfl) (fun _ => by go_simp; try with_reducible rfl) ?_
  try simp only [Act.put, List.setIfInBounds_toArray, List.set_cons_zero, List.set_cons_succ]
  refine wr_pure 24 _ rfl (by kernel_rfl) (by kernel_rfl) (by kernel_rfl) (fun _ _ _ h => h) (by kernel_rfl) (by rfl) (fun _ => by go_simp; try with_reducible rfl) ?_
  try simp only [Act.put, List.setIfInBounds_toArray, List.set_cons_zero, List.set_cons_succ]
  refine wr_read 25 _ rfl (by kernel_rfl) (by kernel_rfl) (by kernel_rfl) (fun _ _ _ h => h) (by kernel_rfl) (by kernel_rfl) (by rfl) (fun _ hF => by have hF1 := hF.1.cell HC2.out; clear hF; go_simp; try with_reducible rfl) ?_
  try simp only [Act.put, List.setIfInBounds_toArray, List.set_cons_zero, List.set_cons_succ]
  refine wr_pure 26 _ rfl (by kernel_rfl) (by kernel_rfl) (by kernel_rfl) (fun _ _ _ h => h) (by kernel_rfl) (by rfl) (fun _ => by go_simp; try with_reducible rfl) ?_
  try simp only [Act.put, List.setIfInBounds_toArray, List.set_cons_zero, List.set_cons_succ]
  refine wr_read 27 _ rfl (by kernel_rfl) (by kernel_rfl) (by kernel_rfl) (fun _ _ _ h => h) (by kernel_rfl) (by kernel_rfl) (by rfl) (fun _ hF => by have hF1 := hF.2.2; clear hF; go_simp; try with_reducible rfl) ?_
  try simp only [Act.put, List.setIfInBounds_toArray, List.set_cons_zero, List.set_cons_succ]
  refine wr_pure 28 _ rfl (by kernel_rfl) (by kernel_rfl) (by kernel_rfl) (fun _ _ _ h => h) (by kernel_rfl) (by rfl) (fun _ => by go_simp; try with_reducible rfl) ?_
  try simp only [Act.put, List.setIfInBounds_toArray, List.set_cons_zero, List.set_cons_succ]
  refine wr_pure 29 _ rfl (by kernel_rfl) (by kernel_rfl) (by kernel_rfl) (fun _ _ _ h => h) (by kernel_rfl) (by rfl) (fun _ => by go_simp; try with_reducible rfl) ?_
  try simp only [Act.put, List.setIfInBounds_toArray, List.set_cons_zero, List.set_cons_succ]
  refine wr_done (by kernel_rfl) ?_ _
  have HB27 : Hid (Blk w7 g2 (ints h2) 3) := Lib.hid (HB2.out.fr (HF6.out.trans HF7.out) (by simp))
  have HNE : Hid (w2.heap.size ≤ g2 ∧ cb ≠ g2 ∧ g1 ≠ g2 ∧ g8 ≠ g2) := Lib.hid (by
    have h1 : w4.heap.size ≤ g2 := HGE2.out
    have h2 := HF3.out.size
    have h3 := HF4.out.size
    have h4 := HC3.out.lt
    have h5 := HB1.out.lt
    have h6 := HB2.out.lt
    have h7 := HGE8.out
    omega)
  have HSX : Hid (∀ W, Fr [g2] w7 W → Fr [] w2 W ∧ Blk W cb cs 29 ∧ Blk W g1 (ints h1) 3 ∧ SlI W (some ⟨g8, f8, none⟩) o1) := Lib.hid fun W hW => by
    have hn := HNE.out
    have f7 := HF6.out.trans HF7.out
    refine ⟨(((HSW.out _ f7).1.more (by simp)).trans hW).less (by simp; omega), (HC5.out.fr f7 (by simp)).fr hW (by simp; omega), (HB1'.out.fr f7 (by simp)).fr hW (by simp; omega), Sl.fr (HS8.out.fr0 HF7.out) hW fun g off sp e => ?_⟩
    obtain ⟨rfl, _⟩ := Addr.mk.inj (Option.some.inj e)
    simp; omega
  clear HF3 HF4 HF5 HC3 HB1 HB1' HB2 HGE2 HGE8 HC5 HC6 HF6 HF7 HSW HX1 HX2 HS8 q1 q2 q3 q4
  go_wp2_with fail
  go_loopw [12, 66] (fun _ i wr => ∃ k : Nat, i = .int .i64 k ∧ k ≤ G.N ∧ Blk wr g2 (ints (mix (bothL h2 h1) h2 k)) 3 ∧ Fr [g2] w7 wr) (fun _ i _ => G.N - (intOf i).toNat)
  case atStart => exact ⟨0, rfl, Nat.zero_le _, by rw [mix_zero]; exact HB27.out, Fr.refl _ _⟩
  case round =>
    clear HB27
    obtain ⟨k, rfl, hk, hb, hF⟩ := hrel
    have HGB := Lib.hid hb
    have HF := Lib.hid hF
    clear hb hF
    by_cases hkN : k < G.N
    · obtain ⟨x, hx⟩ : ∃ x, h1[k]? = some x := ⟨_, List.getElem?_eq_getElem (by rw [HT1.out.1]; exact hkN)⟩
      obtain ⟨y, hy⟩ : ∃ y, h2[k]? = some y := ⟨_, List.getElem?_eq_getElem (by rw [HT2.out.1]; exact hkN)⟩
      obtain ⟨z, hz⟩ : ∃ z, o1[k]? = some z := ⟨_, List.getElem?_eq_getElem (by rw [HL8.out]; exact hkN)⟩
      have hzx : z ≤ x := by have := HP8.out.le k; rw [fn_get hz, fn_get hx] at this; exact this
      have hs := HSX.out _ HF.out
      have x1 := hs.2.2.1.cell (ints_get hx)
      have x3 := hs.2.2.2.here hz
      have hbl : (bothL h2 h1).length = G.N := bothL_len HT2.out.1 HT1.out.1
      have x2 := HGB.out.cell (ints_get ((mix_get (by omega)).trans hy))
      have x4 := HGB.out.free k
      obtain ⟨mn, hmn⟩ : ∃ m, (if x < y then x else y) = m := ⟨_, rfl⟩
      have HMX : Hid ((mix (bothL h2 h1) h2 k).set k mn = mix (bothL h2 h1) h2 (k + 1)) := Lib.hid (mix_set (by rw [bothL_get hy hx, hmn]) (by rw [hbl, HT2.out.1]))
      have k0 : (0 : Int) ≤ (k : Int) := by omega
      have k1 : (k : Int) < (G.N : Int) := by omega
      have t1 : decide (x < z) = false := by simp; omega
      clear hx hy hz hzx hs hbl
      go_upto_region 9 with (fail)
      go_quiet (fail)
      go_upto_region 11 with (fail)
      refine wr_begin [12] (fun W => W.cell? ⟨g2, k, none⟩ = some (.int .i64 y) ∧ W.cell? ⟨g1, k, none⟩ = some (.int .i64 x)) (by kernel_rfl) (by exact ⟨x2, x1⟩) ?_
      refine wr_pure 0 _ rfl (by kernel_rfl) (by kernel_rfl) (by kernel_rfl) (fun _ _ _ h => h) (by kernel_rfl) (by rfl) (fun _ => by go_simp; try with_reducible rfl) ?_
      try simp only [Act.put, List.setIfInBounds_toArray, List.set_cons_zero, List.set_cons_succ]
      refine wr_pure 1 _ rfl (by kernel_rfl) (by kernel_rfl) (by kernel_rfl) (fun _ _ _ h => h) (by kernel_rfl) (by rfl) (fun _ => by go_simp; try with_reducible rfl) ?_
      try simp only [Act.put, List.setIfInBounds_toArray, List.set_cons_zero, List.set_cons_succ]
      refine wr_pure 2 _ rfl (by kernel_rfl) (by kernel_rfl) (by kernel_rfl) (fun _ _ _ h => h) (by kernel_rfl) (by rfl) (fun _ => by go_simp; try with_reducible rfl) ?_
      try simp only [Act.put, List.setIfInBounds_toArray, List.set_cons_zero, List.set_cons_succ]
      refine wr_pure 3 _ rfl (by kernel_rfl) (by kernel_rfl) (by kernel_rfl) (fun _ _ _ h => h) (by kernel_rfl) (by rfl) (fun _ => by go_simp; try with_reducible rfl) ?_
      try simp only [Act.put, List.setIfInBounds_toArray, List.set_cons_zero, List.set_cons_succ]
      refine wr_pure 4 _ rfl (by kernel_rfl) (by kernel_rfl) (by kernel_rfl) (fun _ _ _ h => h) (by kernel_rfl) (by rfl) (fun _ => by go_simp; try with_reducible rfl) ?_
      try simp only [Act.put, List.setIfInBounds_toArray, List.set_cons_zero, List.set_cons_succ]
      refine wr_read 5 _ rfl (by kernel_rfl) (by kernel_rfl) (by kernel_rfl) (fun _ _ _ h => h) (by kernel_rfl) (by kernel_rfl) (by rfl) (fun _ hF => by have hF1 := hF.1; clear hF; go_simp; try with_reducible rfl) ?_
      try simp only [Act.put, List.setIfInBounds_toArray, List.set_cons_zero, List.set_cons_succ]
      refine wr_pure 6 _ rfl (by kernel_rfl) (by kernel_rfl) (by kernel_rfl) (fun _ _ _ h => h) (by kernel_rfl) (by rfl) (fun _ => by go_simp; try with_reducible rfl) ?_
      try simp only [Act.put, List.setIfInBounds_toArray, List.set_cons_zero, List.set_cons_succ]
      refine wr_pure 7 _ rfl (by kernel_rfl) (by kernel_rfl) (by kernel_rfl) (fun _ _ _ h => h) (by kernel_rfl) (by rfl) (fun _ => by go_simp; try with_reducible rfl) ?_
      try simp only [Act.put, List.setIfInBounds_toArray, List.set_cons_zero, List.set_cons_succ]
      refine wr_pure 8 _ rfl (by kernel_rfl) (by kernel_rfl) (by kernel_rfl) (fun _ _ _ h => h) (by kernel_rfl) (by rfl) (fun _ => by go_simp; try with_reducible rfl) ?_
      try simp only [Act.put, List.setIfInBounds_toArray, List.set_cons_zero, List.set_cons_succ]
      refine wr_read 9 _ rfl (by kernel_rfl) (by kernel_rfl) (by kernel_rfl) (fun _ _ _ h => h) (by kernel_rfl) (by kernel_rfl) (by rfl) (fun _ hF => by have hF1 := hF.2; clear hF; go_simp; try with_reducible rfl) ?_
      try simp only [Act.put, List.setIfInBounds_toArray, List.set_cons_zero, List.set_cons_succ]
      refine wr_pure 10 _ rfl (by kernel_rfl) (by kernel_rfl) (by kernel_rfl) (fun _ _ _ h => h) (by kernel_rfl) (by rfl) (fun _ => by go_simp; try with_reducible rfl) ?_
      try simp only [Act.put, List.setIfInBounds_toArray, List.set_cons_zero, List.set_cons_succ]
      refine wr_pure 11 _ rfl (by kernel_rfl) (by kernel_rfl) (by kernel_rfl) (fun _ _ _ h => h) (by kernel_rfl) (by rfl) (fun _ => by go_simp; try with_reducible rfl) ?_
      try simp only [Act.put, List.setIfInBounds_toArray, List.set_cons_zero, List.set_cons_succ]
      refine wr_do 12 rfl (by kernel_rfl) (by rfl) (fun K hK => ?_)
      go_wp2_with fail
      refine ⟨Still.off 12 (by kernel_rfl) (by kernel_rfl), ?_⟩
      try simp only [Act.put, List.setIfInBounds_toArray, List.set_cons_zero, List.set_cons_succ]
      refine wr_done (by kernel_rfl) ?_ _
      go_wp2_with fail
      go_roundw
      case rel =>
        refine ⟨k + 1, by go_num, by omega, ?_, (HF.out.drewN _).trans ((Fr.refl [g2] _).setCell (by simp) _)⟩
        rw [← HMX.out, ← ints_set]
        exact (HGB.out.drewN _).set k _
      case measure => simp [intOf]; omega
    · have hkk : k = G.N := by omega
      subst hkk
      clear hkN hk
      have HG0 : Hid (Blk wr g2 (ints (bothL h2 h1)) 3) := Lib.hid (by have := HGB.out; rw [mix_all (bothL_len HT2.out.1 HT1.out.1) HT2.out.1] at this; exact this)
      have HT0 := Lib.hid (bothL_hts HT2.out HT1.out)
      have HLE0 : Hid (∀ v, fn (bothL h2 h1) v ≤ fn h1 v) := Lib.hid fun v => by rw [bothL_fn HT2.out.1 HT1.out.1]; simp only []; omega
      have HSM0 : Hid (sumN (bothL h2 h1) ≤ G.N * G.N) := Lib.hid (by
        have := sumN_le (N := G.N) (f := bothL h2 h1) (fun x hx => (HT0.out.2.1 x hx).2)
        rw [HT0.out.1] at this
        exact this)
      obtain ⟨s, hs⟩ : ∃ s, s = G.N * G.N := ⟨_, rfl⟩
      have hs0 : 0 < s := by rw [hs]; exact Nat.mul_pos (by have := hG.n2; omega) (by have := hG.n2; omega)
      have hs1 : s ≤ 256 := by rw [hs]; exact Nat.mul_le_mul hN16 hN16
      have c0 := (HSX.out _ HF.out).2.1.cell HC0.out
      have n1 : IntKind.i64.wrap (2 * (G.N : Int)) = 2 * (G.N : Int) := IntWalk.i64_in _ (by omega)
      have e2 : 2 * (G.N : Int) * (G.N : Int) = ((2 * s : Nat) : Int) := by rw [hs, Int.mul_assoc]; simp
      have n2 : IntKind.i64.wrap (2 * (G.N : Int) * (G.N : Int)) = ((2 * s : Nat) : Int) := by rw [e2]; exact IntWalk.i64_in _ (by omega)
      rw [← hs] at HSM0
      clear hs e2 HGB
      obtain ⟨w8, rfl⟩ : ∃ w8 : World, w8 = wr := ⟨_, rfl⟩
      go_wp2_with fail
      go_loopw [13, 14, 15, 97] (fun _ _ _ i wr => ∃ (k : Nat) (g : List Int), i = .int .i64 k ∧ Hts G g ∧ (∀ v, fn g v ≤ fn h1 v) ∧ sumN g + k ≤ s ∧ Blk wr g2 (ints g) 3 ∧ Fr [g2] w7 wr) (fun _ _ _ i _ => 2 * s - (intOf i).toNat)
      case atStart => exact ⟨0, _, rfl, HT0.out, HLE0.out, HSM0.out, HG0.out, HF.out⟩
      case round =>
        clear HT0 HLE0 HSM0 HG0 HF c0 n1 n2
        obtain ⟨k, g, rfl, hht, hle, hsm, hb, hF⟩ := hrel
        have hX := HSX.out _ hF
        have HCK := Lib.hid hX.2.1
        have hst := HST.out wr g (some ⟨g2, 0, none⟩) G.N hX.1 (SlI.of_blk hb) hht
        unfold DownOk at hst
        obtain ⟨L, hL⟩ : ∃ L, L = pickTo (downB G R g steepQ) G.E.length := ⟨_, rfl⟩
        rw [← hL] at hst
        obtain ⟨nL, hnL⟩ : ∃ n, n = L.length := ⟨_, rfl⟩
        rw [← hnL] at hst
        have HNL := Lib.hid hnL
        have HLL := Lib.hid hL
        have HST1 := Lib.hid hst
        have HTG := Lib.hid hht
        have HLE := Lib.hid hle
        have HBG := Lib.hid hb
        have HFG := Lib.hid hF
        have k2 : (k : Int) < ((2 * s : Nat) : Int) := by omega
        clear hX hst hL hnL hht hle hb hF
        go_wp2_with (refine wl_load rfl rfl rfl cs HCK.out Try.underlying29 rfl (by rw [H2'.out]; kernel_rfl) ?_)
        refine HST1.out.mono ?_
        rintro e w9 ⟨A9, c9, rfl, hs9, hF9⟩
        have HS9 := Lib.hid hs9
        have HB9 := Lib.hid (HBG.out.fr hF9 (by simp))
        have HF9 := Lib.hid (HFG.out.trans (hF9.more (S' := [g2]) (by simp)))
        have HC9 := Lib.hid (HSX.out _ HF9.out).2.1
        clear hs9 hF9 HCK HST1 HBG HFG
        by_cases hn0 : nL = 0
        · subst hn0
          have HLN : Hid (L = []) := Lib.hid (List.eq_nil_of_length_eq_zero HNL.out.symm)
          have HVG : Hid (Valid (Open G R) (fn g)) := Lib.hid (steep_none.1 (HLL.out.symm.trans HLN.out))
          go_wp2_with (refine wl_load rfl rfl rfl cs HC9.out Try.underlying29 rfl (by rw [H2'.out]; kernel_rfl) ?_)
          refine (HVA.out w9 g (some ⟨g2, 0, none⟩) G.N (HSX.out _ HF9.out).1 (SlI.of_blk HB9.out) HTG.out).mono ?_
          rintro e w10 ⟨b, rfl, hbv, hF10⟩
          obtain rfl := hbv.2 HVG.out
          have HB10 := Lib.hid (HB9.out.fr hF10 (by simp))
          have HF10 := Lib.hid (HF9.out.trans (hF10.more (S' := [g2]) (by simp)))
          clear hbv hF10
          go_wp2_with fail
          go_loopw [16, 145] (fun _ i wr => ∃ k : Nat, i = .int .i64 k ∧ k ≤ G.N ∧ Fr [] w10 wr) (fun _ i _ => G.N - (intOf i).toNat)
          case atStart => exact ⟨0, rfl, Nat.zero_le _, Fr.refl _ _⟩
          case round =>
            obtain ⟨k, rfl, hk, hF⟩ := hrel
            have HFK := Lib.hid hF
            clear hF
            by_cases hkN : k < G.N
            · obtain ⟨x, hx⟩ : ∃ y, g[k]? = some y := ⟨_, List.getElem?_eq_getElem (by rw [HTG.out.1]; exact hkN)⟩
              obtain ⟨z, hz⟩ : ∃ y, o1[k]? = some y := ⟨_, List.getElem?_eq_getElem (by rw [HL8.out]; exact hkN)⟩
              have hxz : x ≤ z := by
                have h1 := HP8.out.most (fn g) HVG.out HLE.out k
                rw [fn_get hx, fn_get hz] at h1
                exact h1
              have x1 := (HB10.out.fr HFK.out (by simp)).cell (ints_get hx)
              have x3 := (HSX.out _ (HF10.out.trans (HFK.out.more (S' := [g2]) (by simp)))).2.2.2.here hz
              have t1 : decide (z < x) = false := by simp; omega
              have k0 : (0 : Int) ≤ (k : Int) := by omega
              have k1 : (k : Int) < (G.N : Int) := by omega
              clear hx hz hxz
              go_upto_region 27 with (fail)
              go_quiet (fail)
              go_wp2_with fail
              go_roundw
              case rel => exact ⟨k + 1, by go_num, by omega, HFK.out.drewN _⟩
              case measure => simp [intOf]; omega
            · have hkk : k = G.N := by omega
              subst hkk
              go_wp2_with fail
              refine (awake_any wr).mono ?_
              rintro e w15 ⟨rfl, hF15⟩
              have HF15 := Lib.hid hF15
              clear hF15
              go_wp2_with fail
              go_ret
              exact ⟨rfl, HF2.out.trans ((HSX.out _ (HF10.out.trans (HFK.out.more (S' := [g2]) (by simp)))).1.trans HF15.out)⟩
        · have hLne : L ≠ [] := fun h => hn0 (by rw [HNL.out, h]; rfl)
          obtain ⟨Li, xa, hLi⟩ : ∃ Li x, L = Li ++ [x] := ⟨L.dropLast, L.getLast hLne, (List.dropLast_concat_getLast hLne).symm⟩
          have hmem : xa ∈ pickTo (downB G R g steepQ) G.E.length := by rw [← HLL.out, hLi]; simp
          obtain ⟨a, haE, hda, rfl⟩ := mem_pickTo.1 hmem
          obtain ⟨e, he, heS, her, heq⟩ := downB_of.1 hda
          obtain ⟨n, hn⟩ : ∃ n, n = Li.length := ⟨_, rfl⟩
          have hnn : nL = n + 1 := by rw [HNL.out, hLi, hn]; simp
          have hLg : L[n]? = some (a : Int) := by rw [hLi, hn]; simp
          have hnE : nL ≤ G.E.length := by rw [HNL.out, HLL.out]; exact pickTo_len _ _
          have hE2 := E_len hG
          have htl : e.tl < G.N := (mem_allTo.1 (List.mem_of_getElem? he)).1
          have ho := (tl_iff he htl).1 rfl
          obtain ⟨e', _, he', _, hhd, _⟩ := at_entry hG htl ho.1 ho.2
          obtain rfl : e = e' := by rw [he] at he'; exact Option.some.inj he'
          obtain ⟨x, hx⟩ : ∃ y, g[e.tl]? = some y := ⟨_, List.getElem?_eq_getElem (by rw [HTG.out.1]; exact htl)⟩
          have hbx := HTG.out.2.1 x (List.mem_of_getElem? hx)
          obtain ⟨heT, l1, l2, l3'⟩ := lower_one (h := h1) (⟨heS, a, e, he, rfl, rfl, her⟩ : Open G R e.tl e.hd) HTG.out hhd htl (by simpa [steepQ] using heq) HLE.out
          rw [fn_get hx] at l1 l2 l3'
          have HL1 := Lib.hid l1
          have HL2 := Lib.hid l2
          have HL3 := Lib.hid l3'
          have HEA := Lib.hid he
          obtain ⟨g9, f9, rfl, x9⟩ := HS9.out.at hLg
          have HX9 := Lib.hid x9
          have HGX := Lib.hid hx
          have n3 : IntKind.i64.wrap ((nL : Int) - 1) = (n : Int) := by rw [IntWalk.i64_in _ (by omega)]; omega
          have n4 : IntKind.i64.wrap (x - 1) = x - 1 := IntWalk.i64_in _ (by omega)
          have q0 : ((nL : Int) == 0) = false := by simp; omega
          have m0 : (0 : Int) ≤ (n : Int) := by omega
          have m1 : (n : Int) < (nL : Int) := by omega
          clear hLne hLi hmem hda heq her he' ho hn hnn hLg hnE l1 l2 l3' x9 hx he hbx
          go_upto_region 17 with (fail)
          refine wr_begin [7] (fun W => Blk W cb cs 29 ∧ W.cell? ⟨g9, f9 + n, none⟩ = some (.int .i64 a)) (by kernel_rfl) (by exact ⟨HC9.out.drew, HX9.out⟩) ?_
          refine wr_read 0 _ rfl (by kernel_rfl) (by kernel_rfl) (by kernel_rfl) (fun _ _ _ h => h) (by kernel_rfl) (by kernel_rfl) (by rfl) (fun _ hF => exec_load_row rfl rfl hF.1 Try.underlying29 rfl (by rw [H2'.out]; kernel_rfl)) ?_
          try simp only [Act.put, List.setIfInBounds_toArray, List.set_cons_zero, List.set_cons_succ]
          refine wr_pure 1 _ rfl (by kernel_rfl) (by kernel_rfl) (by kernel_rfl) (fun _ _ _ h => h) (by kernel_rfl) (by rfl) (fun _ => by go_simp; try with_reducible rfl) ?_
          try simp only [Act.put, List.setIfInBounds_toArray, List.set_cons_zero, List.set_cons_succ]
          refine wr_pure 2 _ rfl (by kernel_rfl) (by kernel_rfl) (by kernel_rfl) (fun _ _ _ h => h) (by kernel_rfl) (by rfl) (fun _ => by go_simp; try with_reducible rfl) ?_
          try simp only [Act.put, List.setIfInBounds_toArray, List.set_cons_zero, List.set_cons_succ]
          refine wr_pure 3 _ rfl (by kernel_rfl) (by kernel_rfl) (by kernel_rfl) (fun _ _ _ h => h) (by kernel_rfl) (by rfl) (fun _ => by go_simp; try with_reducible rfl) ?_
          try simp only [Act.put, List.setIfInBounds_toArray, List.set_cons_zero, List.set_cons_succ]
          refine wr_pure 4 _ rfl (by kernel_rfl) (by kernel_rfl) (by kernel_rfl) (fun _ _ _ h => h) (by kernel_rfl) (by rfl) (fun _ => by go_simp; try with_reducible rfl) ?_
          try simp only [Act.put, List.setIfInBounds_toArray, List.set_cons_zero, List.set_cons_succ]
          refine wr_pure 5 _ rfl (by kernel_rfl) (by kernel_rfl) (by kernel_rfl) (fun _ _ _ h => h) (by kernel_rfl) (by rfl) (fun _ => by go_simp; try with_reducible rfl) ?_
          try simp only [Act.put, List.setIfInBounds_toArray, List.set_cons_zero, List.set_cons_succ]
          refine wr_read 6 _ rfl (by kernel_rfl) (by kernel_rfl) (by kernel_rfl) (fun _ _ _ h => h) (by kernel_rfl) (by kernel_rfl) (by rfl) (fun _ hF => by have hF1 := hF.2; clear hF; go_simp; try with_reducible rfl) ?_
          try simp only [Act.put, List.setIfInBounds_toArray, List.set_cons_zero, List.set_cons_succ]
          refine wr_do 7 rfl (by kernel_rfl) (by rfl) (fun K hK => ?_)
          refine wp_call (f := 18) (args := #[.agg cs.toArray, .int .i64 a]) (by kernel_rfl) (HTL.out _ a e (HSX.out _ HF9.out.drew).1 HEA.out) ?_
          rintro en w11 ⟨rfl, hF11⟩
          have HF11 := Lib.hid ((Fr.drew (Fr.refl [] w9)).trans hF11)
          clear hF11
          refine ⟨_, rfl, hK _ _ ⟨Still.off 7 (by kernel_rfl) (by kernel_rfl), ?_⟩⟩
          try simp only [Act.put, List.setIfInBounds_toArray, List.set_cons_zero, List.set_cons_succ]
          refine wr_pure 8 _ rfl (by kernel_rfl) (by kernel_rfl) (by kernel_rfl) (fun _ _ _ h => h) (by kernel_rfl) (by rfl) (fun _ => by go_simp; try with_reducible rfl) ?_
          try simp only [Act.put, List.setIfInBounds_toArray, List.set_cons_zero, List.set_cons_succ]
          refine wr_pure 9 _ rfl (by kernel_rfl) (by kernel_rfl) (by kernel_rfl) (fun _ _ _ h => h) (by kernel_rfl) (by rfl) (fun _ => by go_simp; try with_reducible rfl) ?_
          try simp only [Act.put, List.setIfInBounds_toArray, List.set_cons_zero, List.set_cons_succ]
          refine wr_pure 10 _ rfl (by kernel_rfl) (by kernel_rfl) (by kernel_rfl) (fun _ _ _ h => h) (by kernel_rfl) (by rfl) (fun _ => by go_simp; try with_reducible rfl) ?_
          try simp only [Act.put, List.setIfInBounds_toArray, List.set_cons_zero, List.set_cons_succ]
          refine wr_pure 11 _ rfl (by kernel_rfl) (by kernel_rfl) (by kernel_rfl) (fun _ _ _ h => h) (by kernel_rfl) (by rfl) (fun _ => by go_simp; try with_reducible rfl) ?_
          try simp only [Act.put, List.setIfInBounds_toArray, List.set_cons_zero, List.set_cons_succ]
          refine wr_pure 12 _ rfl (by kernel_rfl) (by kernel_rfl) (by kernel_rfl) (fun _ _ _ h => h) (by kernel_rfl) (by rfl) (fun _ => by go_simp; try with_reducible rfl) ?_
          try simp only [Act.put, List.setIfInBounds_toArray, List.set_cons_zero, List.set_cons_succ]
          refine wr_done (by kernel_rfl) ?_ _
          have HFX := Lib.hid (HF9.out.trans (HF11.out.more (S' := [g2]) (by simp)))
          have HBX := Lib.hid (HB9.out.fr HF11.out (by simp))
          have y1 := (HSX.out _ HFX.out).2.1.cell HC1.out
          have y2 := (HSX.out _ HFX.out).2.1.cell HC2.out
          have y3 := HBX.out.cell (ints_get HGX.out)
          have y4 := HBX.out.free e.tl
          have u0 : (0 : Int) ≤ (e.tl : Int) := by omega
          have u1 : (e.tl : Int) < (G.N : Int) := by omega
          have q1 : ((e.tl : Int) == (G.S : Int)) = false := by simp; omega
          have q2 : ((e.tl : Int) != (G.S : Int)) = true := by simp; omega
          have q3 : (e.tl == G.S) = false := by simp; omega
          have q4 : (e.tl != G.S) = true := by simp; omega
          have r1 : ((e.tl : Int) == (G.T : Int)) = false := by simp; omega
          have r2 : ((e.tl : Int) != (G.T : Int)) = true := by simp; omega
          have r3 : (e.tl == G.T) = false := by simp; omega
          clear HF9 HB9 HC9 HF11
          go_wp2_with fail
          go_roundw
          case rel =>
            refine ⟨k + 1, g.set e.tl (x - 1), by go_num, HL1.out, HL2.out, by have := HL3.out; omega, ?_, HFX.out.trans ((Fr.refl [g2] w11).setCell (by simp) _)⟩
            rw [← ints_set]
            exact HBX.out.set _ _
          case measure => simp [intOf]; omega
end Acq
