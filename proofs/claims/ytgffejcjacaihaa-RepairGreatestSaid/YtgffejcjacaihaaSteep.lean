/- label.down, Steep, Flat, Valid. -/
import Derived.Test.YtgffejcjacaihaaDown
set_option linter.unusedSimpArgs false
set_option linter.unnecessarySimpa false
set_option linter.unusedVariables false
namespace Acq
open Go Go.RowKit Go.Proofs Acq.Low

/-- The list of those arcs. -/
def DownOk (G : Net) (res h : List Int) (q : Int → Bool) (w : World) (e : Ending) (w' : World) : Prop := ∃ A c, e = .returned (.slice A (pickTo (downB G res h q) G.E.length).length c) ∧ SlI w' A (pickTo (downB G res h q) G.E.length) ∧ Fr [] w w'

set_option maxHeartbeats 2000000 in
set_option maxRecDepth 100000 in
theorem down_steep_all (G : Net) (hG : G.Ok) (AF AH AR AC AA AB : Option Addr) (cF cH cR cC cA cB : Nat) (res h : List Int) (A B : Option Addr) (c d : Nat) (w : World) (hV : CsrV w G AF AH AR AC AA AB) (hA : SlI w A res) (hB : SlI w B h) (hr : res.length = G.E.length) (hh : Hts G h) :
    Calls Try.prog 32 #[.agg (csrCells G AF AH AR AC AA AB cF cH cR cC cA cB).toArray, .slice A res.length c, .slice B h.length d, .func (.func 33) #[] #[]] w (DownOk G res h steepQ w) := by
  have hEl := E_len hG
  obtain ⟨w4, hw4⟩ : ∃ W, W = (((w.alloc (.cells (csrCells G AF AH AR AC AA AB cF cH cR cC cA cB).toArray 29)).alloc (.cells #[.slice A res.length c] 25)).alloc (.cells #[.slice B h.length d] 26)).alloc (.cells #[.func (.func 33) #[] #[]] 68) := ⟨_, rfl⟩
  have hb0 : Blk w4 w.heap.size (csrCells G AF AH AR AC AA AB cF cH cR cC cA cB) 29 := by rw [hw4]; exact (((Blk.new w _ _).alloc _).alloc _).alloc _
  have hb1 : Blk w4 (w.heap.size + 1) [.slice A res.length c] 25 := by rw [hw4]; exact ((Blk.new_at _ _ (by simp)).alloc _).alloc _
  have hb2 : Blk w4 (w.heap.size + 2) [.slice B h.length d] 26 := by rw [hw4]; exact (Blk.new_at _ _ (by simp)).alloc _
  have hb3 : Blk w4 (w.heap.size + 3) [.func (.func 33) #[] #[]] 68 := by rw [hw4]; exact Blk.new_at _ _ (by simp)
  have hF4 : Fr [] w w4 := by rw [hw4]; exact ((((Fr.refl [] w).alloc _).alloc _).alloc _).alloc _
  have HF4 := Lib.hid hF4
  have HM : Hid (∀ W, Fr [] w4 W → Calls Try.prog 31 #[.agg (csrCells G AF AH AR AC AA AB cF cH cR cC cA cB).toArray, .slice A res.length c, .slice B h.length d] W fun e w' => e = .returned (.bool true) ∧ Fr [] W w') := Lib.hid fun W hW =>
    may_yes G hG AF AH AR AC AA AB cF cH cR cC cA cB res h A B c d W (hB.fr0 (hF4.trans hW)) hr hh
  have HPK : Hid (∀ W, Fr [] w4 W → Calls Try.prog 41 #[.int .i64 res.length, .func (.func 42) #[] #[.pointer (some ⟨w.heap.size, 0, none⟩), .pointer (some ⟨w.heap.size + 1, 0, none⟩), .pointer (some ⟨w.heap.size + 3, 0, none⟩), .pointer (some ⟨w.heap.size + 2, 0, none⟩)]] W (DownOk G res h steepQ W)) := Lib.hid fun W hW => by
    rw [hr]
    exact picked_any G.E.length (downB G res h steepQ) W (by omega) fun W' i hW' hi => down_steep G hG AF AH AR AC AA AB cF cH cR cC cA cB res h A B c d W' w.heap.size (w.heap.size + 1) (w.heap.size + 2) (w.heap.size + 3) i hi (hV.fr0 (hF4.trans (hW.trans hW'))) (hA.fr0 (hF4.trans (hW.trans hW'))) (hB.fr0 (hF4.trans (hW.trans hW'))) hr hh
      (hb0.fr (hW.trans hW') (by simp)) ((hb1.fr (hW.trans hW') (by simp)).cell rfl) ((hb2.fr (hW.trans hW') (by simp)).cell rfl) ((hb3.fr (hW.trans hW') (by simp)).cell rfl)
  have HB0 := Lib.hid hb0
  have d1 := hb1.cell (o := 0) rfl
  have d2 := hb2.cell (o := 0) rfl
  have HB1 := Lib.hid hb1
  have HW4 := Lib.hid hw4
  clear hb0 hb1 hb2 hb3 hF4 hV hA hB hr hh hw4
  obtain ⟨H1, H2⟩ := csr_one G AF AH AR AC AA AB cF cH cR cC cA cB
  obtain ⟨cs, hcs⟩ : ∃ cs, cs = (csrCells G AF AH AR AC AA AB cF cH cR cC cA cB) := ⟨_, rfl⟩
  rw [← hcs] at HM HB0 H2 HW4
  rw [← hcs]
  have H2' := Lib.hid H2
  clear H1 H2 hcs
  go_enter Try.func32, Try.ntmps32
  go_upto_region 1 with (fail)
  rw [← HW4.out]
  go_wp2_with (refine wl_load rfl rfl rfl cs HB0.out Try.underlying29 rfl (by rw [H2'.out]; kernel_rfl) ?_)
  refine (HM.out _ (Fr.refl [] _)).mono ?_
  rintro en w5 ⟨rfl, hF5⟩
  have HF5 := Lib.hid hF5
  have c1 := hF5.cell d1 (by simp)
  clear hF5 d1 d2
  go_wp2_with fail
  refine (HPK.out _ HF5.out).mono ?_
  rintro en w6 ⟨A6, c6, rfl, hs6, hF6⟩
  have HS6 := Lib.hid hs6
  have HF6 := Lib.hid hF6
  clear hs6 hF6
  go_wp2_with fail
  go_ret
  exact ⟨A6, c6, rfl, HS6.out, (HF4.out.trans HF5.out).trans HF6.out⟩
set_option maxHeartbeats 1000000 in
theorem steep_any (G : Net) (hG : G.Ok) (AF AH AR AC AA AB : Option Addr) (cF cH cR cC cA cB : Nat) (res h : List Int) (A B : Option Addr) (c d : Nat) (w : World) (hV : CsrV w G AF AH AR AC AA AB) (hA : SlI w A res) (hB : SlI w B h) (hr : res.length = G.E.length) (hh : Hts G h) :
    Calls Try.prog 17 #[.agg (csrCells G AF AH AR AC AA AB cF cH cR cC cA cB).toArray, .slice A res.length c, .slice B h.length d] w (DownOk G res h steepQ w) := by
  have HD : Hid (∀ W, Fr [] w W → Calls Try.prog 32 #[.agg (csrCells G AF AH AR AC AA AB cF cH cR cC cA cB).toArray, .slice A res.length c, .slice B h.length d, .func (.func 33) #[] #[]] W (DownOk G res h steepQ W)) := Lib.hid fun W hW =>
    down_steep_all G hG AF AH AR AC AA AB cF cH cR cC cA cB res h A B c d W (hV.fr0 hW) (hA.fr0 hW) (hB.fr0 hW) hr hh
  have HB0 := Lib.hid (Blk.new w (csrCells G AF AH AR AC AA AB cF cH cR cC cA cB) 29)
  clear hV hA hB hr hh
  obtain ⟨H1, H2⟩ := csr_one G AF AH AR AC AA AB cF cH cR cC cA cB
  obtain ⟨cs, hcs⟩ : ∃ cs, cs = (csrCells G AF AH AR AC AA AB cF cH cR cC cA cB) := ⟨_, rfl⟩
  rw [← hcs] at HD HB0 H2
  rw [← hcs]
  have H2' := Lib.hid H2
  clear H1 H2 hcs
  go_enter Try.func17, Try.ntmps17
  go_wp2_with (refine wl_load rfl rfl rfl cs HB0.out Try.underlying29 rfl (by rw [H2'.out]; kernel_rfl) ?_)
  refine (HD.out _ ((Fr.refl [] w).alloc _)).mono ?_
  rintro en w6 ⟨A6, c6, rfl, hs6, hF6⟩
  have HS6 := Lib.hid hs6
  have HF6 := Lib.hid (((Fr.refl [] w).alloc _).trans hF6)
  clear hs6 hF6
  go_wp2_with fail
  go_ret
  exact ⟨A6, c6, rfl, HS6.out, HF6.out⟩
set_option maxHeartbeats 2000000 in
set_option maxRecDepth 100000 in
theorem down_flat_all (G : Net) (hG : G.Ok) (AF AH AR AC AA AB : Option Addr) (cF cH cR cC cA cB : Nat) (res h : List Int) (A B : Option Addr) (c d : Nat) (w : World) (hV : CsrV w G AF AH AR AC AA AB) (hA : SlI w A res) (hB : SlI w B h) (hr : res.length = G.E.length) (hh : Hts G h) :
    Calls Try.prog 32 #[.agg (csrCells G AF AH AR AC AA AB cF cH cR cC cA cB).toArray, .slice A res.length c, .slice B h.length d, .func (.func 35) #[] #[]] w (DownOk G res h flatQ w) := by
  have hEl := E_len hG
  obtain ⟨w4, hw4⟩ : ∃ W, W = (((w.alloc (.cells (csrCells G AF AH AR AC AA AB cF cH cR cC cA cB).toArray 29)).alloc (.cells #[.slice A res.length c] 25)).alloc (.cells #[.slice B h.length d] 26)).alloc (.cells #[.func (.func 35) #[] #[]] 68) := ⟨_, rfl⟩
  have hb0 : Blk w4 w.heap.size (csrCells G AF AH AR AC AA AB cF cH cR cC cA cB) 29 := by rw [hw4]; exact (((Blk.new w _ _).alloc _).alloc _).alloc _
  have hb1 : Blk w4 (w.heap.size + 1) [.slice A res.length c] 25 := by rw [hw4]; exact ((Blk.new_at _ _ (by simp)).alloc _).alloc _
  have hb2 : Blk w4 (w.heap.size + 2) [.slice B h.length d] 26 := by rw [hw4]; exact (Blk.new_at _ _ (by simp)).alloc _
  have hb3 : Blk w4 (w.heap.size + 3) [.func (.func 35) #[] #[]] 68 := by rw [hw4]; exact Blk.new_at _ _ (by simp)
  have hF4 : Fr [] w w4 := by rw [hw4]; exact ((((Fr.refl [] w).alloc _).alloc _).alloc _).alloc _
  have HF4 := Lib.hid hF4
  have HM : Hid (∀ W, Fr [] w4 W → Calls Try.prog 31 #[.agg (csrCells G AF AH AR AC AA AB cF cH cR cC cA cB).toArray, .slice A res.length c, .slice B h.length d] W fun e w' => e = .returned (.bool true) ∧ Fr [] W w') := Lib.hid fun W hW =>
    may_yes G hG AF AH AR AC AA AB cF cH cR cC cA cB res h A B c d W (hB.fr0 (hF4.trans hW)) hr hh
  have HPK : Hid (∀ W, Fr [] w4 W → Calls Try.prog 41 #[.int .i64 res.length, .func (.func 42) #[] #[.pointer (some ⟨w.heap.size, 0, none⟩), .pointer (some ⟨w.heap.size + 1, 0, none⟩), .pointer (some ⟨w.heap.size + 3, 0, none⟩), .pointer (some ⟨w.heap.size + 2, 0, none⟩)]] W (DownOk G res h flatQ W)) := Lib.hid fun W hW => by
    rw [hr]
    exact picked_any G.E.length (downB G res h flatQ) W (by omega) fun W' i hW' hi => down_flat G hG AF AH AR AC AA AB cF cH cR cC cA cB res h A B c d W' w.heap.size (w.heap.size + 1) (w.heap.size + 2) (w.heap.size + 3) i hi (hV.fr0 (hF4.trans (hW.trans hW'))) (hA.fr0 (hF4.trans (hW.trans hW'))) (hB.fr0 (hF4.trans (hW.trans hW'))) hr hh
      (hb0.fr (hW.trans hW') (by simp)) ((hb1.fr (hW.trans hW') (by simp)).cell rfl) ((hb2.fr (hW.trans hW') (by simp)).cell rfl) ((hb3.fr (hW.trans hW') (by simp)).cell rfl)
  have HB0 := Lib.hid hb0
  have d1 := hb1.cell (o := 0) rfl
  have d2 := hb2.cell (o := 0) rfl
  have HB1 := Lib.hid hb1
  have HW4 := Lib.hid hw4
  clear hb0 hb1 hb2 hb3 hF4 hV hA hB hr hh hw4
  obtain ⟨H1, H2⟩ := csr_one G AF AH AR AC AA AB cF cH cR cC cA cB
  obtain ⟨cs, hcs⟩ : ∃ cs, cs = (csrCells G AF AH AR AC AA AB cF cH cR cC cA cB) := ⟨_, rfl⟩
  rw [← hcs] at HM HB0 H2 HW4
  rw [← hcs]
  have H2' := Lib.hid H2
  clear H1 H2 hcs
  go_enter Try.func32, Try.ntmps32
  go_upto_region 1 with (fail)
  rw [← HW4.out]
  go_wp2_with (refine wl_load rfl rfl rfl cs HB0.out Try.underlying29 rfl (by rw [H2'.out]; kernel_rfl) ?_)
  refine (HM.out _ (Fr.refl [] _)).mono ?_
  rintro en w5 ⟨rfl, hF5⟩
  have HF5 := Lib.hid hF5
  have c1 := hF5.cell d1 (by simp)
  clear hF5 d1 d2
  go_wp2_with fail
  refine (HPK.out _ HF5.out).mono ?_
  rintro en w6 ⟨A6, c6, rfl, hs6, hF6⟩
  have HS6 := Lib.hid hs6
  have HF6 := Lib.hid hF6
  clear hs6 hF6
  go_wp2_with fail
  go_ret
  exact ⟨A6, c6, rfl, HS6.out, (HF4.out.trans HF5.out).trans HF6.out⟩
set_option maxHeartbeats 1000000 in
theorem flat_any (G : Net) (hG : G.Ok) (AF AH AR AC AA AB : Option Addr) (cF cH cR cC cA cB : Nat) (res h : List Int) (A B : Option Addr) (c d : Nat) (w : World) (hV : CsrV w G AF AH AR AC AA AB) (hA : SlI w A res) (hB : SlI w B h) (hr : res.length = G.E.length) (hh : Hts G h) :
    Calls Try.prog 19 #[.agg (csrCells G AF AH AR AC AA AB cF cH cR cC cA cB).toArray, .slice A res.length c, .slice B h.length d] w (DownOk G res h flatQ w) := by
  have HD : Hid (∀ W, Fr [] w W → Calls Try.prog 32 #[.agg (csrCells G AF AH AR AC AA AB cF cH cR cC cA cB).toArray, .slice A res.length c, .slice B h.length d, .func (.func 35) #[] #[]] W (DownOk G res h flatQ W)) := Lib.hid fun W hW =>
    down_flat_all G hG AF AH AR AC AA AB cF cH cR cC cA cB res h A B c d W (hV.fr0 hW) (hA.fr0 hW) (hB.fr0 hW) hr hh
  have HB0 := Lib.hid (Blk.new w (csrCells G AF AH AR AC AA AB cF cH cR cC cA cB) 29)
  clear hV hA hB hr hh
  obtain ⟨H1, H2⟩ := csr_one G AF AH AR AC AA AB cF cH cR cC cA cB
  obtain ⟨cs, hcs⟩ : ∃ cs, cs = (csrCells G AF AH AR AC AA AB cF cH cR cC cA cB) := ⟨_, rfl⟩
  rw [← hcs] at HD HB0 H2
  rw [← hcs]
  have H2' := Lib.hid H2
  clear H1 H2 hcs
  go_enter Try.func19, Try.ntmps19
  go_wp2_with (refine wl_load rfl rfl rfl cs HB0.out Try.underlying29 rfl (by rw [H2'.out]; kernel_rfl) ?_)
  refine (HD.out _ ((Fr.refl [] w).alloc _)).mono ?_
  rintro en w6 ⟨A6, c6, rfl, hs6, hF6⟩
  have HS6 := Lib.hid hs6
  have HF6 := Lib.hid (((Fr.refl [] w).alloc _).trans hF6)
  clear hs6 hF6
  go_wp2_with fail
  go_ret
  exact ⟨A6, c6, rfl, HS6.out, HF6.out⟩

set_option maxHeartbeats 1000000 in
theorem valid_any (G : Net) (hG : G.Ok) (AF AH AR AC AA AB : Option Addr) (cF cH cR cC cA cB : Nat) (res h : List Int) (A B : Option Addr) (c d : Nat) (w : World) (hV : CsrV w G AF AH AR AC AA AB) (hA : SlI w A res) (hB : SlI w B h) (hr : res.length = G.E.length) (hh : Hts G h) :
    Calls Try.prog 16 #[.agg (csrCells G AF AH AR AC AA AB cF cH cR cC cA cB).toArray, .slice A res.length c, .slice B h.length d] w fun e w' => ∃ b : Bool, e = .returned (.bool b) ∧ (b = true ↔ Valid (Open G res) (fn h)) ∧ Fr [] w w' := by
  have HM : Hid (∀ W, Fr [] w W → Calls Try.prog 31 #[.agg (csrCells G AF AH AR AC AA AB cF cH cR cC cA cB).toArray, .slice A res.length c, .slice B h.length d] W fun e w' => e = .returned (.bool true) ∧ Fr [] W w') := Lib.hid fun W hW =>
    may_yes G hG AF AH AR AC AA AB cF cH cR cC cA cB res h A B c d W (hB.fr0 hW) hr hh
  have HST : Hid (∀ W, Fr [] w W → Calls Try.prog 17 #[.agg (csrCells G AF AH AR AC AA AB cF cH cR cC cA cB).toArray, .slice A res.length c, .slice B h.length d] W fun e w' => ∃ A c n, e = .returned (.slice A n c) ∧ (n = 0 ↔ Valid (Open G res) (fn h)) ∧ Fr [] W w') := Lib.hid fun W hW =>
    (steep_any G hG AF AH AR AC AA AB cF cH cR cC cA cB res h A B c d W (hV.fr0 hW) (hA.fr0 hW) (hB.fr0 hW) hr hh).mono fun e w' ⟨A, c, h1, _, h3⟩ => ⟨A, c, _, h1, ⟨fun h => steep_none.1 (List.eq_nil_of_length_eq_zero h), fun h => by rw [steep_none.2 h]; rfl⟩, h3⟩
  have HB0 := Lib.hid (Blk.new w (csrCells G AF AH AR AC AA AB cF cH cR cC cA cB) 29)
  clear hV hA hB hr hh
  unfold csrCells at *
  go_enter Try.func16, Try.ntmps16
  go_wp2_with (refine wl_load rfl rfl rfl _ HB0.out Try.underlying29 rfl (by kernel_rfl) ?_)
  refine (HM.out _ ((Fr.refl [] w).alloc _)).mono ?_
  rintro en w1 ⟨rfl, hF⟩
  have HB1 := HB0.out.fr hF (by simp)
  have HF := Lib.hid (((Fr.refl [] w).alloc _).trans hF)
  have c0 := HB1.cell (o := 0) rfl
  have c1 := HB1.cell (o := 1) rfl
  have c2 := HB1.cell (o := 2) rfl
  have c3 := HB1.cell (o := 3) rfl
  have c4 := HB1.cell (o := 4) rfl
  have c5 := HB1.cell (o := 5) rfl
  have c6 := HB1.cell (o := 6) rfl
  have c7 := HB1.cell (o := 7) rfl
  have c8 := HB1.cell (o := 8) rfl
  clear hF HB1 HB0 HM
  go_wp2_with fail
  refine (HST.out _ HF.out).mono ?_
  rintro en w2 ⟨A2, k2, n, rfl, hn, hF2⟩
  have HN := Lib.hid hn
  have HF2 := Lib.hid (HF.out.trans hF2)
  clear hF2 hn
  by_cases hn0 : n = 0
  · subst hn0
    go_wp2_with fail
    go_ret
    exact ⟨true, rfl, ⟨fun _ => HN.out.1 (by trivial), fun _ => rfl⟩, HF2.out⟩
  · have q1 : ((n : Int) == 0) = false := by simp; omega
    go_wp2_with fail
    go_ret
    exact ⟨false, rfl, ⟨fun h => by simp at h, fun h => absurd (HN.out.2 h) hn0⟩, HF2.out⟩
end Acq
