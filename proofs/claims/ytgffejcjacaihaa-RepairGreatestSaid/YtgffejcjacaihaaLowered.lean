/- repair.Lowered, acequiaref19.Lowered. -/
import Derived.Test.YtgffejcjacaihaaRefLower
set_option linter.unusedSimpArgs false
set_option linter.unnecessarySimpa false
set_option linter.unusedVariables false
namespace Acq
open Go Go.RowKit Go.Proofs Acq.Low

/-- Who is lower now, among the first `k`. -/
def lowTo (out h : List Int) : Nat → List Int
  | 0 => []
  | k + 1 => lowTo out h k ++ (if out.getD k 0 < h.getD k 0 then [(k : Int)] else [])

theorem lowTo_len (out h : List Int) : ∀ k, (lowTo out h k).length ≤ k
  | 0 => Nat.le_refl _
  | k + 1 => by
    rw [lowTo, List.length_append]
    have := lowTo_len out h k
    split <;> simp <;> omega

structure LowPost (G : Net) (res h out : List Int) : Prop where
  yes : res.length = G.E.length → Hts G h → out.length = G.N ∧ (∀ x ∈ out, 0 ≤ x ∧ x ≤ (G.N : Int)) ∧ Best (Open G res) (fn h) (fn out)
  no : ¬ (res.length = G.E.length ∧ Hts G h) → out = []

theorem LowPost.same {G : Net} {res h out out' : List Int} (a : LowPost G res h out) (b : LowPost G res h out') : out = out' := by
  by_cases hc : res.length = G.E.length ∧ Hts G h
  · obtain ⟨l1, _, b1⟩ := a.yes hc.1 hc.2
    obtain ⟨l2, _, b2⟩ := b.yes hc.1 hc.2
    have hf := b1.same b2
    apply List.ext_getElem?
    intro i
    by_cases hi : i < G.N
    · obtain ⟨x, hx⟩ : ∃ x, out[i]? = some x := ⟨_, List.getElem?_eq_getElem (by omega)⟩
      obtain ⟨y, hy⟩ : ∃ y, out'[i]? = some y := ⟨_, List.getElem?_eq_getElem (by omega)⟩
      have := congrFun hf i
      rw [fn_get hx, fn_get hy] at this
      rw [hx, hy, this]
    · rw [List.getElem?_eq_none (by omega), List.getElem?_eq_none (by omega)]
  · rw [a.no hc, b.no hc]

theorem LowPost.len {G : Net} {res h out : List Int} (a : LowPost G res h out) : out.length ≤ h.length := by
  by_cases hc : res.length = G.E.length ∧ Hts G h
  · rw [(a.yes hc.1 hc.2).1, hc.2.1]; exact Nat.le_refl _
  · rw [a.no hc]; simp

theorem LowPost.small {G : Net} (hG : G.Ok) {res h out : List Int} (a : LowPost G res h out) : out.length ≤ 16 := by
  by_cases hc : res.length = G.E.length ∧ Hts G h
  · rw [(a.yes hc.1 hc.2).1]; exact hG.n16
  · rw [a.no hc]; simp

def LoweredOk (G : Net) (res h : List Int) (w : World) (e : Ending) (w' : World) : Prop := ∃ out A c, LowPost G res h out ∧ e = .returned (.slice A (lowTo out h out.length).length c) ∧ SlI w' A (lowTo out h out.length) ∧ Fr [] w w'

theorem lower_any (G : Net) (hG : G.Ok) (AF AH AR AC AA AB : Option Addr) (cF cH cR cC cA cB : Nat) (res h : List Int) (A B : Option Addr) (c d : Nat) (w : World) (hV : CsrV w G AF AH AR AC AA AB) (hA : SlI w A res) (hB : SlI w B h)
    (hrl : res.length ≤ 9223372036854775807) (hhl : h.length ≤ 9223372036854775807) :
    Calls Try.prog 11 #[.agg (csrCells G AF AH AR AC AA AB cF cH cR cC cA cB).toArray, .slice A res.length c, .slice B h.length d] w fun e w' => ∃ out A c, e = .returned (.slice A (out : List Int).length c) ∧ SlI w' A out ∧ LowPost G res h out ∧ Fr [] w w' :=
  (lower_core G hG AF AH AR AC AA AB cF cH cR cC cA cB res h A B c d w hV hA hB hrl hhl).mono fun _ _ ⟨out, A, c, h1, h2, h3, h4, h5⟩ => ⟨out, A, c, h1, h2, ⟨h3, h4⟩, h5⟩

theorem reflower_any (G : Net) (hG : G.Ok) (AF AH AR AC AA AB : Option Addr) (cF cH cR cC cA cB : Nat) (res h : List Int) (A B : Option Addr) (c d : Nat) (w : World) (hV : CsrV w G AF AH AR AC AA AB) (hA : SlI w A res) (hB : SlI w B h)
    (hrl : res.length ≤ 9223372036854775807) (hhl : h.length ≤ 9223372036854775807) :
    Calls Try.prog 12 #[.agg (csrCells G AF AH AR AC AA AB cF cH cR cC cA cB).toArray, .slice A res.length c, .slice B h.length d] w fun e w' => ∃ out A c, e = .returned (.slice A (out : List Int).length c) ∧ SlI w' A out ∧ LowPost G res h out ∧ Fr [] w w' :=
  (reflower_core G hG AF AH AR AC AA AB cF cH cR cC cA cB res h A B c d w hV hA hB hrl hhl).mono fun _ _ ⟨out, A, c, h1, h2, h3, h4, h5⟩ => ⟨out, A, c, h1, h2, ⟨h3, h4⟩, h5⟩

set_option maxRecDepth 100000 in
set_option maxHeartbeats 2000000 in
theorem lowered_any (G : Net) (hG : G.Ok) (AF AH AR AC AA AB : Option Addr) (cF cH cR cC cA cB : Nat) (res h : List Int) (A B : Option Addr) (c d : Nat) (w : World) (hV : CsrV w G AF AH AR AC AA AB) (hA : SlI w A res) (hB : SlI w B h)
    (hrl : res.length ≤ 9223372036854775807) (hhl : h.length ≤ 9223372036854775807) :
    Calls Try.prog 13 #[.agg (csrCells G AF AH AR AC AA AB cF cH cR cC cA cB).toArray, .slice A res.length c, .slice B h.length d] w (LoweredOk G res h w) := by
  have HLW : Hid (∀ W, Fr [] w W → Calls Try.prog 11 #[.agg (csrCells G AF AH AR AC AA AB cF cH cR cC cA cB).toArray, .slice A res.length c, .slice B h.length d] W fun e w' => ∃ out A c, e = .returned (.slice A (out : List Int).length c) ∧ SlI w' A out ∧ LowPost G res h out ∧ Fr [] W w') := Lib.hid fun W hW => lower_any G hG AF AH AR AC AA AB cF cH cR cC cA cB res h A B c d W (hV.fr0 hW) (hA.fr0 hW) (hB.fr0 hW) hrl hhl
  have HH := Lib.hid hB
  have HB := Lib.hid (Blk.new w (csrCells G AF AH AR AC AA AB cF cH cR cC cA cB) 29)
  obtain ⟨ii, hi0, hi1, hi2, hi3⟩ := info_parts infoInt
  have HII := Lib.hid (And.intro hi0 (And.intro hi1 (And.intro hi2 hi3)))
  clear hV hA hB hi0 hi1 hi2 hi3
  unfold csrCells at *
  go_enter Try.func13, Try.ntmps13
  go_wp2_with (refine wl_load rfl rfl rfl _ HB.out Try.underlying29 rfl (by kernel_rfl) ?_)
  refine (HLW.out _ ((Fr.refl [] w).alloc _)).mono ?_
  rintro e w1 ⟨out, A1, c1, rfl, hS, hP, hF⟩
  have HS := Lib.hid hS
  have HP := Lib.hid hP
  have HF := Lib.hid (((Fr.refl [] w).alloc _).trans hF)
  have hsm := hP.small hG
  have hle := hP.len
  clear hS hP hF HLW HB
  go_wp2_with fail
  go_loopw [7, 8, 9, 15] (fun sv _ _ si wr => ∃ (k : Nat) (v' : Value), v' = sv ∧ si = .int .i64 k ∧ k ≤ out.length ∧ wr.ownsRow w1.heap.size 3 1 v' (ints (lowTo out h k)).length (ints (lowTo out h k)) ∧ Fr [] w1 wr) (fun sv _ _ si _ => out.length - (intOf si).toNat)
  case atStart => exact ⟨0, _, rfl, rfl, Nat.zero_le _, World.ownsRow_nil _ _ _ _, Fr.refl _ _⟩
  case round =>
    obtain ⟨k, vv, rfl, rfl, hk, hO, hF⟩ := hrel
    have HO := Lib.hid hO
    have HFX := Lib.hid hF
    clear hO hF
    by_cases hkn : k < out.length
    · obtain ⟨x, hx⟩ : ∃ x, out[k]? = some x := ⟨_, List.getElem?_eq_getElem hkn⟩
      obtain ⟨y, hy⟩ : ∃ y, h[k]? = some y := ⟨_, List.getElem?_eq_getElem (by omega)⟩
      obtain ⟨g1, o1, rfl, x1⟩ := (HS.out.fr0 HFX.out).at hx
      obtain ⟨g2, o2, rfl, x2⟩ := (HH.out.fr0 (HF.out.trans HFX.out)).at hy
      have k0 : (0 : Int) ≤ (k : Int) := by omega
      have k1 : (k : Int) < (out.length : Int) := by omega
      have k2 : (k : Int) < (h.length : Int) := by omega
      have KT : Hid (lowTo out h (k + 1) = lowTo out h k ++ (if x < y then [(k : Int)] else [])) := Lib.hid (by rw [lowTo, List.getD_eq_getElem?_getD, List.getD_eq_getElem?_getD, hx, hy]; rfl)
      have HLN : Hid ((ints (lowTo out h k)).length ≤ 16) := Lib.hid (by rw [ints_len]; have := lowTo_len out h k; omega)
      clear hx hy
      by_cases hxy : x < y
      · have d1 : decide (x < y) = true := by simp [hxy]
        skip
        go_wp2_with (at_builtin; refine wpList_append_lies _ rfl _ _ 26 rfl w1.heap.size 3 ii _ 1 8 Try.underlying26 HII.out.1 HII.out.2.1 HII.out.2.2.1 HII.out.2.2.2 rfl (by decide) vv _ _ rfl (ownsRow_fr HO.out (((Fr.refl [] wr)).alloc _) (by simp)) ⟨wr.heap.size, 0, none⟩ 1 1 [.int .i64 k] rfl rfl (World.news_of_block (heap_alloc_new _ _)) (by simp [Value.oneCell']) (by decide) (by have := HLN.out; unfold maxLen; omega) (by have := HLN.out; omega) (by rw [World.size_alloc]; have := HFX.out.size; simp; omega) (wr.heap.size + 1) (by simp) ?_; intro gg cap_ w4 hown4 hgr4 hat4 hlt4; have HO4 := Lib.hid hown4; have HG4 := Lib.hid hgr4; clear hown4 hgr4 hat4 hlt4)
        go_roundw
        case rel =>
          refine ⟨k + 1, _, rfl, by go_num, by omega, ?_, ?_⟩
          · rw [KT.out, if_pos hxy, ints_app]
            simpa [ints] using HO4.out
          · have hge := own_ge HO.out
            exact ((((HFX.out).alloc _).more (S' := vv.ownBlock.toList) (by simp)).trans (Fr.of_grown HG4.out (fun k hk => by simpa using hk))).less (fun x hx _ => hge x (by simpa using hx))
        case measure => simp [intOf]; omega
      · have d1 : decide (x < y) = false := by simp; omega
        skip
        go_wp2_with fail
        go_roundw
        case rel =>
          refine ⟨k + 1, _, rfl, by go_num, by omega, ?_, HFX.out⟩
          rw [KT.out, if_neg hxy, List.append_nil]
          exact ownsRow_fr HO.out ((Fr.refl [] wr)) (by simp)
        case measure => simp [intOf]; omega
    · have hkk : k = out.length := by omega
      subst hkk
      obtain ⟨c2, hc2, hve, hsl⟩ := Sl.of_own HO.out (by decide)
      go_wp2_with fail
      go_ret
      refine ⟨out, vv.ownBlock.map fun g => ⟨g, 0, none⟩, c2, HP.out, ?_, ?_, HF.out.trans HFX.out⟩
      · rw [ints_len] at hve
        rw [← hve]
        rfl
      · unfold SlI
        rw [ints_len] at hsl
        exact hsl
set_option maxRecDepth 100000 in
set_option maxHeartbeats 2000000 in
theorem reflowered_any (G : Net) (hG : G.Ok) (AF AH AR AC AA AB : Option Addr) (cF cH cR cC cA cB : Nat) (res h : List Int) (A B : Option Addr) (c d : Nat) (w : World) (hV : CsrV w G AF AH AR AC AA AB) (hA : SlI w A res) (hB : SlI w B h)
    (hrl : res.length ≤ 9223372036854775807) (hhl : h.length ≤ 9223372036854775807) :
    Calls Try.prog 14 #[.agg (csrCells G AF AH AR AC AA AB cF cH cR cC cA cB).toArray, .slice A res.length c, .slice B h.length d] w (LoweredOk G res h w) := by
  have HLW : Hid (∀ W, Fr [] w W → Calls Try.prog 12 #[.agg (csrCells G AF AH AR AC AA AB cF cH cR cC cA cB).toArray, .slice A res.length c, .slice B h.length d] W fun e w' => ∃ out A c, e = .returned (.slice A (out : List Int).length c) ∧ SlI w' A out ∧ LowPost G res h out ∧ Fr [] W w') := Lib.hid fun W hW => reflower_any G hG AF AH AR AC AA AB cF cH cR cC cA cB res h A B c d W (hV.fr0 hW) (hA.fr0 hW) (hB.fr0 hW) hrl hhl
  have HH := Lib.hid hB
  have HB := Lib.hid (Blk.new w (csrCells G AF AH AR AC AA AB cF cH cR cC cA cB) 29)
  obtain ⟨ii, hi0, hi1, hi2, hi3⟩ := info_parts infoInt
  have HII := Lib.hid (And.intro hi0 (And.intro hi1 (And.intro hi2 hi3)))
  clear hV hA hB hi0 hi1 hi2 hi3
  unfold csrCells at *
  go_enter Try.func14, Try.ntmps14
  go_wp2_with (refine wl_load rfl rfl rfl _ HB.out Try.underlying29 rfl (by kernel_rfl) ?_)
  refine (HLW.out _ ((Fr.refl [] w).alloc _)).mono ?_
  rintro e w1 ⟨out, A1, c1, rfl, hS, hP, hF⟩
  have HS := Lib.hid hS
  have HP := Lib.hid hP
  have HF := Lib.hid (((Fr.refl [] w).alloc _).trans hF)
  have hsm := hP.small hG
  have hle := hP.len
  clear hS hP hF HLW HB
  go_wp2_with fail
  go_loopw [8, 9] (fun sv si wr => ∃ (k : Nat) (v' : Value), v' = sv ∧ si = .int .i64 k ∧ k ≤ out.length ∧ wr.ownsRow w1.heap.size 3 1 v' (ints (lowTo out h k)).length (ints (lowTo out h k)) ∧ Fr [] w1 wr) (fun sv si _ => out.length - (intOf si).toNat)
  case atStart => exact ⟨0, _, rfl, rfl, Nat.zero_le _, World.ownsRow_nil _ _ _ _, Fr.refl _ _⟩
  case round =>
    obtain ⟨k, vv, rfl, rfl, hk, hO, hF⟩ := hrel
    have HO := Lib.hid hO
    have HFX := Lib.hid hF
    clear hO hF
    by_cases hkn : k < out.length
    · obtain ⟨x, hx⟩ : ∃ x, out[k]? = some x := ⟨_, List.getElem?_eq_getElem hkn⟩
      obtain ⟨y, hy⟩ : ∃ y, h[k]? = some y := ⟨_, List.getElem?_eq_getElem (by omega)⟩
      obtain ⟨g1, o1, rfl, x1⟩ := (HS.out.fr0 HFX.out).at hx
      obtain ⟨g2, o2, rfl, x2⟩ := (HH.out.fr0 (HF.out.trans HFX.out)).at hy
      have k0 : (0 : Int) ≤ (k : Int) := by omega
      have k1 : (k : Int) < (out.length : Int) := by omega
      have k2 : (k : Int) < (h.length : Int) := by omega
      have KT : Hid (lowTo out h (k + 1) = lowTo out h k ++ (if x < y then [(k : Int)] else [])) := Lib.hid (by rw [lowTo, List.getD_eq_getElem?_getD, List.getD_eq_getElem?_getD, hx, hy]; rfl)
      have HLN : Hid ((ints (lowTo out h k)).length ≤ 16) := Lib.hid (by rw [ints_len]; have := lowTo_len out h k; omega)
      clear hx hy
      by_cases hxy : x < y
      · have d1 : decide (x < y) = true := by simp [hxy]
        go_upto_region 6 with (fail)
        go_quiet (fail)
        go_wp2_with (at_builtin; refine wpList_append_lies _ rfl _ _ 26 rfl w1.heap.size 3 ii _ 1 8 Try.underlying26 HII.out.1 HII.out.2.1 HII.out.2.2.1 HII.out.2.2.2 rfl (by decide) vv _ _ rfl (ownsRow_fr HO.out (((Fr.refl [] wr).drewN _).alloc _) (by simp)) ⟨wr.heap.size, 0, none⟩ 1 1 [.int .i64 k] rfl rfl (World.news_of_block (heap_alloc_new _ _)) (by simp [Value.oneCell']) (by decide) (by have := HLN.out; unfold maxLen; omega) (by have := HLN.out; omega) (by rw [World.size_alloc]; have := HFX.out.size; simp; omega) (wr.heap.size + 1) (by simp) ?_; intro gg cap_ w4 hown4 hgr4 hat4 hlt4; have HO4 := Lib.hid hown4; have HG4 := Lib.hid hgr4; clear hown4 hgr4 hat4 hlt4)
        go_roundw
        case rel =>
          refine ⟨k + 1, _, rfl, by go_num, by omega, ?_, ?_⟩
          · rw [KT.out, if_pos hxy, ints_app]
            simpa [ints] using HO4.out
          · have hge := own_ge HO.out
            exact ((((HFX.out.drewN _).alloc _).more (S' := vv.ownBlock.toList) (by simp)).trans (Fr.of_grown HG4.out (fun k hk => by simpa using hk))).less (fun x hx _ => hge x (by simpa using hx))
        case measure => simp [intOf]; omega
      · have d1 : decide (x < y) = false := by simp; omega
        go_upto_region 6 with (fail)
        go_quiet (fail)
        go_wp2_with fail
        go_roundw
        case rel =>
          refine ⟨k + 1, _, rfl, by go_num, by omega, ?_, HFX.out.drewN _⟩
          rw [KT.out, if_neg hxy, List.append_nil]
          exact ownsRow_fr HO.out ((Fr.refl [] wr).drewN _) (by simp)
        case measure => simp [intOf]; omega
    · have hkk : k = out.length := by omega
      subst hkk
      obtain ⟨c2, hc2, hve, hsl⟩ := Sl.of_own HO.out (by decide)
      go_wp2_with fail
      go_ret
      refine ⟨out, vv.ownBlock.map fun g => ⟨g, 0, none⟩, c2, HP.out, ?_, ?_, HF.out.trans HFX.out⟩
      · rw [ints_len] at hve
        rw [← hve]
        rfl
      · unfold SlI
        rw [ints_len] at hsl
        exact hsl
end Acq
