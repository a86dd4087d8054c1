/- acequiaref19.Lower. -/
import Derived.Test.YtgffejcjacaihaaLower
set_option linter.unusedSimpArgs false
set_option linter.unnecessarySimpa false
set_option linter.unusedVariables false
namespace Acq
open Go Go.RowKit Go.Proofs Acq.Low

/-- An entry of which no open arc is steep. -/
def Fine (G : Net) (res f : List Int) (a : Nat) : Prop := ∀ e, G.E[a]? = some e → e.tl ≠ G.S → 0 < res.getD a 0 → fn f e.tl ≤ fn f e.hd + 1

/-- Within a round: nothing was lowered, and all so far is fine; or something was. -/
structure Rnd (G : Net) (res h f0 : List Int) (a : Nat) (f : List Int) (more : Bool) : Prop where
  len : f.length = G.N
  bd : ∀ y ∈ f, 0 ≤ y ∧ y ≤ (G.N : Int)
  above : Above (Open G res) (fn h) (fn f)
  no : more = false → f = f0 ∧ ∀ a', a' < a → Fine G res f a'
  yes : more = true → sumN f + 1 ≤ sumN f0

theorem Rnd.pass {G : Net} {res h f0 f : List Int} {a : Nat} {more : Bool} (r : Rnd G res h f0 a f more) (hf : Fine G res f a) : Rnd G res h f0 (a + 1) f more :=
  ⟨r.len, r.bd, r.above, fun hm => ⟨(r.no hm).1, fun a' ha => by
    by_cases h1 : a' = a
    · subst h1; exact hf
    · exact (r.no hm).2 a' (by omega)⟩, r.yes⟩

theorem Rnd.lower {G : Net} {res h f0 f : List Int} {a u v : Nat} {fu fv : Int} {more : Bool} (r : Rnd G res h f0 a f more) (hE : Open G res u v) (hu : f[u]? = some fu) (hv : f[v]? = some fv) (hs : fv + 1 < fu) : Rnd G res h f0 (a + 1) (f.set u (fv + 1)) true := by
  have hul := (List.getElem?_eq_some_iff.1 hu).1
  have bu := r.bd fu (List.mem_of_getElem? hu)
  have bv := r.bd fv (List.mem_of_getElem? hv)
  refine ⟨by rw [List.length_set, r.len], fun y hy => ?_, ?_, fun h => by simp at h, fun _ => ?_⟩
  · rcases List.mem_or_eq_of_mem_set hy with h1 | h1
    · exact r.bd y h1
    · subst h1; omega
  · have h1 := r.above.lower hE (by rw [fn_get hu, fn_get hv]; exact hs)
    rw [fn_get hv, ← fn_set hul] at h1
    exact h1
  · have h1 := sumN_set hu (by omega : 0 ≤ fv + 1) hs
    cases more
    · rw [(r.no rfl).1] at h1; rw [(r.no rfl).1]; exact h1
    · have := r.yes rfl; omega

theorem Rnd.valid {G : Net} {res h f0 f : List Int} (r : Rnd G res h f0 G.E.length f false) : Best (Open G res) (fn h) (fn f) :=
  r.above.best fun u v hE => by
    obtain ⟨hS, a, e, he, h1, h2, h3⟩ := hE
    have := (r.no rfl).2 a (List.getElem?_eq_some_iff.1 he).1 e he (by rw [h1]; exact hS) h3
    rw [h1, h2] at this
    exact this

set_option maxRecDepth 100000 in
set_option maxHeartbeats 4000000 in
theorem reflower_core (G : Net) (hG : G.Ok) (AF AH AR AC AA AB : Option Addr) (cF cH cR cC cA cB : Nat) (res h : List Int) (A B : Option Addr) (c d : Nat) (w : World) (hV : CsrV w G AF AH AR AC AA AB) (hA : SlI w A res) (hB : SlI w B h)
    (hrl : res.length ≤ 9223372036854775807) (hhl : h.length ≤ 9223372036854775807) :
    Calls Try.prog 12 #[.agg (csrCells G AF AH AR AC AA AB cF cH cR cC cA cB).toArray, .slice A res.length c, .slice B h.length d] w (LowerOk G res h w) := by
  have hm1 := E_len hG
  have hN16 := hG.n16
  have HV := Lib.hid hV
  have HA := Lib.hid hA
  have HH := Lib.hid hB
  have HRT : Hid (∀ W, Fr [] w W → Calls Try.prog 30 #[.agg (csrCells G AF AH AR AC AA AB cF cH cR cC cA cB).toArray, .slice B h.length d] W (RightOk G.N G.S G.T h W)) := Lib.hid fun W hW => refright_core G.N G.S G.T _ _ _ _ _ _ B d h W (by have := hG.n2; omega) hG.n16 hG.s hG.t (hB.fr0 hW) hhl
  clear hV hA hB
  unfold csrCells at *
  generalize hmm : G.E.length = m at *
  have HB := Lib.hid (Blk.new w [.int .i64 G.N, .int .i64 G.S, .int .i64 G.T, .slice AF (G.N + 1) cF, .slice AH m cH, .slice AR m cR, .slice AC m cC, .slice AA m cA, .slice AB m cB] 29)
  have HMM := Lib.hid hmm
  clear hmm
  go_enter Try.func12, Try.ntmps12
  go_upto_region 1 with (fail)
  obtain ⟨nb, hnb⟩ : ∃ b, b = w.heap.size := ⟨_, rfl⟩
  obtain ⟨w1, hw1⟩ : ∃ W, W = w.alloc (.cells #[.int .i64 G.N, .int .i64 G.S, .int .i64 G.T, .slice AF (G.N + 1) cF, .slice AH m cH, .slice AR m cR, .slice AC m cC, .slice AA m cA, .slice AB m cB] 29) := ⟨_, rfl⟩
  rw [← hw1, ← hnb]
  have HB1 : Hid (Blk w1 nb [.int .i64 G.N, .int .i64 G.S, .int .i64 G.T, .slice AF (G.N + 1) cF, .slice AH m cH, .slice AR m cR, .slice AC m cC, .slice AA m cA, .slice AB m cB] 29) := Lib.hid (by rw [hw1, hnb]; exact HB.out)
  have HF1 : Hid (Fr [] w w1) := Lib.hid (by rw [hw1]; exact (Fr.refl _ _).alloc _)
  have HNB : Hid (nb = w.heap.size ∧ w1.heap.size = w.heap.size + 1) := Lib.hid ⟨hnb, by rw [hw1]; simp⟩
  clear hw1 hnb HB
  have d0 := HB1.out.cell (o := 0) rfl
  have d1 := HB1.out.cell (o := 1) rfl
  have d2 := HB1.out.cell (o := 2) rfl
  have d3 := HB1.out.cell (o := 3) rfl
  have d4 := HB1.out.cell (o := 4) rfl
  have d5 := HB1.out.cell (o := 5) rfl
  have d6 := HB1.out.cell (o := 6) rfl
  have d7 := HB1.out.cell (o := 7) rfl
  have d8 := HB1.out.cell (o := 8) rfl
  by_cases hl : res.length = m
  · have HL := Lib.hid hl
    have q1 : ((res.length : Int) != (m : Int)) = false := by simp [hl]
    have q2 : (res.length != m) = false := by simp [hl]
    have q3 : ((res.length : Int) == (m : Int)) = true := by simp [hl]
    have q4 : (res.length == m) = true := by simp [hl]
    clear hl
    go_wp2_with fail
    refine (HRT.out _ HF1.out).mono ?_
    rintro e w3 ⟨b, rfl, hb, hF3⟩
    have HBB := Lib.hid hb
    have HF3 := Lib.hid (HF1.out.trans hF3)
    have HB3 := Lib.hid (HB1.out.fr hF3 (by simp))
    clear hb hF3 d0 d1 d2 d3 d4 d5 d6 d7 d8 q1 q2 q3 q4
    cases b
    · go_wp2_with fail
      go_ret
      refine ⟨[], none, 0, rfl, Sl.nil _ _ _, fun _ hh => ?_, fun _ => rfl, HF3.out⟩
      have := HBB.out.2 hh
      simp at this
    · have hH : Hid (Hts G h) := Lib.hid (HBB.out.1 rfl)
      obtain ⟨ii, hi0, hi1, hi2, hi3⟩ := info_parts infoInt
      have HII := Lib.hid (And.intro hi0 (And.intro hi1 (And.intro hi2 hi3)))
      obtain ⟨g0, off0, rfl, hc⟩ := (HH.out.fr0 HF3.out).2 (by rw [hH.out.1]; have := hG.n2; omega)
      have HNW : Hid (∀ (j : Nat) u, (ints h)[j]? = some u → (w3.alloc (.cells #[] 3)).cell? (Addr.add ⟨g0, off0, none⟩ j) = some u) := Lib.hid (by
        intro j u hu
        rw [Addr.add_mid]
        exact ((Fr.refl [] w3).alloc _).cell (hc j u hu) (by simp))
      have H1C : Hid (∀ u ∈ ints h, u.oneCell' = true) := Lib.hid (by
        intro u hu
        obtain ⟨i, _, rfl⟩ := List.mem_map.1 hu
        rfl)
      have HLD : Hid ((ints h).length = h.length * 1) := Lib.hid (by rw [ints_len]; omega)
      have hHl : h.length ≤ 16 ∧ 0 < h.length := by rw [hH.out.1]; have := hG.n16; have := hG.n2; omega
      have hlt3 := HB3.out.lt
      clear hi0 hi1 hi2 hi3 hc HBB
      go_upto_region 3 with (fail)
      refine wp_region_list (wl_empty (e := 3) rfl rfl (by kernel_rfl) ?_)
      go_upto_region 4 with (at_builtin; refine wpList_append_lies _ rfl _ _ 26 rfl w3.heap.size 3 ii _ 1 8 Try.underlying26 HII.out.1 HII.out.2.1 HII.out.2.2.1 HII.out.2.2.2 rfl (by decide) (.slice (some ⟨w3.heap.size, 0, none⟩) 0 0) 0 [] rfl (own_none w3 _) ⟨g0, off0, none⟩ h.length _ (ints h) rfl HLD.out HNW.out H1C.out (by omega) (by unfold maxLen; omega) (by omega) (by rw [World.size_alloc]; omega) (w3.heap.size + 1) (by simp) ?_; intro g d' w4 hown4 hgr4 hat4 hlt4; have HO4 := Lib.hid hown4; have HG4 := Lib.hid hgr4; clear hown4 hgr4 hat4 hlt4)
      have hO4 : w4.ownsRow w3.heap.size 3 1 (.slice (some ⟨g, 0, none⟩) G.N d') G.N (ints h) := by
        have h1 := HO4.out
        rw [Nat.zero_add, List.nil_append, hH.out.1] at h1
        exact h1
      have hF4 : Fr [] w3 w4 := (((Fr.refl [] w3).alloc _).more (S' := [w3.heap.size]) (by simp)).trans (Fr.of_grown HG4.out (by simp [Value.ownBlock])) |>.less (by simp)
      have HO5 := Lib.hid hO4
      have HF5 := Lib.hid (HF3.out.trans hF4)
      have HB5 := Lib.hid (HB3.out.fr hF4 (by simp))
      have HGN : Hid (w.heap.size ≤ g ∧ nb ≠ g) := Lib.hid (by have := own_ge hO4 g rfl; have := HNB.out; omega)
      clear hO4 hF4 HO4 HG4 HLD HNW H1C hlt3
      rw [hH.out.1]
      go_wp2_with fail
      go_loopg [8, 9, 10] (sumN h + 1) (fun n s8 _ _ wr => ∃ (f : List Int) (more : Bool), s8 = .bool more ∧ f.length = G.N ∧ (∀ y ∈ f, 0 ≤ y ∧ y ≤ (G.N : Int)) ∧ Above (Open G res) (fn h) (fn f) ∧ (more = false → Best (Open G res) (fn h) (fn f)) ∧ sumN f + (if more then 1 else 0) ≤ n ∧ wr.ownsRow w3.heap.size 3 1 (.slice (some ⟨g, 0, none⟩) G.N d') G.N (ints f) ∧ Fr [g] w4 wr)
      case atStart => exact ⟨h, true, rfl, hH.out.1, hH.out.2.1, Above.start _ _, fun h => by simp at h, Nat.le_refl _, HO5.out, Fr.refl _ _⟩
      case round =>
        obtain ⟨f0, more, rfl, hfl, hfb, hab, hbest, hms, hO, hF⟩ := hrel
        have HFL := Lib.hid hfl
        have HFB := Lib.hid hfb
        have HAB := Lib.hid hab
        have HBE := Lib.hid hbest
        have HMS := Lib.hid hms
        have HO := Lib.hid hO
        have HF := Lib.hid hF
        clear hfl hfb hab hbest hms hO hF
        cases more
        · go_wp2_with fail
          go_ret
          obtain ⟨_, _, hve, hsl⟩ := Sl.of_own HO.out (by decide)
          refine ⟨f0, some ⟨g, 0, none⟩, d', by rw [HFL.out]; rfl, ?_, fun _ _ => ⟨HFL.out, HFB.out, HBE.out (by trivial)⟩, fun hno => absurd ⟨HL.out.trans HMM.out.symm, hH.out⟩ hno, ((HF5.out.more (by simp)).trans HF.out).less (by simp; have := HGN.out; omega)⟩
          unfold SlI
          rw [HFL.out]
          exact hsl
        · have HR0 : Hid (Rnd G res h f0 (off G 0) f0 false) := Lib.hid ⟨HFL.out, HFB.out, HAB.out, fun _ => ⟨rfl, fun a' ha => by simp [off, allTo] at ha⟩, fun h => by simp at h⟩
          clear HFL HFB HAB HBE
          obtain ⟨wo, rfl⟩ : ∃ wo : World, wo = wr := ⟨_, rfl⟩
          go_wp2_with fail
          go_loopw [8, 9, 10] (fun s8 s9 _ wr => ∃ (u : Nat) (f : List Int) (more : Bool), s8 = .bool more ∧ s9 = .int .i64 u ∧ u ≤ G.N ∧ Rnd G res h f0 (off G u) f more ∧ wr.ownsRow w3.heap.size 3 1 (.slice (some ⟨g, 0, none⟩) G.N d') G.N (ints f) ∧ Fr [g] w4 wr) (fun _ s9 _ _ => G.N - (intOf s9).toNat)
          case atStart => exact ⟨0, f0, false, rfl, rfl, Nat.zero_le _, HR0.out, HO.out, HF.out⟩
          case round =>
            clear HR0 HO HF
            obtain ⟨u, f, more, rfl, rfl, hu, hR, hO, hF⟩ := hrel
            have hB := HB5.out.fr hF (by simp; have := HGN.out; omega)
            have b0 := hB.cell (o := 0) rfl
            have b3 := hB.cell (o := 3) rfl
            have HFw : Hid (Fr [] w wr) := Lib.hid (((HF5.out.more (by simp)).trans hF).less (by simp; have := HGN.out; omega))
            have HR := Lib.hid hR
            have HO := Lib.hid hO
            have HF := Lib.hid hF
            clear hR hO hF hB
            by_cases huN : u < G.N
            · have hfg := first_get G (v := u) (by omega)
              obtain ⟨gF, oF, rfl, hF0⟩ := (HV.out.fr0 HFw.out).F.all (by have := (List.getElem?_eq_some_iff.1 hfg).1; omega)
              have f0' := hF0 u _ hfg
              have u0 : (0 : Int) ≤ (u : Int) := by omega
              have u1 : (u : Int) < (G.N : Int) := by omega
              clear hF0 hfg
              obtain ⟨wp, rfl⟩ : ∃ wp : World, wp = wr := ⟨_, rfl⟩
              go_wp2_with fail
              go_loopw [8, 10] (fun s8 s10 wr => ∃ (a : Nat) (f : List Int) (more : Bool), s8 = .bool more ∧ s10 = .int .i64 a ∧ off G u ≤ a ∧ a ≤ off G (u + 1) ∧ Rnd G res h f0 a f more ∧ wr.ownsRow w3.heap.size 3 1 (.slice (some ⟨g, 0, none⟩) G.N d') G.N (ints f) ∧ Fr [g] w4 wr) (fun _ s10 _ => off G (u + 1) - (intOf s10).toNat)
              case atStart => exact ⟨_, f, more, rfl, rfl, Nat.le_refl _, off_mono G (by omega), HR.out, HO.out, HF.out⟩
              case round =>
                clear HR HO HF b0 b3 f0' HFw
                obtain ⟨a, f, more, rfl, rfl, ha0, ha1, hR, hO, hF⟩ := hrel
                have hB := HB5.out.fr hF (by simp; have := HGN.out; omega)
                have b1 := hB.cell (o := 1) rfl
                have b3 := hB.cell (o := 3) rfl
                have b4 := hB.cell (o := 4) rfl
                have HFw : Hid (Fr [] w wr) := Lib.hid (((HF5.out.more (by simp)).trans hF).less (by simp; have := HGN.out; omega))
                have hVw := HV.out.fr0 HFw.out
                obtain ⟨_, _, hgo, hF0⟩ := hVw.F.all (by have := (List.getElem?_eq_some_iff.1 (first_get G (v := u) (by omega))).1; omega)
                simp only [Option.some.injEq, Addr.mk.injEq, and_true] at hgo
                obtain ⟨rfl, rfl⟩ := hgo
                have f1 := hF0 (u + 1) _ (first_get G (v := u + 1) (by omega))
                have HR := Lib.hid hR
                have HO := Lib.hid hO
                have HF := Lib.hid hF
                clear hR hO hF hB hF0
                by_cases han : a < off G (u + 1)
                · obtain ⟨e, b, hEa, htl, hhd, hne, hhead, _, _, _, _⟩ := at_entry hG huN ha0 han
                  obtain ⟨v, hv⟩ : ∃ v, v = e.hd := ⟨_, rfl⟩
                  rw [← hv] at hhd hne hhead
                  obtain ⟨gH, oH, rfl, hc4⟩ := hVw.H.at hhead
                  have hamN : a < m := by rw [← HMM.out]; exact (List.getElem?_eq_some_iff.1 hEa).1
                  obtain ⟨r, hr⟩ : ∃ r, res[a]? = some r := ⟨_, List.getElem?_eq_getElem (by rw [HL.out]; exact hamN)⟩
                  obtain ⟨gA, oA, rfl, hcA⟩ := (HA.out.fr0 HFw.out).at hr
                  obtain ⟨fu, hfu⟩ : ∃ y, f[u]? = some y := ⟨_, List.getElem?_eq_getElem (by rw [HR.out.len]; exact huN)⟩
                  obtain ⟨fv, hfv⟩ : ∃ y, f[v]? = some y := ⟨_, List.getElem?_eq_getElem (by rw [HR.out.len]; exact hhd)⟩
                  have y1 := HO.out.cellAt u (by omega)
                  rw [ints_get hfu] at y1
                  have y2 := HO.out.cellAt v (by omega)
                  rw [ints_get hfv] at y2
                  have bu := HR.out.bd fu (List.mem_of_getElem? hfu)
                  have bv := HR.out.bd fv (List.mem_of_getElem? hfv)
                  have KE : Hid (u ≠ G.S → 0 < r → Open G res u v) := Lib.hid fun h1 h2 => ⟨h1, a, e, hEa, htl, hv.symm, by rw [List.getD_eq_getElem?_getD, hr]; exact h2⟩
                  have KF : Hid (¬ (u ≠ G.S ∧ 0 < r ∧ fv + 1 < fu) → Fine G res f a) := Lib.hid fun hno e' he' h1 h2 => by
                    rw [hEa] at he'
                    obtain rfl := Option.some.inj he'
                    rw [List.getD_eq_getElem?_getD, hr] at h2
                    rw [htl, ← hv, fn_get hfu, fn_get hfv]
                    rw [htl] at h1
                    rcases Int.lt_or_le (fv + 1) fu with h3 | h3
                    · exact absurd ⟨h1, h2, h3⟩ hno
                    · exact h3
                  have a0 : (0 : Int) ≤ (a : Int) := by omega
                  have a1 : (a : Int) < (m : Int) := by omega
                  have a2 : (a : Int) < (res.length : Int) := by rw [HL.out]; omega
                  have v0 : (0 : Int) ≤ (v : Int) := by omega
                  have v1 : (v : Int) < (G.N : Int) := by omega
                  have w1' : IntKind.i64.wrap (fv + 1) = fv + 1 := IntWalk.i64_in _ (by have := hG.n16; omega)
                  have HFU := Lib.hid hfu
                  have HFV := Lib.hid hfv
                  clear hEa htl hhead hr hfu hfv hv hVw
                  go_upto_region 13 with (fail)
                  by_cases c1 : u ≠ G.S ∧ 0 < r ∧ fv + 1 < fu
                  · obtain ⟨c1, c2, c3⟩ := c1
                    go_cut [74] (fun s wx => s = .bool true ∧ Fr [] wr wx)
                    case first =>
                      have q1 : ((u : Int) == (G.S : Int)) = false := by simp; omega
                      have q2 : ((u : Int) != (G.S : Int)) = true := by simp; omega
                      have q3 : (u == G.S) = false := by simp; omega
                      have q4 : (u != G.S) = true := by simp; omega
                      have q5 : decide (0 < r) = true := by simp [c2]
                      have q6 : decide (fv + 1 < fu) = true := by simp [c3]
                      clear c1 c2 c3
                      go_quiet (fail)
                      go_wp2_with fail
                      go_meet
                      exact ⟨rfl, (Fr.refl _ _).drewN _⟩
                    case rest =>
                      obtain ⟨rfl, hFx⟩ := hcut
                      have hO2 := ownsRow_fr HO.out hFx (by simp)
                      have z1 := hO2.cellAt u (by omega)
                      rw [ints_get HFU.out] at z1
                      have z2 := hO2.frozenAt u
                      have z3 := hO2.cellAt v (by omega)
                      rw [ints_get HFV.out] at z3
                      have z4 := hFx.cell b4 (by simp)
                      have z5 := hFx.cell hc4 (by simp)
                      have HO2 := Lib.hid hO2
                      have HFX := Lib.hid (HF.out.trans (hFx.more (by simp)))
                      clear hFx hO2 y1 y2 b1 b3 b4 hc4 hcA f1
                      go_wp2_with fail
                      go_roundw
                      case rel =>
                        refine ⟨a + 1, f.set u (fv + 1), true, rfl, by go_num, by omega, by omega, HR.out.lower (KE.out c1 c2) HFU.out HFV.out c3, ?_, HFX.out.trans ((Fr.refl [g] _).setCell (by simp) _)⟩
                        rw [← ints_set]
                        exact (HO2.out.stored u _).1
                      case measure => simp [intOf]; omega
                  · go_cut [74] (fun s wx => s = .bool false ∧ Fr [] wr wx)
                    case first =>
                      by_cases c2 : u = G.S
                      · have q1 : ((u : Int) == (G.S : Int)) = true := by simp [c2]
                        have q2 : ((u : Int) != (G.S : Int)) = false := by simp [c2]
                        have q3 : (u == G.S) = true := by simp [c2]
                        have q4 : (u != G.S) = false := by simp [c2]
                        clear c1 c2
                        go_quiet (fail)
                        go_wp2_with fail
                        go_meet
                        exact ⟨rfl, (Fr.refl _ _).drewN _⟩
                      · have q1 : ((u : Int) == (G.S : Int)) = false := by simp; omega
                        have q2 : ((u : Int) != (G.S : Int)) = true := by simp; omega
                        have q3 : (u == G.S) = false := by simp; omega
                        have q4 : (u != G.S) = true := by simp; omega
                        by_cases c3 : 0 < r
                        · have q5 : decide (0 < r) = true := by simp [c3]
                          have q6 : decide (fv + 1 < fu) = false := by simp; omega
                          clear c1 c2 c3
                          go_quiet (fail)
                          go_wp2_with fail
                          go_meet
                          exact ⟨rfl, (Fr.refl _ _).drewN _⟩
                        · have q5 : decide (0 < r) = false := by simp; omega
                          clear c1 c2 c3
                          go_quiet (fail)
                          go_wp2_with fail
                          go_meet
                          exact ⟨rfl, (Fr.refl _ _).drewN _⟩
                    case rest =>
                      obtain ⟨rfl, hFx⟩ := hcut
                      have HFX := Lib.hid hFx
                      clear hFx
                      go_wp2_with fail
                      go_roundw
                      case rel =>
                        exact ⟨a + 1, f, more, rfl, by go_num, by omega, by omega, HR.out.pass (KF.out c1), ownsRow_fr HO.out HFX.out (by simp), HF.out.trans (HFX.out.more (by simp))⟩
                      case measure => simp [intOf]; omega
                · have hae : a = off G (u + 1) := by omega
                  subst hae
                  go_wp2_with fail
                  go_roundw
                  case rel => exact ⟨u + 1, f, more, rfl, by go_num, by omega, HR.out, HO.out, HF.out⟩
                  case measure => simp [intOf]; omega
            · have huu : u = G.N := by omega
              subst huu
              go_wp2_with fail
              go_roundg (sumN f + (if more then 1 else 0))
              case measure =>
                have h1 := HMS.out
                simp at h1
                cases more
                · rw [(HR.out.no rfl).1]; simp; omega
                · have := HR.out.yes rfl; simp; omega
              case rel =>
                exact ⟨f, more, rfl, HR.out.len, HR.out.bd, HR.out.above, fun h => by subst h; have := HR.out; rw [off_all] at this; exact this.valid, Nat.le_refl _, HO.out, HF.out⟩
  · have q1 : ((res.length : Int) == (m : Int)) = false := by simp; omega
    have q2 : ((res.length : Int) != (m : Int)) = true := by simp; omega
    have q3 : (res.length == m) = false := by simp; omega
    have q4 : (res.length != m) = true := by simp; omega
    go_wp2_with fail
    go_ret
    exact ⟨[], none, 0, rfl, Sl.nil _ _ _, fun h1 _ => absurd (h1.trans HMM.out) hl, fun _ => rfl, HF1.out⟩
end Acq
