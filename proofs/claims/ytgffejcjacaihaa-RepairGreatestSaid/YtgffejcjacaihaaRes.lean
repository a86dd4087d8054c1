/- acequiaref02.Res, acequialaw05.Left. -/
import Derived.Test.YtgffejcjacaihaaWithin
set_option linter.unusedSimpArgs false
set_option linter.unnecessarySimpa false
set_option linter.unusedVariables false
namespace Acq
open Go Go.RowKit Go.Proofs

theorem resOf_len (xs : List A3) (E : List Ent) (f : List Int) : (resOf xs E f).length = E.length := by simp [resOf]

/-- An arc's two entries have its capacity, together. -/
theorem cap_sum {xs : List A3} {n i j : Nat} {e f : Ent} (hi : (allTo xs n)[i]? = some e) (hj : (allTo xs n)[j]? = some f) (h1 : f.arc = e.arc) (h2 : f.back = !e.back) : e.cap + f.cap = capAt xs e.arc ∧ e.arc < xs.length := by
  obtain ⟨_, a, ha, hm⟩ := mem_allTo.1 (List.mem_of_getElem? hi)
  obtain ⟨_, b, hb, hm'⟩ := mem_allTo.1 (List.mem_of_getElem? hj)
  rw [h1, ha] at hb
  obtain rfl := Option.some.inj hb
  have m1 := (mem_ent.1 hm).2.2.2
  have m2 := (mem_ent.1 hm').2.2.2
  refine ⟨?_, (List.getElem?_eq_some_iff.1 ha).1⟩
  rw [capAt, ha, Option.map_some, Option.getD_some]
  rcases m1 with ⟨b1, _, _, c1⟩ | ⟨b1, _, _, c1⟩ <;> rcases m2 with ⟨b2, _, _, c2⟩ | ⟨b2, _, _, c2⟩ <;> rw [h2, b1] at b2 <;> simp at b2 <;> omega

theorem SlI.all {w : World} {A : Option Addr} {xs : List Int} (h : SlI w A xs) (hn : 0 < xs.length) : ∃ g off, A = some ⟨g, off, none⟩ ∧ ∀ (i : Nat) x, xs[i]? = some x → w.cell? ⟨g, off + i, none⟩ = some (.int .i64 x) := by
  obtain ⟨g, off, h1, h2⟩ := h.2 hn
  exact ⟨g, off, h1, fun i x hx => h2 i _ (ints_get hx)⟩

theorem own_less {w : World} {b b' size n : Nat} {e : TypeId} {v : Value} {xs : List Value} (h : w.ownsRow b e size v n xs) (hb : b' ≤ b) : w.ownsRow b' e size v n xs := by
  refine ⟨h.1, ?_⟩
  rcases h.2 with h1 | ⟨g, cap, cur, h1, h2, h3⟩
  · exact .inl h1
  · exact .inr ⟨g, cap, cur, h1, Nat.le_trans hb h2, h3⟩

def ResOk (G : Net) (f : List Int) (w : World) (e : Ending) (w' : World) : Prop := ∃ A c, e = .returned (.tuple #[.slice A G.E.length c, .int .i64 0]) ∧ w'.ownsRow w.heap.size 2 1 (.slice A G.E.length c) G.E.length (ints (resOf G.ar G.E f)) ∧ Fr [] w w'

theorem capAt_bd {G : Net} (hG : G.Ok) (k : Nat) : 0 ≤ capAt G.ar k ∧ capAt G.ar k < 1125899906842624 := by
  unfold capAt
  cases h : G.ar[k]? with
  | none => simp
  | some a => have := hG.ends a (List.mem_of_getElem? h); simp; omega

theorem E_len {G : Net} (hG : G.Ok) : G.E.length ≤ 1280 :=
  Nat.le_trans (len_allTo G.N) (Nat.le_trans (Nat.mul_le_mul hG.n16 (by have := hG.many; omega : 2 * G.ar.length ≤ 80)) (by decide))

set_option maxRecDepth 100000 in
set_option maxHeartbeats 2000000 in
theorem res_any (G : Net) (hG : G.Ok) (AF AH AR AC AA AB : Option Addr) (cF cH cR cC cA cB : Nat) (f : List Int) (A : Option Addr) (c : Nat) (w : World) (h : CsrV w G AF AH AR AC AA AB) (hf : FlowOk G.ar f) (hA : SlI w A f) :
    Calls Try.prog 21 #[.agg (csrCells G AF AH AR AC AA AB cF cH cR cC cA cB).toArray, .slice A f.length c] w (ResOk G f w) := by
  have hm := E_len hG
  have hfl : f.length ≤ 40 := by have := hf.1; have := hG.many; omega
  obtain ⟨R, hR⟩ : ∃ R, R = resOf G.ar G.E f := ⟨_, rfl⟩
  have hRl : R.length = G.E.length := by rw [hR, resOf_len]
  have HR := Lib.hid hR
  -- what the round at i needs
  have KEY : Hid (∀ i, i < G.E.length → ∃ (k j : Nat) (x c1 c2 cc : Int) (b : Bool), G.arc[i]? = some (k : Int) ∧ G.rev[i]? = some (j : Int) ∧ G.cap[i]? = some c1 ∧ G.cap[j]? = some c2 ∧ G.back[i]? = some b ∧ f[k]? = some x ∧ k < f.length ∧ j < G.E.length ∧ c1 + c2 = cc ∧ 0 ≤ c1 ∧ 0 ≤ c2 ∧ cc < 1125899906842624 ∧ 0 ≤ x ∧ x ≤ cc ∧ R[i]? = some (if b then x else cc - x)) := Lib.hid (by
    intro i hi
    obtain ⟨e, he⟩ : ∃ e, G.E[i]? = some e := ⟨_, List.getElem?_eq_getElem hi⟩
    have hw : ∀ a ∈ G.ar, a.fr < G.N ∧ a.to < G.N := fun a ha => ⟨(hG.ends a ha).1, (hG.ends a ha).2.1⟩
    obtain ⟨j, e', h1, h2, h3, h4, _⟩ := (rev_spec hw _ (Nat.le_refl _)).2 i hi e he
    obtain ⟨hs, hk⟩ := cap_sum he h2 h3 h4
    obtain ⟨a, ha⟩ : ∃ a, G.ar[e.arc]? = some a := ⟨_, List.getElem?_eq_getElem hk⟩
    obtain ⟨x, hx, hx0, hx1⟩ := hf.2 _ _ ha
    have hcap : capAt G.ar e.arc = a.cap := by rw [capAt, ha]; rfl
    have hbd := capAt_bd hG e.arc
    have cap0 : ∀ e ∈ G.E, 0 ≤ e.cap := by
      intro e he
      obtain ⟨_, a, ha, hm⟩ := mem_allTo.1 he
      have := hG.ends a (List.mem_of_getElem? ha)
      rcases (mem_ent.1 hm).2.2.2 with ⟨_, _, _, c1⟩ | ⟨_, _, _, c1⟩ <;> omega
    have c10 := cap0 e (List.mem_of_getElem? he)
    have c20 := cap0 e' (List.mem_of_getElem? h2)
    refine ⟨e.arc, j, x, e.cap, e'.cap, capAt G.ar e.arc, e.back, by simp [Net.arc, he], ?_, by simp [Net.cap, he], ?_, by simp [Net.back, he], hx, (List.getElem?_eq_some_iff.1 hx).1, (List.getElem?_eq_some_iff.1 h2).1, hs, c10, c20, hbd.2, hx0, by omega, ?_⟩
    · rw [Net.rev, natI, List.getElem?_map]
      show Option.map _ ((revTo (allTo G.ar G.N) (allTo G.ar G.N).length)[i]?) = _
      rw [h1]; rfl
    · rw [Net.cap, List.getElem?_map]
      show Option.map _ ((allTo G.ar G.N)[j]?) = _
      rw [h2]; rfl
    · rw [hR, resOf, List.getElem?_map, he, Option.map_some, List.getD_eq_getElem?_getD, hx]; rfl)
  have HV := Lib.hid h
  have HA := Lib.hid hA
  have HRL := Lib.hid hRl
  have HME := E_len hG
  generalize hmm : G.E.length = m at *
  have HB := Lib.hid (Blk.new w [.int .i64 G.N, .int .i64 G.S, .int .i64 G.T, .slice AF (G.N + 1) cF, .slice AH m cH, .slice AR m cR, .slice AC m cC, .slice AA m cA, .slice AB m cB] 29)
  have HMM := Lib.hid hmm
  unfold csrCells
  rw [hmm]
  clear h hA hR hRl hmm hf HME
  go_enter Try.func21, Try.ntmps21
  go_upto_region 1 with (fail)
  obtain ⟨nb, hnb⟩ : ∃ b, b = w.heap.size := ⟨_, rfl⟩
  obtain ⟨w1, hw1⟩ : ∃ W, W = w.alloc (.cells #[.int .i64 G.N, .int .i64 G.S, .int .i64 G.T, .slice AF (G.N + 1) cF, .slice AH m cH, .slice AR m cR, .slice AC m cC, .slice AA m cA, .slice AB m cB] 29) := ⟨_, rfl⟩
  rw [← hw1, ← hnb]
  have HB1 : Hid (Blk w1 nb [.int .i64 G.N, .int .i64 G.S, .int .i64 G.T, .slice AF (G.N + 1) cF, .slice AH m cH, .slice AR m cR, .slice AC m cC, .slice AA m cA, .slice AB m cB] 29) := Lib.hid (by rw [hw1, hnb]; exact HB.out)
  have HF1 : Hid (Fr [] w w1) := Lib.hid (by rw [hw1]; exact (Fr.refl _ _).alloc _)
  have HZ1 : Hid (w.heap.size + 1 = w1.heap.size) := Lib.hid (by rw [hw1, World.size_alloc])
  obtain ⟨il, hl0, hl1, hl2, hl3⟩ := info_parts infoLng
  have HIL := Lib.hid (And.intro hl0 (And.intro hl1 (And.intro hl2 hl3)))
  clear hw1 hnb HB hl0 hl1 hl2 hl3
  go_wp2_with fail
  go_loopw [6, 7, 8, 9] (fun v i _ _ wr => ∃ (k : Nat) (v' : Value), v' = v ∧ i = .int .i64 k ∧ k ≤ m ∧ wr.ownsRow w1.heap.size 2 1 v' k (ints (R.take k)) ∧ Fr [] w1 wr) (fun _ i _ _ _ => m - (intOf i).toNat)
  case atStart => exact ⟨0, _, rfl, rfl, Nat.zero_le _, World.ownsRow_nil _ _ _ _, Fr.refl _ _⟩
  case round =>
    obtain ⟨i, vv, rfl, rfl, hi, ho, hF⟩ := hrel
    have b2 := HB1.out.fr hF (by simp)
    have e4 := b2.cell (o := 4) rfl
    have HO := Lib.hid ho
    have HF := Lib.hid hF
    have HFW := Lib.hid (HF1.out.trans hF)
    have HBW := Lib.hid b2
    clear ho hF b2
    by_cases him : i < m
    · obtain ⟨k, j, x, c1, c2, cc, b, ha, hr, hc1, hc2, hb, hx, hk, hj, hsum, h10, h20, hcc, hx0, hx1, hRi⟩ := KEY.out i him
      have HVr := HV.out.fr0 HFW.out
      obtain ⟨gA, oA, rfl, xA⟩ := HVr.A.at ha
      obtain ⟨gR, oR, rfl, xR⟩ := HVr.R.at hr
      obtain ⟨gB, oB, rfl, xB⟩ := HVr.B.at hb
      obtain ⟨gC, oC, rfl, xC⟩ := HVr.C.all (by have := (List.getElem?_eq_some_iff.1 hc1).1; omega)
      have xC1 := xC i c1 hc1
      have xC2 := xC j c2 hc2
      obtain ⟨gf, of, rfl, xf⟩ := (HA.out.fr0 HFW.out).at hx
      have e5 := HBW.out.cell (o := 5) rfl
      have e6 := HBW.out.cell (o := 6) rfl
      have e7 := HBW.out.cell (o := 7) rfl
      have e8 := HBW.out.cell (o := 8) rfl
      have i0 : (0 : Int) ≤ (i : Int) := by omega
      have i1 : (i : Int) < (m : Int) := by omega
      have j0 : (0 : Int) ≤ (j : Int) := by omega
      have j1 : (j : Int) < (m : Int) := by omega
      have t1 : decide (f.length ≤ k) = false := by simp; omega
      have HRI := Lib.hid hRi
      have HXB := Lib.hid xB
      have HXF := Lib.hid xf
      clear xC xB xf HVr ha hr hc1 hc2 hb hx hRi
      go_upto_region 8 with (fail)
      go_cut [9] (fun s9 wx => s9 = .int .i64 cc ∧ Fr [] wr wx)
      case first =>
        have hw1 : IntKind.i64.wrap (c1 + c2) = cc := by rw [hsum]; exact IntWalk.i64_in _ (by omega)
        have hw2 : wrap64 (c1 + c2) = cc := by rw [hsum]; unfold wrap64; omega
        go_quiet (fail)
        go_wp2_with fail
        go_meet
        exact ⟨rfl, (Fr.refl _ _).drewN _⟩
      case rest =>
        obtain ⟨rfl, hFx⟩ := hcut
        have y8 := hFx.cell (p := ⟨nb, 8, none⟩) e8 (by simp)
        have yB := hFx.cell (p := ⟨gB, oB + i, none⟩) HXB.out (by simp)
        have yf := hFx.cell (p := ⟨gf, of + k, none⟩) HXF.out (by simp)
        have HO2 := Lib.hid (ownsRow_fr HO.out hFx (by simp))
        have HF2 := Lib.hid (HF.out.trans hFx)
        have t2 : ¬ x < 0 := by omega
        have t3 : ¬ cc < x := by omega
        have hln : (ints (R.take i)).length = i := by rw [ints_len, List.length_take, HRL.out]; omega
        have HLN := Lib.hid hln
        have HSZ := Lib.hid HF2.out.size
        clear hFx e4 e5 e6 e7 e8 xA xR xC1 xC2 hsum hln
        have htk : ∀ y, R[i]? = some y → R.take (i + 1) = R.take i ++ [y] := fun y hy => by
          rw [List.take_add_one, hy]; rfl
        have HTK := Lib.hid htk
        clear htk
        cases b
        all_goals
          go_wp2_with (at_builtin; refine wpList_append_lies _ rfl _ _ 25 rfl w1.heap.size 2 il _ 1 8 Try.underlying25 HIL.out.1 HIL.out.2.1 HIL.out.2.2.1 HIL.out.2.2.2 rfl (by decide) vv i _ rfl (HO2.out.alloc _) ⟨wc.heap.size, 0, none⟩ 1 1 [.int .i64 _] rfl rfl (World.news_of_block (heap_alloc_new wc _)) (by simp [Value.oneCell']) (by decide) (by unfold maxLen; omega) (by omega) (by rw [World.size_alloc]; have := HSZ.out; omega) (wc.heap.size + 1) (by simp) ?_; intro gg cap_ w4 hown4 hgr4 hat4 hlt4; have HO4 := Lib.hid hown4; have HG4 := Lib.hid hgr4; clear hown4 hgr4 hat4 hlt4)
          go_roundw
          case rel =>
            refine ⟨i + 1, _, rfl, by go_num, by omega, ?_, ?_⟩
            · rw [HTK.out _ HRI.out, ints_app]
              exact HO4.out
            · have hge := own_ge HO2.out
              exact (((HF2.out.alloc _).more (S' := vv.ownBlock.toList) (by simp)).trans (Fr.of_grown HG4.out (fun k hk => by simpa using hk))).less (fun x hx _ => hge x (by simpa using hx))
          case measure => simp [intOf]; omega
    · have hii : i = m := by omega
      subst hii
      obtain ⟨c2, hc2, hve, hsl⟩ := Sl.of_own HO.out (by decide)
      go_wp2_with fail
      go_ret2
      refine ⟨_, c2, by rw [hve, HMM.out]; rfl, ?_, HFW.out⟩
      have h0 := own_less HO.out (b' := w.heap.size) (by have := HZ1.out; omega)
      rw [List.take_of_length_le (by rw [HRL.out]; exact Nat.le_refl _), HR.out] at h0
      rw [HMM.out, ← hve]
      exact h0

def LeftOk (G : Net) (l : List Int) (w : World) (e : Ending) (w' : World) : Prop := ∃ base f AF AH AR AC AA AB cF cH cR cC cA cB A c, e = .returned (.tuple #[.agg (csrCells G AF AH AR AC AA AB cF cH cR cC cA cB).toArray, .slice A G.E.length c]) ∧
  CsrV w' G AF AH AR AC AA AB ∧ CsrIn w.heap.size base AF AH AR AC AA AB ∧ FlowOk G.ar f ∧ (l = [] → f = List.replicate G.ar.length 0) ∧ w'.ownsRow base 2 1 (.slice A G.E.length c) G.E.length (ints (resOf G.ar G.E f)) ∧ w.heap.size ≤ base ∧ Fr [] w w'

theorem csr_one (G : Net) (AF AH AR AC AA AB : Option Addr) (cF cH cR cC cA cB : Nat) : (csrCells G AF AH AR AC AA AB cF cH cR cC cA cB).all (·.oneCell') = true ∧ (csrCells G AF AH AR AC AA AB cF cH cR cC cA cB).length = 9 := ⟨rfl, rfl⟩

set_option maxRecDepth 100000 in
set_option maxHeartbeats 2000000 in
theorem left_any (G : Net) (hG : G.Ok) (A : Option Addr) (c : Nat) (B : Option Addr) (d : Nat) (l : List Int) (w : World) (h : NetV w G A c) (hB : SlI w B l) (hl : ∀ x ∈ l, -9223372036854775808 ≤ x ∧ x ≤ 9223372036854775807) (hlm : l.length ≤ 9223372036854775807) :
    Calls Try.prog 7 #[.agg (netCells G A c).toArray, .slice B l.length d] w (LeftOk G l w) := by
  have HB := Lib.hid (Blk.new w (netCells G A c) 24)
  have HN := Lib.hid h
  have HL := Lib.hid hB
  have HLL := Lib.hid hl
  clear h hB hl
  unfold netCells at *
  go_enter Try.func7, Try.ntmps7
  go_wp2_with (refine wl_load rfl rfl rfl _ (HB.out.alloc _) Try.underlying24 rfl (by kernel_rfl) ?_)
  refine (make_any G hG A c _ ⟨Sl.fr0 HN.out.arcs (((Fr.refl [] w).alloc _).alloc _), HN.out.cap⟩).mono ?_
  rintro e w1 ⟨AF, AH, AR, AC, AA, AB, cF, cH, cR, cC, cA, cB, rfl, hV, hI, hF⟩
  have HRS : Hid (∀ (W : World) (f : List Int) (g n : Nat), Fr [] w1 W → FlowOk G.ar f → n = f.length → SlI W (some ⟨g, 0, none⟩) f → Calls Try.prog 21 #[.agg (csrCells G AF AH AR AC AA AB cF cH cR cC cA cB).toArray, .slice (some ⟨g, 0, none⟩) n n] W (ResOk G f W)) := Lib.hid fun W f g n hW hf hn hA => by
    subst hn
    exact res_any G hG AF AH AR AC AA AB cF cH cR cC cA cB f _ _ W (hV.fr0 hW) hf hA
  have HWI : Hid (∀ W, Fr [] w W → Calls Try.prog 22 #[.agg #[.int .i64 G.N, .int .i64 G.S, .int .i64 G.T, .slice A G.ar.length c], .slice B l.length d] W (Withins G.ar l W)) := Lib.hid fun W hW =>
    within_core G.N G.S G.T A B c d G.ar l W (Sl.fr0 HN.out.arcs hW) hG.many hG.ends (HL.out.fr0 hW) HLL.out hlm
  obtain ⟨H1, H2⟩ := csr_one G AF AH AR AC AA AB cF cH cR cC cA cB
  have HV := Lib.hid hV
  have HI := Lib.hid hI
  have HZ1 : Hid (w.heap.size + 2 ≤ w1.heap.size) := Lib.hid (by have := hF.size; simpa using this)
  have b1 := (HB.out.alloc (.cells #[.int .i64 0, .int .i64 0, .int .i64 0, .slice none 0 0, .slice none 0 0, .slice none 0 0, .slice none 0 0, .slice none 0 0, .slice none 0 0] 29)).fr hF (by simp)
  have r1 := (Blk.new_at (w := w.alloc (.cells #[.int .i64 G.N, .int .i64 G.S, .int .i64 G.T, .slice A G.ar.length c] 24)) (b := w.heap.size + 1) [.int .i64 0, .int .i64 0, .int .i64 0, .slice none 0 0, .slice none 0 0, .slice none 0 0, .slice none 0 0, .slice none 0 0, .slice none 0 0] 29 (by simp)).fr hF (by simp)
  have HF1 : Hid (Fr [] w w1) := Lib.hid ((((Fr.refl [] w).alloc _).alloc _).trans hF)
  obtain ⟨cs, hcs⟩ : ∃ cs, cs = csrCells G AF AH AR AC AA AB cF cH cR cC cA cB := ⟨_, rfl⟩
  have HCS := Lib.hid hcs
  rw [← hcs] at H1 H2 HRS
  rw [← hcs]
  have H1' := Lib.hid H1
  have H2' := Lib.hid H2
  have HB1 := Lib.hid (b1.alloc (.cells cs.toArray 29))
  have HR1 := Lib.hid (r1.alloc (.cells cs.toArray 29))
  have HC1 := Lib.hid (Blk.new w1 cs 29)
  clear hV hI hF b1 r1 hcs HB H1 H2
  go_upto_region 2 with (refine wl_store_new rfl rfl cs (by simp) rfl rfl (by rw [H2'.out]; kernel_rfl) (by rw [H2'.out]; rfl) H1'.out ?_)
  obtain ⟨w2, hw2⟩ : ∃ W, W = w1.alloc (.cells cs.toArray 29) := ⟨_, rfl⟩
  obtain ⟨cb, hcb⟩ : ∃ b, b = w1.heap.size := ⟨_, rfl⟩
  have HF2 : Hid (Fr [] w1 w2) := Lib.hid (by rw [hw2]; exact (Fr.refl _ _).alloc _)
  rw [← hw2, ← hcb]
  rw [← hw2] at HB1 HR1 HC1
  rw [← hcb] at HC1
  have hcb2 : w.heap.size + 2 ≤ cb := by have := HZ1.out; omega
  clear hw2
  refine wr_begin [4] (fun W => Blk W cb cs 29 ∧ Blk W w.heap.size [.int .i64 G.N, .int .i64 G.S, .int .i64 G.T, .slice A G.ar.length c] 24) (by kernel_rfl) (by exact ⟨HC1.out.drew, HB1.out.drew⟩) ?_
  refine wr_read 0 _ rfl (by kernel_rfl) (by kernel_rfl) (by kernel_rfl) (fun _ _ _ h => h) (by kernel_rfl) (by kernel_rfl) (by rfl) (fun _ hF => exec_load_row rfl rfl hF.1 Try.underlying29 rfl (by rw [H2'.out]; kernel_rfl)) ?_
  try simp only [Act.put, List.setIfInBounds_toArray, List.set_cons_zero, List.set_cons_succ]
  refine wr_read 1 _ rfl (by kernel_rfl) (by kernel_rfl) (by kernel_rfl) (fun _ _ _ h => h) (by kernel_rfl) (by kernel_rfl) (by rfl) (fun _ hF => exec_load_row rfl rfl hF.2 Try.underlying24 rfl (by kernel_rfl)) ?_
  try simp only [Act.put, List.setIfInBounds_toArray, List.set_cons_zero, List.set_cons_succ]
  refine wr_pure 2 _ rfl (by kernel_rfl) (by kernel_rfl) (by kernel_rfl) (fun _ _ _ h => h) (by kernel_rfl) (by rfl) (fun _ => by go_simp; try with_reducible rfl) ?_
  try simp only [Act.put, List.setIfInBounds_toArray, List.set_cons_zero, List.set_cons_succ]
  refine wr_do 3 rfl (by kernel_rfl) (by rfl) (fun K hK => ?_)
  refine wp_call (f := 22) (args := #[.agg #[.int .i64 G.N, .int .i64 G.S, .int .i64 G.T, .slice A G.ar.length c], .slice B l.length d]) (by kernel_rfl) (HWI.out _ (HF1.out.trans HF2.out.drew)) ?_
  rintro e w3 ⟨g, f, rfl, hfo, hfz, hfs, hF3⟩
  have HFO := Lib.hid hfo
  have HFZ := Lib.hid hfz
  have HFS := Lib.hid hfs
  have HF3 := Lib.hid (HF2.out.drew.trans hF3)
  have HF3b : Hid (Fr [] w2 w3) := Lib.hid ((Fr.drew (Fr.refl [] w2)).trans hF3)
  clear hfo hfz hfs hF3
  refine ⟨_, rfl, hK _ _ ⟨fun _ => ⟨HC1.out.fr HF3b.out (by simp), HB1.out.fr HF3b.out (by simp)⟩, ?_⟩⟩
  try simp only [Act.put, List.setIfInBounds_toArray, List.set_cons_zero, List.set_cons_succ]
  refine wr_do 4 rfl (by kernel_rfl) (by rfl) (fun K hK => ?_)
  refine wp_call (f := 21) (args := #[.agg cs.toArray, .slice (some ⟨g, 0, none⟩) G.ar.length G.ar.length]) (by kernel_rfl) (HRS.out _ f g _ HF3.out HFO.out HFO.out.1.symm HFS.out) ?_
  rintro e w4 ⟨A4, c4, rfl, hown, hF4⟩
  have HO4 := Lib.hid hown
  have HF4 := Lib.hid (HF3.out.trans hF4)
  have HF4b := Lib.hid (HF3b.out.trans hF4)
  clear hown hF4
  refine ⟨_, rfl, hK _ _ ⟨Still.off 4 (by kernel_rfl) (by kernel_rfl), ?_⟩⟩
  try simp only [Act.put, List.setIfInBounds_toArray, List.set_cons_zero, List.set_cons_succ]
  refine wr_pure 5 _ rfl (by kernel_rfl) (by kernel_rfl) (by kernel_rfl) (fun _ _ _ h => h) (by kernel_rfl) (by rfl) (fun _ => by go_simp; try with_reducible rfl) ?_
  try simp only [Act.put, List.setIfInBounds_toArray, List.set_cons_zero, List.set_cons_succ]
  refine wr_pure 6 _ rfl (by kernel_rfl) (by kernel_rfl) (by kernel_rfl) (fun _ _ _ h => h) (by kernel_rfl) (by rfl) (fun _ => by go_simp; try with_reducible rfl) ?_
  try simp only [Act.put, List.setIfInBounds_toArray, List.set_cons_zero, List.set_cons_succ]
  refine wr_pure 7 _ rfl (by kernel_rfl) (by kernel_rfl) (by kernel_rfl) (fun _ _ _ h => h) (by kernel_rfl) (by rfl) (fun _ => by go_simp; try with_reducible rfl) ?_
  try simp only [Act.put, List.setIfInBounds_toArray, List.set_cons_zero, List.set_cons_succ]
  refine wr_pure 8 _ rfl (by kernel_rfl) (by kernel_rfl) (by kernel_rfl) (fun _ _ _ h => h) (by kernel_rfl) (by rfl) (fun _ => by go_simp; try with_reducible rfl) ?_
  try simp only [Act.put, List.setIfInBounds_toArray, List.set_cons_zero, List.set_cons_succ]
  refine wr_pure 9 _ rfl (by kernel_rfl) (by kernel_rfl) (by kernel_rfl) (fun _ _ _ h => h) (by kernel_rfl) (by rfl) (fun _ => by go_simp; try with_reducible rfl) ?_
  try simp only [Act.put, List.setIfInBounds_toArray, List.set_cons_zero, List.set_cons_succ]
  refine wr_done (by kernel_rfl) ?_ _
  have HC4 := Lib.hid (HC1.out.fr HF4b.out (by simp))
  have HR4 := Lib.hid (HR1.out.fr HF4b.out (by simp))
  go_wp2_with (first | (refine wl_load rfl rfl rfl cs HC4.out Try.underlying29 rfl (by rw [H2'.out]; kernel_rfl) ?_) | (refine wl_store rfl rfl cs rfl rfl HR4.out (by rw [H2'.out]; kernel_rfl) (by rw [H2'.out]; rfl) H1'.out ?_))
  refine ret_ct rfl rfl (HR4.out.row cs) Try.underlying29 rfl (by rw [H2'.out]; kernel_rfl) rfl ?_
  have hset : Fr [w.heap.size + 1] w4 (w4.setRow (w.heap.size + 1) cs.toArray) := (Fr.refl _ _).setRow (.inl (by simp)) _
  refine ⟨w1.heap.size, f, AF, AH, AR, AC, AA, AB, cF, cH, cR, cC, cA, cB, A4, c4, by rw [← HCS.out]; rfl, ?_, ?_, HFO.out, HFZ.out, ?_, ?_, ?_⟩
  · exact (HV.out.fr0 HF4.out).fr hset HI.out (by simp)
  · exact HI.out.wide (by simp; omega) (Nat.le_refl _)
  · have := HF3.out.size
    refine ownsRow_fr (own_less HO4.out this) hset (fun g hg => ?_)
    have := own_ge (own_less HO4.out this) g hg
    have := HZ1.out
    simp
    omega
  · have := HZ1.out; omega
  · exact (((HF1.out.trans HF4.out).more (S' := [w.heap.size + 1]) (by simp)).trans hset).less (by simp)
end Acq
