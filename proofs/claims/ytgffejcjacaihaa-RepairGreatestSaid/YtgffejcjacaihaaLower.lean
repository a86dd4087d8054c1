/- repair.Lower. -/
import Derived.Test.YtgffejcjacaihaaLow2
import Derived.Test.YtgffejcjacaihaaHeights
import Derived.Test.YtgffejcjacaihaaHeapOps
import Derived.Deep.LoopGhost
set_option linter.unusedSimpArgs false
set_option linter.unnecessarySimpa false
set_option linter.unusedVariables false
namespace Acq
open Go Go.RowKit Go.Proofs Acq.Low

theorem csrlen_any (r0 r1 r2 r3 r5 r6 r7 r8 : Value) (A : Option Addr) (m c : Nat) (w : World) :
    Calls Try.prog 24 #[.agg #[r0, r1, r2, r3, .slice A m c, r5, r6, r7, r8]] w fun e w' => e = .returned (.int .i64 m) ∧ Fr [] w w' := by
  go_enter Try.func24, Try.ntmps24
  go_wp2_with fail
  go_ret
  exact ⟨rfl, (Fr.refl _ _).alloc _⟩

def LowerOk (G : Net) (res h : List Int) (w : World) (e : Ending) (w' : World) : Prop := ∃ out A c, e = .returned (.slice A (out : List Int).length c) ∧ SlI w' A out ∧
  (res.length = G.E.length → Hts G h → out.length = G.N ∧ (∀ x ∈ out, 0 ≤ x ∧ x ≤ (G.N : Int)) ∧ Best (Open G res) (fn h) (fn out)) ∧ (¬ (res.length = G.E.length ∧ Hts G h) → out = []) ∧ Fr [] w w'

/-- What is handed back lies in no block that was there before. -/
def LowerFresh (G : Net) (res h : List Int) (w : World) (e : Ending) (w' : World) : Prop := ∃ out A c, e = .returned (.slice A (out : List Int).length c) ∧ SlI w' A out ∧
  (res.length = G.E.length → Hts G h → out.length = G.N ∧ (∀ x ∈ out, 0 ≤ x ∧ x ≤ (G.N : Int)) ∧ Best (Open G res) (fn h) (fn out)) ∧ (¬ (res.length = G.E.length ∧ Hts G h) → out = []) ∧ (∀ g off sp, A = some ⟨g, off, sp⟩ → w.heap.size ≤ g) ∧ Fr [] w w'

theorem fr_step2 {w2 wX w5 : World} {cb base : Nat} {v : Value} {S : List Nat} (h : Fr S w2 wX) (hcb : cb ∈ S) (hb : base = w2.heap.size) (hv : ∀ g, v.ownBlock = some g → base ≤ g) (k : Fr (cb :: v.ownBlock.toList) wX w5) : Fr S w2 w5 :=
  ((h.more (S' := v.ownBlock.toList ++ S) (fun x hx => List.mem_append_right _ hx)).trans (k.more (fun x hx => by
    rcases List.mem_cons.1 hx with h1 | h1
    · exact List.mem_append_right _ (h1 ▸ hcb)
    · exact List.mem_append_left _ h1))).less fun x hx hn => by
    rcases List.mem_append.1 hx with h1 | h1
    · rw [← hb]; exact hv x (by simpa using h1)
    · exact absurd h1 hn

theorem own_keep {wX w5 : World} {b0 g d n qb base : Nat} {e : TypeId} {v : Value} {xs : List Value} (h : wX.ownsRow b0 e 1 (.slice (some ⟨g, 0, none⟩) n d) n xs) (hq : g ≠ qb) (hg : g < base) (hv : ∀ g, v.ownBlock = some g → base ≤ g) (k : Fr (qb :: v.ownBlock.toList) wX w5) : w5.ownsRow b0 e 1 (.slice (some ⟨g, 0, none⟩) n d) n xs :=
  ownsRow_fr h k fun q hq' hm => by
    simp [Value.ownBlock] at hq'
    subst hq'
    rcases List.mem_cons.1 hm with h1 | h1
    · exact hq h1
    · have := hv g (by simpa using h1); omega

theorem hpush_lit {w : World} {base qb : Nat} {Q : List Spot} {v : Value} (h : Qu w base qb Q v) (x : Int) (j : Nat) (hm : Q.length ≤ 100000) (hb : base ≤ w.heap.size) :
    Calls Try.prog 27 #[.iface 57 (.pointer (some ⟨qb, 0, none⟩)), .iface 64 (.agg #[.int .i64 x, .int .i64 j])] w fun e w' => e = .returned (.tuple #[]) ∧ ∃ v' Q', Qu w' base qb Q' v' ∧ Q'.length = Q.length + 1 ∧ (∀ y, y ∈ Q' ↔ y = (x, j) ∨ y ∈ Q) ∧ Near v v' w ∧ Fr (qb :: v.ownBlock.toList) w w' :=
  hpush_any h (x, j) hm hb

theorem hpop_lit {w : World} {base qb : Nat} {Q : List Spot} {v : Value} (h : Qu w base qb Q v) (hn : 0 < Q.length) (hm : Q.length ≤ 100000) (hb : base ≤ w.heap.size) :
    Calls Try.prog 29 #[.iface 57 (.pointer (some ⟨qb, 0, none⟩))] w fun e w' => ∃ (k0 : Int) (x : Nat), e = .returned (.iface 64 (.agg #[.int .i64 k0, .int .i64 x])) ∧ ∃ v' Q', Qu w' base qb Q' v' ∧ Q'.length + 1 = Q.length ∧ (∀ y, y ∈ Q ↔ y = (k0, x) ∨ y ∈ Q') ∧ v'.ownBlock = v.ownBlock ∧ Fr (qb :: v.ownBlock.toList) w w' :=
  (hpop_any h hn hm hb).mono fun _ _ ⟨p, he, r⟩ => ⟨p.1, p.2, he, r⟩

set_option maxRecDepth 100000 in
set_option maxHeartbeats 4000000 in
theorem lower_fresh (G : Net) (hG : G.Ok) (AF AH AR AC AA AB : Option Addr) (cF cH cR cC cA cB : Nat) (res h : List Int) (A B : Option Addr) (c d : Nat) (w : World) (hV : CsrV w G AF AH AR AC AA AB) (hA : SlI w A res) (hB : SlI w B h)
    (hrl : res.length ≤ 9223372036854775807) (hhl : h.length ≤ 9223372036854775807) :
    Calls Try.prog 11 #[.agg (csrCells G AF AH AR AC AA AB cF cH cR cC cA cB).toArray, .slice A res.length c, .slice B h.length d] w (LowerFresh G res h w) := by
  have hm1 := E_len hG
  have HV := Lib.hid hV
  have HA := Lib.hid hA
  have HH := Lib.hid hB
  have HRT : Hid (∀ W, Fr [] w W → Calls Try.prog 25 #[.agg (csrCells G AF AH AR AC AA AB cF cH cR cC cA cB).toArray, .slice B h.length d] W (RightOk G.N G.S G.T h W)) := Lib.hid fun W hW => right_any G hG AF AH AR AC AA AB cF cH cR cC cA cB B d h W (hB.fr0 hW) hhl
  clear hV hA hB
  unfold csrCells at *
  generalize hmm : G.E.length = m at *
  have HB := Lib.hid (Blk.new w [.int .i64 G.N, .int .i64 G.S, .int .i64 G.T, .slice AF (G.N + 1) cF, .slice AH m cH, .slice AR m cR, .slice AC m cC, .slice AA m cA, .slice AB m cB] 29)
  have HMM := Lib.hid hmm
  clear hmm
  go_enter Try.func11, Try.ntmps11
  go_upto_region 1 with (fail)
  obtain ⟨nb, hnb⟩ : ∃ b, b = w.heap.size := ⟨_, rfl⟩
  obtain ⟨w1, hw1⟩ : ∃ W, W = w.alloc (.cells #[.int .i64 G.N, .int .i64 G.S, .int .i64 G.T, .slice AF (G.N + 1) cF, .slice AH m cH, .slice AR m cR, .slice AC m cC, .slice AA m cA, .slice AB m cB] 29) := ⟨_, rfl⟩
  rw [← hw1, ← hnb]
  have HB1 : Hid (Blk w1 nb [.int .i64 G.N, .int .i64 G.S, .int .i64 G.T, .slice AF (G.N + 1) cF, .slice AH m cH, .slice AR m cR, .slice AC m cC, .slice AA m cA, .slice AB m cB] 29) := Lib.hid (by rw [hw1, hnb]; exact HB.out)
  have HF1 : Hid (Fr [] w w1) := Lib.hid (by rw [hw1]; exact (Fr.refl _ _).alloc _)
  have HNB : Hid (nb = w.heap.size ∧ w1.heap.size = w.heap.size + 1) := Lib.hid ⟨hnb, by rw [hw1]; simp⟩
  clear hw1 hnb HB
  by_cases hl : res.length = m
  · go_wp2_with (refine wl_load rfl rfl rfl _ HB1.out Try.underlying29 rfl (by kernel_rfl) ?_)
    refine (csrlen_any _ _ _ _ _ _ _ _ _ m _ _).mono ?_
    rintro e w2 ⟨rfl, hF2⟩
    have b2 := HB1.out.fr hF2 (by simp)
    have d0 := b2.cell (o := 0) rfl
    have d1 := b2.cell (o := 1) rfl
    have d2 := b2.cell (o := 2) rfl
    have d3 := b2.cell (o := 3) rfl
    have d4 := b2.cell (o := 4) rfl
    have d5 := b2.cell (o := 5) rfl
    have d6 := b2.cell (o := 6) rfl
    have d7 := b2.cell (o := 7) rfl
    have d8 := b2.cell (o := 8) rfl
    have HB2 := Lib.hid b2
    have HF2 := Lib.hid (HF1.out.trans hF2)
    have HL := Lib.hid hl
    clear b2 hF2 HB1
    have q1 : ((res.length : Int) != (m : Int)) = false := by simp [hl]
    have q2 : (res.length != m) = false := by simp [hl]
    have q3 : ((res.length : Int) == (m : Int)) = true := by simp [hl]
    have q4 : (res.length == m) = true := by simp [hl]
    clear hl
    go_wp2_with fail
    refine (HRT.out _ HF2.out).mono ?_
    rintro e w3 ⟨b, rfl, hb, hF3⟩
    have HBB := Lib.hid hb
    have HF3 := Lib.hid (HF2.out.trans hF3)
    have HB3 := Lib.hid (HB2.out.fr hF3 (by simp))
    clear hb hF3 d0 d1 d2 d3 d4 d5 d6 d7 d8 q1 q2 q3 q4 HB2
    cases b
    · go_wp2_with fail
      go_ret
      refine ⟨[], none, 0, rfl, Sl.nil _ _ _, fun _ hh => ?_, fun _ => rfl, fun _ _ _ h => by simp at h, HF3.out⟩
      have := HBB.out.2 hh
      simp at this
    · have hH : Hid (Hts G h) := Lib.hid (HBB.out.1 rfl)
      clear HBB
      have HCL : Hid (∀ W, Fr [] w W → Calls Try.prog 26 #[.slice B h.length d] W fun e w' => ∃ g d', e = .returned (.slice (some ⟨g, 0, none⟩) G.N d') ∧ w'.ownsRow W.heap.size 3 1 (.slice (some ⟨g, 0, none⟩) G.N d') G.N (ints h) ∧ Fr [] W w') := Lib.hid fun W hW => by
        have h1 := clone_any B d h W (HH.out.fr0 hW) (by rw [hH.out.1]; have := hG.n2; omega) (by rw [hH.out.1]; have := hG.n16; omega)
        rw [hH.out.1] at h1 ⊢
        exact h1
      go_wp2_with fail
      refine (HCL.out _ HF3.out).mono ?_
      rintro e w4 ⟨g, d', rfl, hO, hF4⟩
      have HO4 := Lib.hid hO
      have HF4 := Lib.hid (HF3.out.trans hF4)
      have HB4 := Lib.hid (HB3.out.fr hF4 (by simp))
      have HLT3 := Lib.hid HB3.out.lt
      have HG4 : Hid (w3.heap.size ≤ g ∧ g < w4.heap.size) := Lib.hid (hO.lt g rfl)
      have HS3 := Lib.hid HF3.out.size
      have HS4 := Lib.hid hF4.size
      clear hO hF4 HCL HB3
      go_upto_region 5 with (fail)
      obtain ⟨qb, hqb⟩ : ∃ b, b = w4.heap.size := ⟨_, rfl⟩
      obtain ⟨w5, hw5⟩ : ∃ W, W = w4.alloc (.cells #[.slice none 0 0] 61) := ⟨_, rfl⟩
      obtain ⟨base, hbase⟩ : ∃ b, b = w5.heap.size := ⟨_, rfl⟩
      rw [← hw5, ← hqb]
      have HQ0 : Hid (Qu w5 base qb [] (.slice none 0 0)) := Lib.hid ⟨by rw [hw5]; exact Blk.new_at _ _ hqb, World.ownsRow_nil _ _ _ _, fun g hg => by simp [Value.ownBlock] at hg⟩
      have HO5 : Hid (w5.ownsRow w3.heap.size 3 1 (.slice (some ⟨g, 0, none⟩) G.N d') G.N (ints h)) := Lib.hid (by rw [hw5]; exact HO4.out.alloc _)
      have HB5 : Hid (Blk w5 nb [.int .i64 G.N, .int .i64 G.S, .int .i64 G.T, .slice AF (G.N + 1) cF, .slice AH m cH, .slice AR m cR, .slice AC m cC, .slice AA m cA, .slice AB m cB] 29) := Lib.hid (by rw [hw5]; exact HB4.out.alloc _)
      have HF5 : Hid (Fr [] w w5) := Lib.hid (by rw [hw5]; exact HF4.out.alloc _)
      have HLY : Hid (nb = w.heap.size ∧ nb < g ∧ g < qb ∧ qb < base ∧ base = w5.heap.size) := Lib.hid (by
        have h1 := HNB.out; have h2 := HG4.out; have h3 := HS3.out; have h4 := HS4.out
        have h6 := HLT3.out
        have h5 : base = w4.heap.size + 1 := by rw [hbase, hw5, World.size_alloc]
        exact ⟨h1.1, by omega, by omega, by omega, hbase⟩)
      clear hw5 hqb hbase HO4 HB4 HF4 HS3 HS4 HG4
      go_wp2_with fail
      go_loopw [9, 10, 31] (fun _ _ i wr => ∃ (k : Nat) (Q : List Spot) (v : Value), i = .int .i64 k ∧ k ≤ G.N ∧ Qu wr base qb Q v ∧ Q.length = k ∧ (∀ p, p ∈ Q ↔ ∃ y j, j < k ∧ h[j]? = some y ∧ p = (y, j)) ∧ Fr [qb] w5 wr) (fun _ _ i _ => G.N - (intOf i).toNat)
      case atStart => exact ⟨0, [], _, rfl, Nat.zero_le _, HQ0.out, rfl, fun p => by simp, Fr.refl _ _⟩
      case round =>
        obtain ⟨k, Q, v, rfl, hk, hQ, hQl, hmem, hF⟩ := hrel
        have hO := ownsRow_fr HO5.out hF (fun q hq => by simp [Value.ownBlock] at hq; have := HLY.out; simp; omega)
        have HQ := Lib.hid hQ
        have HQL := Lib.hid hQl
        have HME := Lib.hid hmem
        have HF := Lib.hid hF
        have HZ := Lib.hid hF.size
        have hN16 := hG.n16
        clear hQ hQl hmem hF HQ0
        by_cases hkN : k < G.N
        · obtain ⟨x, hx⟩ : ∃ x, h[k]? = some x := ⟨_, List.getElem?_eq_getElem (by rw [hH.out.1]; exact hkN)⟩
          have x1 := hO.cellAt k (by omega)
          rw [ints_get hx] at x1
          have HX := Lib.hid hx
          have k0 : (0 : Int) ≤ (k : Int) := by omega
          have k1 : (k : Int) < (G.N : Int) := by omega
          clear hx hO
          go_wp2_with fail
          refine (hpush_lit HQ.out x k (by rw [HQL.out]; omega) (by have := HZ.out; have := HLY.out; omega)).mono ?_
          rintro e w6 ⟨rfl, v', Q', hQ', hl', hm', hn', hF6⟩
          have HQ' := Lib.hid hQ'
          have HL' := Lib.hid hl'
          have HM' := Lib.hid hm'
          have HF6 : Hid (Fr [qb] w5 w6) := Lib.hid (fr_step HF.out (HLY.out.2.2.2.2) (own_ge HQ.out.own) hF6)
          clear hQ' hl' hm' hn' hF6
          go_wp2_with fail
          go_roundw
          case rel =>
            refine ⟨k + 1, Q', v', by go_num, by omega, HQ'.out, by rw [HL'.out, HQL.out], fun p => ?_, HF6.out⟩
            rw [HM'.out, HME.out]
            constructor
            · rintro (h1 | ⟨y, j, h1, h2, h3⟩)
              · exact ⟨x, k, by omega, HX.out, h1⟩
              · exact ⟨y, j, by omega, h2, h3⟩
            · rintro ⟨y, j, h1, h2, h3⟩
              by_cases hj : j = k
              · subst hj
                rw [HX.out] at h2
                obtain rfl := Option.some.inj h2
                exact .inl h3
              · exact .inr ⟨y, j, by omega, h2, h3⟩
          case measure => simp [intOf]; omega
        · have hkk : k = G.N := by omega
          subst hkk
          have HO := Lib.hid hO
          have hW : Hid (Work (Open G res) (fn h) (fn h) Q) := Lib.hid (Work.start (fun k v hm => by
            obtain ⟨y, j, h1, h2, h3⟩ := (HME.out (k, v)).1 hm
            simp only [Prod.mk.injEq] at h3
            rw [h3.2, fn_get h2, h3.1]) (fun u v hE => (HME.out _).2 (by
            have hvN : v < G.N := by
              obtain ⟨_, a, e, he, _, h2, _⟩ := hE
              obtain ⟨_, ar, ha, hm⟩ := mem_allTo.1 (List.mem_of_getElem? he)
              have := hG.ends ar (List.mem_of_getElem? ha)
              rcases (mem_ent.1 hm).2.2.2 with ⟨_, _, h3, _⟩ | ⟨_, _, h3, _⟩ <;> omega
            obtain ⟨y, hy⟩ : ∃ y, h[v]? = some y := ⟨_, List.getElem?_eq_getElem (by rw [hH.out.1]; exact hvN)⟩
            exact ⟨y, v, hvN, hy, by rw [fn_get hy]⟩)))
          have HQB : Hid (∀ p ∈ Q, p.2 < G.N ∧ 0 ≤ p.1 ∧ p.1 ≤ (G.N : Int)) := Lib.hid (fun p hp => by
            obtain ⟨y, j, h1, h2, h3⟩ := (HME.out p).1 hp
            subst h3
            exact ⟨h1, hH.out.2.1 y (List.mem_of_getElem? h2)⟩)
          have HS0 : Hid (2 * sumN h + Q.length ≤ 600) := Lib.hid (by
            have h1 := sumN_le (N := G.N) (f := h) (fun x hx => (hH.out.2.1 x hx).2)
            have h2 : h.length * G.N ≤ 16 * 16 := Nat.mul_le_mul (by rw [hH.out.1]; exact hN16) hN16
            rw [HQL.out]; omega)
          clear hO HME HQL
          obtain ⟨wo, rfl⟩ : ∃ wo : World, wo = wr := ⟨_, rfl⟩
          go_wp2_with fail
          go_loopg [11, 12, 13] (2 * sumN h + Q.length) (fun n _ _ _ wr => ∃ (f : List Int) (Q : List Spot) (v : Value), f.length = G.N ∧ (∀ x ∈ f, 0 ≤ x ∧ x ≤ (G.N : Int)) ∧ Work (Open G res) (fn h) (fn f) Q ∧ (∀ p ∈ Q, p.2 < G.N ∧ 0 ≤ p.1 ∧ p.1 ≤ (G.N : Int)) ∧ 2 * sumN f + Q.length ≤ n ∧ n ≤ 600 ∧ Qu wr base qb Q v ∧ wr.ownsRow w3.heap.size 3 1 (.slice (some ⟨g, 0, none⟩) G.N d') G.N (ints f) ∧ Fr [qb, g] w5 wr)
          case atStart => exact ⟨h, Q, v, hH.out.1, hH.out.2.1, hW.out, HQB.out, Nat.le_refl _, HS0.out, HQ.out, HO.out, HF.out.more (by simp)⟩
          case round =>
            clear hW HQB HQ HO HF HZ HS0
            obtain ⟨f, Q, v, hfl, hfb, hwk, hQb, hms, hgk, hQ, hO, hF⟩ := hrel
            obtain ⟨vA, vc, hv⟩ := ownsRow_slice hQ.own
            subst hv
            have qc := hQ.blk.cell (o := 0) rfl
            have HFL := Lib.hid hfl
            have HFB := Lib.hid hfb
            have HWK := Lib.hid hwk
            have HQB := Lib.hid hQb
            have HQ := Lib.hid hQ
            have HO := Lib.hid hO
            have HF := Lib.hid hF
            have HZ := Lib.hid hF.size
            clear hfl hfb hwk hQb hQ hO hF
            by_cases hq : 0 < Q.length
            · have t1 : decide (0 < (Q.length : Int)) = true := by simp; omega
              have t2 : decide (0 < Q.length) = true := by simp; omega
              have hhp := hpop_lit HQ.out hq (by omega) (by have := HZ.out; have := HLY.out; omega)
              have HHP := Lib.hid hhp
              clear hhp
              go_wp2_with fail
              refine (len_row _ _ _ _).mono ?_
              rintro e w6 ⟨rfl, rfl⟩
              go_wp2_with fail
              refine HHP.out.mono ?_
              rintro e w7 ⟨k0, x, rfl, v', Q', hQ', hl', hm', ho', hF7⟩
              have HGE := Lib.hid (own_ge HQ.out.own)
              have hlay := HLY.out
              have HO7 := Lib.hid (own_keep HO.out (by omega) (by omega) HGE.out hF7)
              have HF7 := Lib.hid (fr_step2 HF.out (by simp) hlay.2.2.2.2 HGE.out hF7)
              have HVL : Hid (∀ q, v'.ownBlock = some q → q < w7.heap.size) := Lib.hid fun q hq => (hQ'.own.lt q hq).2
              have HQ' := Lib.hid hQ'
              have HM' := Lib.hid hm'
              have hx := HQB.out (k0, x) ((hm' _).2 (.inl rfl))
              simp only at hx
              obtain ⟨hxN, hk00, hk0N⟩ := hx
              have HQB' : Hid (∀ p ∈ Q', p.2 < G.N ∧ 0 ≤ p.1 ∧ p.1 ≤ (G.N : Int)) := Lib.hid fun p hp => HQB.out p ((hm' p).2 (.inr hp))
              have HWK' : Hid (Work (Open G res) (fn h) (fn f) ((k0, x) :: Q')) := Lib.hid (HWK.out.perm fun p => by rw [hm', List.mem_cons])
              have HMS : Hid (2 * sumN f + Q'.length + 1 ≤ gk) := Lib.hid (by omega)
              have HB8 := Lib.hid ((HB5.out.fr HF7.out (by simp; omega)).alloc (.cells #[.int .i64 k0, .int .i64 x] 64))
              have HS8 := Lib.hid (Blk.new w7 [.int .i64 k0, .int .i64 x] 64)
              clear hF7 hQ' hm' HHP HQ HO HF HWK HQB HGE ho' hl' hlay t1 t2 qc
              have hta : ∀ W : World, (Instr.typeAssert (.iface 64 (.agg #[.int .i64 k0, .int .i64 x])) 20 64 false).run Try.prog W = .ok (.agg #[.int .i64 k0, .int .i64 x]) W := fun W => by kernel_rfl
              go_upto_region 12 with (fail)
              clear hta
              obtain ⟨sb, hsb⟩ : ∃ b, b = w7.heap.size := ⟨_, rfl⟩
              obtain ⟨w8, hw8⟩ : ∃ W, W = w7.alloc (.cells #[.int .i64 k0, .int .i64 x] 64) := ⟨_, rfl⟩
              rw [← hw8, ← hsb]
              have HB9 : Hid (Blk w8 nb [.int .i64 G.N, .int .i64 G.S, .int .i64 G.T, .slice AF (G.N + 1) cF, .slice AH m cH, .slice AR m cR, .slice AC m cC, .slice AA m cA, .slice AB m cB] 29) := Lib.hid (by rw [hw8]; exact HB8.out)
              have HS9 : Hid (Blk w8 sb [.int .i64 k0, .int .i64 x] 64) := Lib.hid (by rw [hw8, hsb]; exact HS8.out)
              have HQ9 : Hid (Qu w8 base qb Q' v') := Lib.hid ⟨by rw [hw8]; exact HQ'.out.blk.alloc _, by rw [hw8]; exact HQ'.out.own.alloc _, HQ'.out.ne⟩
              have HO9 : Hid (w8.ownsRow w3.heap.size 3 1 (.slice (some ⟨g, 0, none⟩) G.N d') G.N (ints f)) := Lib.hid (by rw [hw8]; exact HO7.out.alloc _)
              have HF9 : Hid (Fr [qb, g] w5 w8) := Lib.hid (by rw [hw8]; exact HF7.out.alloc _)
              have HV9 : Hid (∀ q, v'.ownBlock = some q → q ≠ sb) := Lib.hid fun q hq => by have := HVL.out q hq; omega
              have HSB : Hid (base ≤ sb ∧ sb < w8.heap.size) := Lib.hid ⟨by have := HF7.out.size; have := HLY.out; omega, by rw [hw8, hsb]; simp⟩
              clear hsb hw8 HB8 HS8 HQ' HO7 HF7 HVL
              obtain ⟨fx, hfx⟩ : ∃ y, f[x]? = some y := ⟨_, List.getElem?_eq_getElem (by rw [HFL.out]; exact hxN)⟩
              have s0 := HS9.out.cell (o := 0) rfl
              have s1 := HS9.out.cell (o := 1) rfl
              have y1 := HO9.out.cellAt x (by omega)
              rw [ints_get hfx] at y1
              have x0 : (0 : Int) ≤ (x : Int) := by omega
              have x1 : (x : Int) < (G.N : Int) := by omega
              have HFX := Lib.hid hfx
              clear hfx
              by_cases hkf : fx < k0
              · have d1 : decide (fx < k0) = true := by simp [hkf]
                go_quiet (fail)
                go_wp2_with fail
                go_roundg (gk - 1)
                case measure => have := HMS.out; omega
                case rel =>
                  exact ⟨f, Q', v', HFL.out, HFB.out, HWK'.out.skip (by rw [fn_get HFX.out]; exact hkf), HQB'.out, by have := HMS.out; omega, by omega, ⟨HQ9.out.blk.drewN _, ownsRow_fr HQ9.out.own ((Fr.refl [] _).drewN _) (by simp), HQ9.out.ne⟩, ownsRow_fr HO9.out ((Fr.refl [] _).drewN _) (by simp), HF9.out.drewN _⟩
              · have d1 : decide (fx < k0) = false := by simp; omega
                have hk0x : k0 = fx := by
                  have := HWK'.out.old k0 x (by simp)
                  rw [fn_get HFX.out] at this
                  omega
                subst hk0x
                go_cut [61] (fun s wx => s = .bool false ∧ Fr [] w8 wx)
                case first =>
                  go_quiet (fail)
                  go_wp2_with fail
                  go_meet
                  exact ⟨rfl, (Fr.refl _ _).drewN _⟩
                case rest =>
                  obtain ⟨rfl, hFx⟩ := hcut
                  have HLK : Hid (LookT (Open G res) (fn h) (fn f) Q' x (Low.Still G res x (off G x))) := Lib.hid (HWK'.out.takeT fun u hE => still_of_open hG hxN hE)
                  have HB10 := Lib.hid (HB9.out.fr hFx (by simp))
                  have HS10 := Lib.hid (HS9.out.fr hFx (by simp))
                  have HQ10 : Hid (Qu wc base qb Q' v') := Lib.hid ⟨HQ9.out.blk.fr hFx (by simp), ownsRow_fr HQ9.out.own hFx (by simp), HQ9.out.ne⟩
                  have HO10 := Lib.hid (ownsRow_fr HO9.out hFx (by simp))
                  have HF10 := Lib.hid (HF9.out.trans (hFx.more (by simp)))
                  have HFwc : Hid (Fr [] w wc) := Lib.hid (((HF5.out.more (by simp)).trans HF10.out).less (by simp; have := HLY.out; omega))
                  have s1 := HS10.out.cell (o := 1) rfl
                  have b3 := HB10.out.cell (o := 3) rfl
                  have hfg := first_get G (v := x) (by omega)
                  obtain ⟨gF, oF, rfl, hF0⟩ := (HV.out.fr0 HFwc.out).F.all (by have := (List.getElem?_eq_some_iff.1 hfg).1; omega)
                  have f0 := hF0 x _ hfg
                  clear hFx hF0 hfg s0 y1 d1 HWK' HB9 HS9 HQ9 HO9 HF9
                  go_wp2_with fail
                  go_loopw [12, 13] (fun s12 _ wr => ∃ (a : Nat) (f : List Int) (Q : List Spot) (v : Value), s12 = .int .i64 a ∧ off G x ≤ a ∧ a ≤ off G (x + 1) ∧ f.length = G.N ∧ (∀ y ∈ f, 0 ≤ y ∧ y ≤ (G.N : Int)) ∧ LookT (Open G res) (fn h) (fn f) Q x (Low.Still G res x a) ∧ f[x]? = some k0 ∧ (∀ p ∈ Q, p.2 < G.N ∧ 0 ≤ p.1 ∧ p.1 ≤ (G.N : Int)) ∧ 2 * sumN f + Q.length + 1 ≤ gk ∧ Qu wr base qb Q v ∧ (∀ q, v.ownBlock = some q → q ≠ sb) ∧ wr.ownsRow w3.heap.size 3 1 (.slice (some ⟨g, 0, none⟩) G.N d') G.N (ints f) ∧ Fr [qb, g] w5 wr ∧ Blk wr sb [.int .i64 k0, .int .i64 x] 64) (fun s _ _ => off G (x + 1) - (intOf s).toNat)
                  case atStart => exact ⟨_, f, Q', v', rfl, Nat.le_refl _, off_mono G (by omega), HFL.out, HFB.out, HLK.out, HFX.out, HQB'.out, HMS.out, HQ10.out, HV9.out, HO10.out, HF10.out, HS10.out⟩
                  case round =>
                    clear HLK HMS HQ10 HO10 HF10 HS10 HV9 HQB' HFL HFB HFX HM' s1 b3 f0 HB10 HFwc
                    obtain ⟨a, f, Q, v, rfl, ha0, ha1, hfl, hfb, hlk, hfx, hQb, hms, hQ, hvb, hO, hF, hS⟩ := hrel
                    have hB := HB5.out.fr hF (by simp; have := HLY.out; omega)
                    have b1 := hB.cell (o := 1) rfl
                    have b3 := hB.cell (o := 3) rfl
                    have b4 := hB.cell (o := 4) rfl
                    have b5 := hB.cell (o := 5) rfl
                    have s0 := hS.cell (o := 0) rfl
                    have s1 := hS.cell (o := 1) rfl
                    have HFw : Hid (Fr [] w wr) := Lib.hid (((HF5.out.more (by simp)).trans hF).less (by simp; have := HLY.out; omega))
                    have hVw := HV.out.fr0 HFw.out
                    obtain ⟨_, _, hgo, hF0⟩ := hVw.F.all (by have := (List.getElem?_eq_some_iff.1 (first_get G (v := x) (by omega))).1; omega)
                    simp only [Option.some.injEq, Addr.mk.injEq, and_true] at hgo
                    obtain ⟨rfl, rfl⟩ := hgo
                    have f1 := hF0 (x + 1) _ (first_get G (v := x + 1) (by omega))
                    have HFL := Lib.hid hfl
                    have HFB := Lib.hid hfb
                    have HLK := Lib.hid hlk
                    have HFX := Lib.hid hfx
                    have HQB := Lib.hid hQb
                    have HQ := Lib.hid hQ
                    have HVB := Lib.hid hvb
                    have HO := Lib.hid hO
                    have HF := Lib.hid hF
                    have HS := Lib.hid hS
                    have HZ := Lib.hid hF.size
                    clear hfl hfb hlk hfx hQb hQ hvb hO hF hS hB hF0
                    by_cases han : a < off G (x + 1)
                    · obtain ⟨e, b, hEa, htl, hhd, hne, hhead, hrev, hbm, hrl', fb, hfb1, hfb2, hfb3⟩ := at_entry hG hxN ha0 han
                      obtain ⟨u, hu⟩ : ∃ u, u = e.hd := ⟨_, rfl⟩
                      rw [← hu] at hhd hne hhead hfb2
                      rw [HMM.out] at hbm
                      obtain ⟨gH, oH, rfl, hc4⟩ := hVw.H.at hhead
                      obtain ⟨gR, oR, rfl, hc5⟩ := hVw.R.at hrev
                      obtain ⟨r, hr⟩ : ∃ r, res[b]? = some r := ⟨_, List.getElem?_eq_getElem (by rw [HL.out]; exact hbm)⟩
                      obtain ⟨gA, oA, rfl, hcA⟩ := (HA.out.fr0 HFw.out).at hr
                      obtain ⟨fu, hfu⟩ : ∃ y, f[u]? = some y := ⟨_, List.getElem?_eq_getElem (by rw [HFL.out]; exact hhd)⟩
                      have y1 := HO.out.cellAt u (by omega)
                      rw [ints_get hfu] at y1
                      have hamN : a < m := by rw [← HMM.out]; exact (List.getElem?_eq_some_iff.1 hEa).1
                      have hfub := HFB.out fu (List.mem_of_getElem? hfu)
                      have hxb := HFB.out k0 (List.mem_of_getElem? HFX.out)
                      have hNx : u ≠ x := hne
                      have KO : Hid (0 < r → u ≠ G.S → Open G res u x) := Lib.hid fun h1 h2 => open_of_rev hfb1 hfb2 hfb3 h2 (by rw [List.getD_eq_getElem?_getD, hr]; exact h1)
                      have KS : Hid (∀ z, Low.Still G res x a z → (z = u ∧ 0 < r) ∨ Low.Still G res x (a + 1) z) := Lib.hid fun z hz => by
                        rcases still_next hz with ⟨b', e', g1, g2, g3, g4⟩ | h1
                        · rw [hEa] at g1
                          obtain rfl := Option.some.inj g1
                          rw [hrl'] at g3
                          obtain rfl := Option.some.inj g3
                          rw [List.getD_eq_getElem?_getD, hr] at g4
                          exact .inl ⟨by omega, g4⟩
                        · exact .inr h1
                      have a0 : (0 : Int) ≤ (a : Int) := by omega
                      have a1 : (a : Int) < (m : Int) := by omega
                      have B0 : (0 : Int) ≤ (b : Int) := by omega
                      have B1 : (b : Int) < (m : Int) := by omega
                      have B2 : (b : Int) < (res.length : Int) := by rw [HL.out]; omega
                      have u0 : (0 : Int) ≤ (u : Int) := by omega
                      have u1 : (u : Int) < (G.N : Int) := by omega
                      have w1' : IntKind.i64.wrap (k0 + 1) = k0 + 1 := IntWalk.i64_in _ (by have := hG.n16; omega)
                      have HFU := Lib.hid hfu
                      have HC5 := Lib.hid hc5
                      have HY1 := Lib.hid y1
                      clear hEa htl hhead hrev hrl' hfb1 hfb2 hfb3 hr hfu hu hVw y1
                      go_upto_region 17 with (fail)
                      have y1 := HY1.out
                      have hPass : Hid (¬ (u ≠ G.S ∧ 0 < r ∧ k0 + 1 < fu) → LookT (Open G res) (fn h) (fn f) Q x (Low.Still G res x (a + 1))) := Lib.hid fun hno => HLK.out.pass fun z hE hs hT => by
                        rcases KS.out z hT with ⟨rfl, h1⟩ | h1
                        · exfalso
                          rw [fn_get HFX.out, fn_get HFU.out] at hs
                          exact hno ⟨hE.1, h1, hs⟩
                        · exact h1
                      by_cases c1 : u ≠ G.S ∧ 0 < r ∧ k0 + 1 < fu
                      · obtain ⟨c1, c2, c3⟩ := c1
                        go_cut [108] (fun s wx => s = .bool true ∧ Fr [] wr wx)
                        case first =>
                          have q1 : ((u : Int) == (G.S : Int)) = false := by simp; omega
                          have q2 : ((u : Int) != (G.S : Int)) = true := by simp; omega
                          have q3 : (u == G.S) = false := by simp; omega
                          have q4 : (u != G.S) = true := by simp; omega
                          have q5 : decide (0 < r) = true := by simp [c2]
                          have q6 : decide (k0 + 1 < fu) = true := by simp [c3]
                          clear c1 c2 c3
                          go_quiet (fail)
                          go_wp2_with fail
                          go_meet
                          exact ⟨rfl, (Fr.refl _ _).drewN _⟩
                        case rest =>
                          obtain ⟨rfl, hFx⟩ := hcut
                          have hO2 := ownsRow_fr HO.out hFx (by simp)
                          have z1 := hO2.cellAt u (by omega)
                          rw [ints_get HFU.out] at z1
                          have z2 := hO2.frozenAt u
                          have z3 := (HS.out.fr hFx (by simp)).cell (o := 0) rfl
                          have hS2 := HS.out.fr hFx (by simp)
                          have hlay := HLY.out
                          have hsb := HSB.out
                          have hset : Fr [g] wc (wc.setCell ⟨g, u, none⟩ (.int .i64 (k0 + 1))) := (Fr.refl _ _).setCell (by simp) _
                          obtain ⟨w9, hw9⟩ : ∃ W, W = wc.setCell ⟨g, u, none⟩ (.int .i64 (k0 + 1)) := ⟨_, rfl⟩
                          rw [← hw9] at hset
                          have HO9 : Hid (w9.ownsRow w3.heap.size 3 1 (.slice (some ⟨g, 0, none⟩) G.N d') G.N (ints (f.set u (k0 + 1)))) := Lib.hid (by rw [hw9, ← ints_set]; exact (hO2.stored u _).1)
                          have HQ9 : Hid (Qu w9 base qb Q v) := Lib.hid (by
                            have h1 : Fr [g] wr w9 := (hFx.more (by simp)).trans hset
                            exact ⟨HQ.out.blk.fr h1 (by simp; omega), ownsRow_fr HQ.out.own h1 (fun q hq => by have := own_ge HQ.out.own q hq; simp; omega), HQ.out.ne⟩)
                          have HS9 : Hid (Blk w9 sb [.int .i64 k0, .int .i64 x] 64) := Lib.hid (hS2.fr hset (by simp; omega))
                          have HF9 : Hid (Fr [qb, g] w5 w9) := Lib.hid ((HF.out.trans (hFx.more (by simp))).trans (hset.more (by simp)))
                          have HZ9 : Hid (w5.heap.size ≤ w9.heap.size ∧ sb < w9.heap.size) := Lib.hid ⟨HF9.out.size, HS9.out.lt⟩
                          have HW9 := Lib.hid hw9
                          have v1 := HO9.out.cellAt u (by omega)
                          rw [ints_get (x := k0 + 1) (by rw [List.getElem?_set_self (by rw [HFL.out]; exact hhd)])] at v1
                          clear hFx hO2 hS2 hset hw9
                          go_upto_region 19 with (fail)
                          rw [← HW9.out]
                          clear z1 z2 z3
                          go_wp2_with fail
                          refine (hpush_lit HQ9.out (k0 + 1) u (by omega) (by have := HZ9.out; omega)).mono ?_
                          rintro e w10 ⟨rfl, v2, Q2, hQ2, hl2, hm2, hn2, hF2⟩
                          have HGE := own_ge HQ.out.own
                          have HO10 := Lib.hid (own_keep HO9.out (by omega) (by omega) HGE hF2)
                          have HF10 := Lib.hid (fr_step2 HF9.out (by simp) hlay.2.2.2.2 HGE hF2)
                          have HS10 := Lib.hid (HS9.out.fr hF2 (fun hm => by
                            rcases List.mem_cons.1 hm with h1 | h1
                            · omega
                            · exact HVB.out sb (by simpa using h1) rfl))
                          have HVB2 : Hid (∀ q, v2.ownBlock = some q → q ≠ sb) := Lib.hid fun q hq => by
                            rcases hn2 q hq with h1 | h1
                            · exact HVB.out q h1
                            · have := HZ9.out; omega
                          have HQ2 := Lib.hid hQ2
                          have HL2 := Lib.hid hl2
                          have HM2 := Lib.hid hm2
                          clear hQ2 hl2 hm2 hn2 hF2 HGE hlay hsb
                          go_wp2_with fail
                          go_roundw
                          case rel =>
                            refine ⟨a + 1, f.set u (k0 + 1), Q2, v2, by go_num, by omega, by omega, by rw [List.length_set, HFL.out], fun y hy => ?_, ?_, ?_, fun p hp => ?_, ?_, HQ2.out, HVB2.out, HO10.out, HF10.out, HS10.out⟩
                            · rcases List.mem_or_eq_of_mem_set hy with h1 | h1
                              · exact HFB.out y h1
                              · subst h1; omega
                            · have h1 := HLK.out.lower (T' := Low.Still G res x (a + 1)) hNx (KO.out c2 c1) (by rw [fn_get HFX.out, fn_get HFU.out]; exact c3) (fun z hz hT => (KS.out z hT).elim (fun h => absurd h.1 hz) id)
                              rw [fn_get HFX.out, ← fn_set (by rw [HFL.out]; exact hhd)] at h1
                              exact h1.perm fun p => by rw [HM2.out, List.mem_cons]
                            · rw [List.getElem?_set_ne hNx, HFX.out]
                            · rcases (HM2.out p).1 hp with h1 | h1
                              · subst h1; exact ⟨hhd, by omega, by show k0 + 1 ≤ _; omega⟩
                              · exact HQB.out p h1
                            · have := sumN_set HFU.out (by omega : 0 ≤ k0 + 1) c3
                              rw [HL2.out]; omega
                          case measure => simp [intOf]; omega
                      · go_cut [108] (fun s wx => s = .bool false ∧ Fr [] wr wx)
                        case first =>
                          by_cases c2 : u = G.S
                          · have q1 : ((u : Int) == (G.S : Int)) = true := by simp [c2]
                            have q2 : ((u : Int) != (G.S : Int)) = false := by simp [c2]
                            have q3 : (u == G.S) = true := by simp [c2]
                            have q4 : (u != G.S) = false := by simp [c2]
                            clear c1 c2
                            go_quiet (fail)
                            go_wp2_with fail
                            go_meet
                            exact ⟨rfl, (Fr.refl _ _).drewN _⟩
                          · have q1 : ((u : Int) == (G.S : Int)) = false := by simp; omega
                            have q2 : ((u : Int) != (G.S : Int)) = true := by simp; omega
                            have q3 : (u == G.S) = false := by simp; omega
                            have q4 : (u != G.S) = true := by simp; omega
                            by_cases c3 : 0 < r
                            · have q5 : decide (0 < r) = true := by simp [c3]
                              have q6 : decide (k0 + 1 < fu) = false := by simp; omega
                              clear c1 c2 c3
                              go_quiet (fail)
                              go_wp2_with fail
                              go_meet
                              exact ⟨rfl, (Fr.refl _ _).drewN _⟩
                            · have q5 : decide (0 < r) = false := by simp; omega
                              clear c1 c2 c3
                              go_quiet (fail)
                              go_wp2_with fail
                              go_meet
                              exact ⟨rfl, (Fr.refl _ _).drewN _⟩
                        case rest =>
                          obtain ⟨rfl, hFx⟩ := hcut
                          have HFX2 := Lib.hid hFx
                          clear hFx
                          go_wp2_with fail
                          go_roundw
                          case rel =>
                            exact ⟨a + 1, f, Q, v, by go_num, by omega, by omega, HFL.out, HFB.out, hPass.out c1, HFX.out, HQB.out, by omega, ⟨HQ.out.blk.fr HFX2.out (by simp), ownsRow_fr HQ.out.own HFX2.out (by simp), HQ.out.ne⟩, HVB.out, ownsRow_fr HO.out HFX2.out (by simp), HF.out.trans (HFX2.out.more (by simp)), HS.out.fr HFX2.out (by simp)⟩
                          case measure => simp [intOf]; omega
                    · have hae : a = off G (x + 1) := by omega
                      subst hae
                      go_wp2_with fail
                      go_roundg (gk - 1)
                      case measure => omega
                      case rel =>
                        exact ⟨f, Q, v, HFL.out, HFB.out, HLK.out.done (still_end G res x), HQB.out, by omega, by omega, HQ.out, HO.out, HF.out⟩
            · have hQ0 : Q.length = 0 := by omega
              have hQn : Q = [] := List.eq_nil_of_length_eq_zero hQ0
              subst hQn
              go_wp2_with fail
              refine (len_row _ _ _ _).mono ?_
              rintro e w6 ⟨rfl, rfl⟩
              go_wp2_with fail
              go_ret
              obtain ⟨_, _, hve, hsl⟩ := Sl.of_own HO.out (by decide)
              refine ⟨f, some ⟨g, 0, none⟩, d', by rw [HFL.out]; rfl, ?_, fun _ _ => ⟨HFL.out, HFB.out, HWK.out.best⟩, fun hno => absurd ⟨HL.out.trans HMM.out.symm, hH.out⟩ hno, fun g' _ _ he => by have := HLY.out; obtain ⟨rfl, _⟩ := Addr.mk.inj (Option.some.inj he); omega, ((HF5.out.more (by simp)).trans HF.out).less (by simp; have := HLY.out; omega)⟩
              unfold SlI
              rw [HFL.out]
              exact hsl
  · go_wp2_with (refine wl_load rfl rfl rfl _ HB1.out Try.underlying29 rfl (by kernel_rfl) ?_)
    refine (csrlen_any _ _ _ _ _ _ _ _ _ m _ _).mono ?_
    rintro e w2 ⟨rfl, hF2⟩
    have HF2 := Lib.hid (HF1.out.trans hF2)
    clear hF2
    have q1 : ((res.length : Int) == (m : Int)) = false := by simp; omega
    have q2 : ((res.length : Int) != (m : Int)) = true := by simp; omega
    have q3 : (res.length == m) = false := by simp; omega
    have q4 : (res.length != m) = true := by simp; omega
    go_wp2_with fail
    go_ret
    exact ⟨[], none, 0, rfl, Sl.nil _ _ _, fun h1 _ => absurd (h1.trans HMM.out) hl, fun _ => rfl, fun _ _ _ h => by simp at h, HF2.out⟩

theorem lower_core (G : Net) (hG : G.Ok) (AF AH AR AC AA AB : Option Addr) (cF cH cR cC cA cB : Nat) (res h : List Int) (A B : Option Addr) (c d : Nat) (w : World) (hV : CsrV w G AF AH AR AC AA AB) (hA : SlI w A res) (hB : SlI w B h)
    (hrl : res.length ≤ 9223372036854775807) (hhl : h.length ≤ 9223372036854775807) :
    Calls Try.prog 11 #[.agg (csrCells G AF AH AR AC AA AB cF cH cR cC cA cB).toArray, .slice A res.length c, .slice B h.length d] w (LowerOk G res h w) :=
  (lower_fresh G hG AF AH AR AC AA AB cF cH cR cC cA cB res h A B c d w hV hA hB hrl hhl).mono fun _ _ ⟨out, A, c, h1, h2, h3, h4, _, h5⟩ => ⟨out, A, c, h1, h2, h3, h4, h5⟩
end Acq
