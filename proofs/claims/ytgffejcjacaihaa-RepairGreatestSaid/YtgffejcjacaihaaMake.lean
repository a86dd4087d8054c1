/- acequiaref02.Make: the row of a right net. -/
import Derived.Test.YtgffejcjacaihaaRows6
set_option linter.unusedSimpArgs false
set_option linter.unnecessarySimpa false
set_option linter.unusedVariables false
namespace Acq
open Go Go.RowKit Go.Proofs

theorem fr_step {w2 wX w5 : World} {cb base : Nat} {v : Value} (h : Fr [cb] w2 wX) (hb : base = w2.heap.size) (hv : ∀ g, v.ownBlock = some g → base ≤ g) (k : Fr (cb :: v.ownBlock.toList) wX w5) : Fr [cb] w2 w5 :=
  ((h.more (S' := cb :: v.ownBlock.toList) (by simp)).trans k).less fun x hx hn => by
    rcases List.mem_cons.1 hx with h1 | h1
    · exact absurd (by simp [h1]) hn
    · rw [← hb]; exact hv x (by simpa using h1)

theorem arc_keep {wX w5 : World} {cb base ab n : Nat} {v : Value} {e T : TypeId} {xs ys : List Value} (hab : Blk wX ab ys T) (hown : wX.ownsRow base e 1 v n xs) (he : e ≠ T) (hne : ab ≠ cb) (k : Fr (cb :: v.ownBlock.toList) wX w5) : Blk w5 ab ys T :=
  hab.fr k (by simp only [List.mem_cons, Option.mem_toList]; rintro (h | h); exact hne h; exact ne_of_ty hown hab he h)

theorem rows_app (F : List Nat) (E : List Ent) (R : List Nat) (e : Ent) : rowsOf F (E ++ [e]) R = [ints (natI F), ints (E.map fun e => (e.hd : Int)) ++ [.int .i64 e.hd], ints (natI R), ints (E.map (·.cap)) ++ [.int .i64 e.cap], ints (E.map fun e => (e.arc : Int)) ++ [.int .i64 e.arc], bools (E.map (·.back)) ++ [.bool e.back]] := by
  simp [rowsOf, ints, bools]

theorem rows_rev (F : List Nat) (E : List Ent) (R : List Nat) (r : Nat) : rowsOf F E (R ++ [r]) = [ints (natI F), ints (E.map fun e => (e.hd : Int)), ints (natI R) ++ [.int .i64 r], ints (E.map (·.cap)), ints (E.map fun e => (e.arc : Int)), bools (E.map (·.back))] := by
  simp [rowsOf, ints, natI]

theorem rows_first (F : List Nat) (E : List Ent) (R : List Nat) (n : Nat) : rowsOf (F ++ [n]) E R = [ints (natI F) ++ [.int .i64 n], ints (E.map fun e => (e.hd : Int)), ints (natI R), ints (E.map (·.cap)), ints (E.map fun e => (e.arc : Int)), bools (E.map (·.back))] := by
  simp [rowsOf, ints, natI]

theorem len_revRow_le (es : List Ent) (i : Nat) : ∀ j, (revRow es i j).length ≤ j
  | 0 => Nat.le_refl _
  | j + 1 => by
    rw [revRow, List.length_append]
    have := len_revRow_le es i j
    split <;> simp <;> omega

theorem len_revTo_le (es : List Ent) : ∀ i, (revTo es i).length ≤ i * es.length
  | 0 => by simp [revTo]
  | i + 1 => by
    rw [revTo, List.length_append, Nat.succ_mul]
    have := len_revTo_le es i
    have := len_revRow_le es i es.length
    omega

theorem CM.slices {w : World} {base cb N S T : Nat} {vs : List Value} {rows : List (List Value)} (h : CM w base cb N S T vs rows) {i : Nat} {v : Value} {xs : List Value} {e : TypeId} (hv : vs[i]? = some v) (hr : rows[i]? = some xs) (he : rowTys[i]? = some e) {n : Nat} (hn : xs.length = n) :
    ∃ A c, v = .slice A n c ∧ Sl w A n 1 xs ∧ In base w.heap.size A := by
  subst hn
  have ho := h.own i v xs e hv hr he
  obtain ⟨c, _, h1, h2⟩ := Sl.of_own ho (by decide)
  refine ⟨_, c, h1, h2, fun g off sp h3 => ?_⟩
  obtain ⟨g', h4, h5⟩ := Option.map_eq_some_iff.1 h3
  simp only [Addr.mk.injEq] at h5
  rw [← h5.1]
  exact ho.lt g' h4

def MadeOk (G : Net) (w : World) (e : Ending) (w' : World) : Prop := ∃ AF AH AR AC AA AB cF cH cR cC cA cB, e = .returned (.tuple #[.agg (csrCells G AF AH AR AC AA AB cF cH cR cC cA cB).toArray, .int .i64 0]) ∧ CsrV w' G AF AH AR AC AA AB ∧ CsrIn w.heap.size w'.heap.size AF AH AR AC AA AB ∧ Fr [] w w'

set_option maxRecDepth 100000 in
set_option maxHeartbeats 4000000 in
theorem make_core (N S T : Nat) (A : Option Addr) (c : Nat) (xs : List A3) (w : World) (hA : ArcsV w A xs) (hn : xs.length ≤ 40) (hx : ∀ a ∈ xs, a.fr < N ∧ a.to < N ∧ 0 ≤ a.cap ∧ a.cap < 1125899906842624)
    (h1 : 2 ≤ N) (h2 : N ≤ 16) (h3 : S < N) (h4 : T < N) (h5 : S ≠ T) :
    Calls Try.prog 20 #[.agg #[.int .i64 N, .int .i64 S, .int .i64 T, .slice A xs.length c]] w (MadeOk ⟨N, S, T, xs⟩ w) := by
  have HA := Lib.hid hA
  have HX := Lib.hid hx
  have HB := Lib.hid (Blk.new w [.int .i64 N, .int .i64 S, .int .i64 T, .slice A xs.length c] 24)
  have HCK : Hid (∀ W, Fr [] w W → Calls Try.prog 36 #[.agg #[.int .i64 N, .int .i64 S, .int .i64 T, .slice A xs.length c]] W fun e w' => e = .returned (.int .i64 0) ∧ Fr [] W w') := Lib.hid fun W hW => check_any N S T A c xs W (Sl.fr0 hA hW) hn hx h1 h2 h3 h4 h5
  clear hA hx
  go_enter Try.func20, Try.ntmps20
  go_wp2_with (refine wl_load rfl rfl rfl _ (HB.out.alloc _) Try.underlying24 rfl (by kernel_rfl) ?_)
  refine (HCK.out _ (((Fr.refl [] w).alloc _).alloc _)).mono ?_
  rintro e w1 ⟨rfl, hF1⟩
  have b1 := (HB.out.alloc (.cells #[.int .i64 0, .int .i64 0, .int .i64 0, .slice none 0 0, .slice none 0 0, .slice none 0 0, .slice none 0 0, .slice none 0 0, .slice none 0 0] 29)).fr hF1 (by simp)
  have r1 := (Blk.new_at (w := w.alloc (.cells #[.int .i64 N, .int .i64 S, .int .i64 T, .slice A xs.length c] 24)) (b := w.heap.size + 1) [.int .i64 0, .int .i64 0, .int .i64 0, .slice none 0 0, .slice none 0 0, .slice none 0 0, .slice none 0 0, .slice none 0 0, .slice none 0 0] 29 (by simp)).fr hF1 (by simp)
  have c0 := b1.cell (o := 0) rfl
  have c1 := b1.cell (o := 1) rfl
  have c2 := b1.cell (o := 2) rfl
  have hz1 : w.heap.size + 2 ≤ w1.heap.size := by have := hF1.size; simpa using this
  have HB1 := Lib.hid b1
  have HR1 := Lib.hid r1
  have HF1 := Lib.hid ((((Fr.refl [] w).alloc (.cells #[.int .i64 N, .int .i64 S, .int .i64 T, .slice A xs.length c] 24)).alloc (.cells #[.int .i64 0, .int .i64 0, .int .i64 0, .slice none 0 0, .slice none 0 0, .slice none 0 0, .slice none 0 0, .slice none 0 0, .slice none 0 0] 29)).trans hF1)
  clear b1 r1 hF1 HB HCK
  go_upto_region 5 with (fail)
  obtain ⟨nb, hnb⟩ : ∃ b, b = w.heap.size := ⟨_, rfl⟩
  obtain ⟨cb, hcb⟩ : ∃ b, b = w1.heap.size := ⟨_, rfl⟩
  obtain ⟨w2, hw2⟩ : ∃ W, W = w1.alloc (.cells #[.int .i64 N, .int .i64 S, .int .i64 T, .slice none 0 0, .slice none 0 0, .slice none 0 0, .slice none 0 0, .slice none 0 0, .slice none 0 0] 29) := ⟨_, rfl⟩
  rw [← hw2, ← hnb, ← hcb]
  obtain ⟨base, hbase⟩ : ∃ b, b = w2.heap.size := ⟨_, rfl⟩
  have HBASE := Lib.hid hbase
  have hbc : base = cb + 1 := by rw [hbase, hw2, hcb, World.size_alloc]
  have HM0 : Hid (CM w2 base cb N S T [.slice none 0 0, .slice none 0 0, .slice none 0 0, .slice none 0 0, .slice none 0 0, .slice none 0 0] (rowsOf [] [] [])) := Lib.hid (CM.start (by rw [hw2]; exact Blk.new_at _ _ hcb) (by omega))
  have HB2 : Hid (Blk w2 nb [.int .i64 N, .int .i64 S, .int .i64 T, .slice A xs.length c] 24) := Lib.hid (by rw [hw2, hnb]; exact HB1.out.alloc _)
  have HR2 : Hid (Blk w2 (nb + 1) [.int .i64 0, .int .i64 0, .int .i64 0, .slice none 0 0, .slice none 0 0, .slice none 0 0, .slice none 0 0, .slice none 0 0, .slice none 0 0] 29) := Lib.hid (by rw [hw2, hnb]; exact HR1.out.alloc _)
  have HF2 : Hid (Fr [] w w2) := Lib.hid (by rw [hw2]; exact HF1.out.alloc _)
  have hbn : nb + 2 ≤ cb := by omega
  have HNB := Lib.hid hnb
  clear hw2 hnb hcb hz1 HB1 HR1 HF1 hbase c0 c1 c2
  obtain ⟨ii, hi0, hi1, hi2, hi3⟩ := info_parts infoInt
  have HII := Lib.hid (And.intro hi0 (And.intro hi1 (And.intro hi2 hi3)))
  obtain ⟨il, hl0, hl1, hl2, hl3⟩ := info_parts infoLng
  have HIL := Lib.hid (And.intro hl0 (And.intro hl1 (And.intro hl2 hl3)))
  obtain ⟨ib, hb0, hb1, hb2, hb3⟩ := info_parts infoBol
  have HIB := Lib.hid (And.intro hb0 (And.intro hb1 (And.intro hb2 hb3)))
  clear hi0 hi1 hi2 hi3 hl0 hl1 hl2 hl3 hb0 hb1 hb2 hb3
  go_wp2_with fail
  go_loopw [6, 7, 8] (fun v _ _ wr => ∃ (k : Nat) (v0 v1 v2 v3 v4 v5 : Value), v = .int .i64 k ∧ k ≤ N ∧ CM wr base cb N S T [v0, v1, v2, v3, v4, v5] (rowsOf (firstTo xs k) (allTo xs k) []) ∧ Fr [cb] w2 wr) (fun v _ _ _ => N - (intOf v).toNat)
  case atStart => exact ⟨0, _, _, _, _, _, _, rfl, Nat.zero_le _, HM0.out, Fr.refl _ _⟩
  case round =>
    obtain ⟨k, v0, v1, v2, v3, v4, v5, rfl, hk, hM, hF⟩ := hrel
    have b2 := HB2.out.fr hF (by simp; omega)
    have d0 := b2.cell (o := 0) rfl
    have HM := Lib.hid hM
    have HF := Lib.hid hF
    have HB3 := Lib.hid b2
    clear hM hF b2
    by_cases hkN : k < N
    · -- DONE
      have e1 := HM.out.cell (i := 1) rfl
      have hlen := @len_allTo xs k
      have hlen1 : (allTo xs k).length ≤ 1280 := Nat.le_trans hlen (Nat.le_trans (Nat.mul_le_mul (by omega : k ≤ 16) (by omega : 2 * xs.length ≤ 80)) (by decide))
      have hf1 := @len_firstTo xs k
      obtain ⟨A1, k1, hv1⟩ := ownsRow_slice (HM.out.own 1 v1 _ _ rfl rfl rfl)
      rw [show (ints ((allTo xs k).map fun e => (e.hd : Int))).length = (allTo xs k).length by simp [ints]] at hv1
      subst hv1
      have HL0 : Hid ((ints (natI (firstTo xs k))).length ≤ 100) := Lib.hid (by simp [ints, natI, hf1]; omega)
      clear hlen hf1
      go_upto_region 8 with (fail)
      have co := HM.out.cell (i := 0) (v := v0) rfl
      have HOX := Lib.hid (HM.out.own 0 v0 (ints (natI (firstTo xs k))) 3 rfl rfl rfl)
      have HGE := Lib.hid (own_ge HOX.out)
      have HSZ := Lib.hid HF.out.size
      go_upto_region 9 with (at_builtin; refine wpList_append_lies _ rfl _ _ 26 rfl base 3 ii _ 1 8 Try.underlying26 HII.out.1 HII.out.2.1 HII.out.2.2.1 HII.out.2.2.2 rfl (by decide) v0 _ (ints (natI (firstTo xs k))) rfl (HOX.out.alloc _) ⟨wr.heap.size, 0, none⟩ 1 1 [(.int .i64 (allTo xs k).length)] rfl rfl (World.news_of_block (heap_alloc_new wr _)) (by simp [Value.oneCell']) (by decide) (by have := HL0.out; unfold maxLen; omega) (by have := HL0.out; omega) (by rw [World.size_alloc]; have := HSZ.out; have := HBASE.out; omega) (wr.heap.size + 1) (by simp) ?_; intro g0 cap_ w4 hown4 hgr4 hat4 hlt4; obtain ⟨⟨cc, ff⟩, hcm4, hfr4⟩ := HM.out.grown (by have := HSZ.out; have := HBASE.out; omega) (i := 0) (v := v0) (e := 3) rfl rfl rfl hown4 hgr4 hat4; have HC4 := Lib.hid hcm4; have HR4' := Lib.hid hfr4; clear hown4 hgr4 hat4 hcm4 hfr4 hlt4; have cc' : w4.cell? ⟨cb, 3, none⟩ = some v0 := cc; have ff' : w4.frozen? ⟨cb, 3, none⟩ = false := ff; clear cc ff)
      obtain ⟨va, hnv⟩ : ∃ V, V = Value.slice (some ⟨g0, 0, none⟩) (((ints (natI (firstTo xs k)))).length + 1) cap_ := ⟨_, rfl⟩
      rw [← hnv] at HC4 HR4'
      obtain ⟨wa, hnw⟩ : ∃ W, W = w4.setCell ⟨cb, 3, none⟩ va := ⟨_, rfl⟩
      have HMA : Hid (CM wa base cb N S T [va, .slice A1 (allTo xs k).length k1, v2, v3, v4, v5] [ints (natI (firstTo xs k)) ++ [.int .i64 (allTo xs k).length], ints ((allTo xs k).map fun e => (e.hd : Int)), ints (natI []), ints ((allTo xs k).map (·.cap)), ints ((allTo xs k).map fun e => (e.arc : Int)), bools ((allTo xs k).map (·.back))]) := Lib.hid (by rw [hnw]; exact HC4.out)
      have HRA : Hid (Fr (cb :: (v0).ownBlock.toList) wr wa) := Lib.hid (by rw [hnw]; exact HR4'.out)
      have HFA := Lib.hid (fr_step HF.out HBASE.out HGE.out HRA.out)
      have HTY := Lib.hid HOX.out
      rw [← hnv, ← hnw]
      clear co HGE HSZ HC4 HR4' cc' ff' HOX hnv hnw
      clear e1 HM HF HB3 HRA HTY HL0
      have HMI : Hid (CM wa base cb N S T [va, .slice A1 (allTo xs k).length k1, v2, v3, v4, v5] (rowsOf (firstTo xs (k + 1)) (allTo xs k ++ rowTo xs k 0) [])) := Lib.hid (by
        rw [firstTo, rowTo, List.append_nil, rows_first]; exact HMA.out)
      clear HMA
      obtain ⟨wo, rfl⟩ : ∃ wo : World, wo = wr := ⟨_, rfl⟩
      go_wp2_with fail
      go_loopw [7, 8] (fun j _ wr => ∃ (j' : Nat) (v0 v1 v2 v3 v4 v5 : Value), j = .int .i64 j' ∧ j' ≤ xs.length ∧ CM wr base cb N S T [v0, v1, v2, v3, v4, v5] (rowsOf (firstTo xs (k + 1)) (allTo xs k ++ rowTo xs k j') []) ∧ Fr [cb] w2 wr) (fun j _ _ => xs.length - (intOf j).toNat)
      case atStart => exact ⟨0, _, _, _, _, _, _, rfl, Nat.zero_le _, HMI.out, HFA.out⟩
      case round =>
        clear HMI HFA
        obtain ⟨j, p0, p1, p2, p3, p4, p5, rfl, hj, hM, hF⟩ := hrel
        have b2 := HB2.out.fr hF (by simp; omega)
        have d3 := b2.cell (o := 3) rfl
        have HF := Lib.hid hF
        have HFW : Hid (Fr [] w wr) := Lib.hid (((HF2.out.more (by simp)).trans hF).less (by simp; have := HNB.out; omega))
        have hl2 := @len_rowTo xs k j
        have hbw : base ≤ wr.heap.size := by have := hF.size; have := HBASE.out; omega
        obtain ⟨E, hE⟩ : ∃ E, E = allTo xs k ++ rowTo xs k j := ⟨_, rfl⟩
        have hlE : E.length ≤ 1380 := by rw [hE, List.length_append]; omega
        rw [← hE] at hM
        obtain ⟨rF, hrF⟩ : ∃ r, r = ints (natI (firstTo xs (k + 1))) := ⟨_, rfl⟩
        obtain ⟨rH, hrH⟩ : ∃ r, r = ints (E.map fun e => (e.hd : Int)) := ⟨_, rfl⟩
        obtain ⟨rR, hrR⟩ : ∃ r, r = ints (natI []) := ⟨_, rfl⟩
        obtain ⟨rC, hrC⟩ : ∃ r, r = ints (E.map (·.cap)) := ⟨_, rfl⟩
        obtain ⟨rA, hrA⟩ : ∃ r, r = ints (E.map fun e => (e.arc : Int)) := ⟨_, rfl⟩
        obtain ⟨rB, hrB⟩ : ∃ r, r = bools (E.map (·.back)) := ⟨_, rfl⟩
        have HM : Hid (CM wr base cb N S T [p0, p1, p2, p3, p4, p5] [rF, rH, rR, rC, rA, rB]) := Lib.hid (by rw [hrF, hrH, hrR, hrC, hrA, hrB]; exact hM)
        have HLN : Hid (rH.length ≤ 1380 ∧ rC.length ≤ 1380 ∧ rA.length ≤ 1380 ∧ rB.length ≤ 1380) := Lib.hid (by rw [hrH, hrC, hrA, hrB]; simp [ints, bools]; exact hlE)
        have HAP : Hid (∀ e : Ent, rowsOf (firstTo xs (k + 1)) (E ++ [e]) [] = [rF, rH ++ [.int .i64 e.hd], rR, rC ++ [.int .i64 e.cap], rA ++ [.int .i64 e.arc], rB ++ [.bool e.back]]) := Lib.hid fun e => by rw [rows_app, hrF, hrH, hrR, hrC, hrA, hrB]
        have HRW : Hid (rowsOf (firstTo xs (k + 1)) E [] = [rF, rH, rR, rC, rA, rB]) := Lib.hid (by rw [hrF, hrH, hrR, hrC, hrA, hrB]; rfl)
        have HEE := Lib.hid hE
        clear hM hF b2 hl2 hlE hrF hrH hrR hrC hrA hrB hE
        by_cases hjn : j < xs.length
        · obtain ⟨a, ha⟩ : ∃ a, xs[j]? = some a := ⟨_, List.getElem?_eq_getElem hjn⟩
          obtain ⟨g, off, rfl, hr⟩ := Sl.el arcCells_len HA.out ha
          obtain ⟨x, y, z⟩ := a
          have HR : Hid (wr.rangeAt g (off + j * 3) [.int .i64 x, .int .i64 y, .int .i64 z]) := Lib.hid (rangeAt_fr hr HFW.out (by simp))
          have HROW : Hid (rowTo xs k (j + 1) = rowTo xs k j ++ ent k j ⟨x, y, z⟩) := Lib.hid (by rw [rowTo, ha])
          have HXY := Lib.hid (HX.out _ (List.mem_of_getElem? ha))
          clear ha hr
          by_cases hxy : x = y
          · subst hxy
            have q1 : (((x : Int) : Int) == ((x : Int) : Int)) = true := by simp
            have q2 : (((x : Int) : Int) != ((x : Int) : Int)) = false := by simp
            have q3 : ((x : Int) == (x : Int)) = true := by simp
            have q4 : ((x : Int) != (x : Int)) = false := by simp
            go_wp2_with (refine wpList_load_mid rfl _ _ rfl g (off + j * 3) rfl _ _ HR.out Try.underlying53 rfl (by kernel_rfl) ?_)
            go_roundw
            case rel =>
              refine ⟨j + 1, p0, p1, p2, p3, p4, p5, by go_num, by omega, ?_, HF.out.alloc _⟩
              have : rowsOf (firstTo xs (k + 1)) (allTo xs k ++ rowTo xs k (j + 1)) [] = [rF, rH, rR, rC, rA, rB] := by
                rw [HROW.out, show ent k j ⟨x, x, z⟩ = [] by simp [ent], List.append_nil, ← HEE.out, HRW.out]
              rw [this]
              exact HM.out.fr0 ((Fr.refl _ _).alloc _)
            case measure => simp [intOf]; omega
          · have hab : wr.heap.size ≠ cb := by omega
            have HAB0 := Lib.hid (Blk.new wr [.int .i64 x, .int .i64 y, .int .i64 z] 53)
            by_cases hxk : x = k
            · subst hxk
              have hyx : y ≠ x := fun h => hxy h.symm
              have q1 : ((x : Int) == (y : Int)) = false := by simp; omega
              have q2 : ((x : Int) != (y : Int)) = true := by simp; omega
              have q3 : (x == y) = false := by simp; omega
              have q4 : (x != y) = true := by simp; omega
              have Q1 := Lib.hid (And.intro q1 (And.intro q2 (And.intro q3 q4)))
              have q5 : ((x : Int) == (x : Int)) = true := by simp
              have q6 : (x == x) = true := by simp
              go_upto_region 15 with (refine wpList_load_mid rfl _ _ rfl g (off + j * 3) rfl _ _ HR.out Try.underlying53 rfl (by kernel_rfl) ?_)
              obtain ⟨ab, hab0⟩ : ∃ b, b = wr.heap.size := ⟨_, rfl⟩
              obtain ⟨wb, hwb⟩ : ∃ W, W = wr.alloc (.cells #[.int .i64 x, .int .i64 y, .int .i64 z] 53) := ⟨_, rfl⟩
              rw [← hwb, ← hab0]
              have HMb : Hid (CM wb base cb N S T [p0, p1, p2, p3, p4, p5] [rF, rH, rR, rC, rA, rB]) := Lib.hid (by rw [hwb]; exact HM.out.fr0 ((Fr.refl _ _).alloc _))
              have HFb : Hid (Fr [cb] w2 wb) := Lib.hid (by rw [hwb]; exact HF.out.alloc _)
              have HAB : Hid (Blk wb ab [.int .i64 x, .int .i64 y, .int .i64 z] 53) := Lib.hid (by rw [hwb, hab0]; exact HAB0.out)
              have habc : ab ≠ cb := by rw [hab0]; exact hab
              clear HM HF HR HAB0 hab hwb hab0 d3 q1 q2 q3 q4 q5 q6
              have a1 := HAB.out.cell (o := 1) rfl
              have co := HMb.out.cell (i := 1) (v := p1) rfl
              have HOX := Lib.hid (HMb.out.own 1 p1 rH 3 rfl rfl rfl)
              have HGE := Lib.hid (own_ge HOX.out)
              have HSZ := Lib.hid HFb.out.size
              go_upto_region 16 with (at_builtin; refine wpList_append_lies _ rfl _ _ 26 rfl base 3 ii _ 1 8 Try.underlying26 HII.out.1 HII.out.2.1 HII.out.2.2.1 HII.out.2.2.2 rfl (by decide) p1 _ rH rfl (HOX.out.alloc _) ⟨wb.heap.size, 0, none⟩ 1 1 [(.int .i64 y)] rfl rfl (World.news_of_block (heap_alloc_new wb _)) (by simp [Value.oneCell']) (by decide) (by have := HLN.out.1; unfold maxLen; omega) (by have := HLN.out.1; omega) (by rw [World.size_alloc]; have := HSZ.out; have := HBASE.out; omega) (wb.heap.size + 1) (by simp) ?_; intro g1 cap_ w4 hown4 hgr4 hat4 hlt4; obtain ⟨⟨cc, ff⟩, hcm4, hfr4⟩ := HMb.out.grown (by have := HSZ.out; have := HBASE.out; omega) (i := 1) (v := p1) (e := 3) rfl rfl rfl hown4 hgr4 hat4; have HC4 := Lib.hid hcm4; have HR4' := Lib.hid hfr4; clear hown4 hgr4 hat4 hcm4 hfr4 hlt4; have cc' : w4.cell? ⟨cb, 4, none⟩ = some p1 := cc; have ff' : w4.frozen? ⟨cb, 4, none⟩ = false := ff; clear cc ff)
              obtain ⟨n1, hnv⟩ : ∃ V, V = Value.slice (some ⟨g1, 0, none⟩) ((rH).length + 1) cap_ := ⟨_, rfl⟩
              rw [← hnv] at HC4 HR4'
              obtain ⟨wc1, hnw⟩ : ∃ W, W = w4.setCell ⟨cb, 4, none⟩ n1 := ⟨_, rfl⟩
              have HM1 : Hid (CM wc1 base cb N S T [p0, n1, p2, p3, p4, p5] [rF, rH ++ [.int .i64 y], rR, rC, rA, rB]) := Lib.hid (by rw [hnw]; exact HC4.out)
              have HR1 : Hid (Fr (cb :: (p1).ownBlock.toList) wb wc1) := Lib.hid (by rw [hnw]; exact HR4'.out)
              have HF1 := Lib.hid (fr_step HFb.out HBASE.out HGE.out HR1.out)
              have HTY := Lib.hid HOX.out
              rw [← hnv, ← hnw]
              clear co HGE HSZ HC4 HR4' cc' ff' HOX hnv hnw
              have HAB1 := Lib.hid (arc_keep HAB.out HTY.out (by decide) habc HR1.out)
              have a2 := HAB1.out.cell (o := 2) rfl
              clear HTY HR1 HAB HMb HFb a1
              have co := HM1.out.cell (i := 3) (v := p3) rfl
              have HOX := Lib.hid (HM1.out.own 3 p3 rC 2 rfl rfl rfl)
              have HGE := Lib.hid (own_ge HOX.out)
              have HSZ := Lib.hid HF1.out.size
              go_upto_region 17 with (at_builtin; refine wpList_append_lies _ rfl _ _ 25 rfl base 2 il _ 1 8 Try.underlying25 HIL.out.1 HIL.out.2.1 HIL.out.2.2.1 HIL.out.2.2.2 rfl (by decide) p3 _ rC rfl (HOX.out.alloc _) ⟨wc1.heap.size, 0, none⟩ 1 1 [(.int .i64 z)] rfl rfl (World.news_of_block (heap_alloc_new wc1 _)) (by simp [Value.oneCell']) (by decide) (by have := HLN.out.2.1; unfold maxLen; omega) (by have := HLN.out.2.1; omega) (by rw [World.size_alloc]; have := HSZ.out; have := HBASE.out; omega) (wc1.heap.size + 1) (by simp) ?_; intro g2 cap_ w4 hown4 hgr4 hat4 hlt4; obtain ⟨⟨cc, ff⟩, hcm4, hfr4⟩ := HM1.out.grown (by have := HSZ.out; have := HBASE.out; omega) (i := 3) (v := p3) (e := 2) rfl rfl rfl hown4 hgr4 hat4; have HC4 := Lib.hid hcm4; have HR4' := Lib.hid hfr4; clear hown4 hgr4 hat4 hcm4 hfr4 hlt4; have cc' : w4.cell? ⟨cb, 6, none⟩ = some p3 := cc; have ff' : w4.frozen? ⟨cb, 6, none⟩ = false := ff; clear cc ff)
              obtain ⟨n2, hnv⟩ : ∃ V, V = Value.slice (some ⟨g2, 0, none⟩) ((rC).length + 1) cap_ := ⟨_, rfl⟩
              rw [← hnv] at HC4 HR4'
              obtain ⟨wc2, hnw⟩ : ∃ W, W = w4.setCell ⟨cb, 6, none⟩ n2 := ⟨_, rfl⟩
              have HM2 : Hid (CM wc2 base cb N S T [p0, n1, p2, n2, p4, p5] [rF, rH ++ [.int .i64 y], rR, rC ++ [.int .i64 z], rA, rB]) := Lib.hid (by rw [hnw]; exact HC4.out)
              have HR2' : Hid (Fr (cb :: (p3).ownBlock.toList) wc1 wc2) := Lib.hid (by rw [hnw]; exact HR4'.out)
              have HF2' := Lib.hid (fr_step HF1.out HBASE.out HGE.out HR2'.out)
              have HTY := Lib.hid HOX.out
              rw [← hnv, ← hnw]
              clear co HGE HSZ HC4 HR4' cc' ff' HOX hnv hnw
              have HAB2 := Lib.hid (arc_keep HAB1.out HTY.out (by decide) habc HR2'.out)
              clear HTY HR2' HAB1 HM1 HF1 a2
              have co := HM2.out.cell (i := 4) (v := p4) rfl
              have HOX := Lib.hid (HM2.out.own 4 p4 rA 3 rfl rfl rfl)
              have HGE := Lib.hid (own_ge HOX.out)
              have HSZ := Lib.hid HF2'.out.size
              go_upto_region 18 with (at_builtin; refine wpList_append_lies _ rfl _ _ 26 rfl base 3 ii _ 1 8 Try.underlying26 HII.out.1 HII.out.2.1 HII.out.2.2.1 HII.out.2.2.2 rfl (by decide) p4 _ rA rfl (HOX.out.alloc _) ⟨wc2.heap.size, 0, none⟩ 1 1 [(.int .i64 j)] rfl rfl (World.news_of_block (heap_alloc_new wc2 _)) (by simp [Value.oneCell']) (by decide) (by have := HLN.out.2.2.1; unfold maxLen; omega) (by have := HLN.out.2.2.1; omega) (by rw [World.size_alloc]; have := HSZ.out; have := HBASE.out; omega) (wc2.heap.size + 1) (by simp) ?_; intro g3 cap_ w4 hown4 hgr4 hat4 hlt4; obtain ⟨⟨cc, ff⟩, hcm4, hfr4⟩ := HM2.out.grown (by have := HSZ.out; have := HBASE.out; omega) (i := 4) (v := p4) (e := 3) rfl rfl rfl hown4 hgr4 hat4; have HC4 := Lib.hid hcm4; have HR4' := Lib.hid hfr4; clear hown4 hgr4 hat4 hcm4 hfr4 hlt4; have cc' : w4.cell? ⟨cb, 7, none⟩ = some p4 := cc; have ff' : w4.frozen? ⟨cb, 7, none⟩ = false := ff; clear cc ff)
              obtain ⟨n3, hnv⟩ : ∃ V, V = Value.slice (some ⟨g3, 0, none⟩) ((rA).length + 1) cap_ := ⟨_, rfl⟩
              rw [← hnv] at HC4 HR4'
              obtain ⟨wc3, hnw⟩ : ∃ W, W = w4.setCell ⟨cb, 7, none⟩ n3 := ⟨_, rfl⟩
              have HM3 : Hid (CM wc3 base cb N S T [p0, n1, p2, n2, n3, p5] [rF, rH ++ [.int .i64 y], rR, rC ++ [.int .i64 z], rA ++ [.int .i64 j], rB]) := Lib.hid (by rw [hnw]; exact HC4.out)
              have HR3 : Hid (Fr (cb :: (p4).ownBlock.toList) wc2 wc3) := Lib.hid (by rw [hnw]; exact HR4'.out)
              have HF3 := Lib.hid (fr_step HF2'.out HBASE.out HGE.out HR3.out)
              have HTY := Lib.hid HOX.out
              rw [← hnv, ← hnw]
              clear co HGE HSZ HC4 HR4' cc' ff' HOX hnv hnw
              have HAB3 := Lib.hid (arc_keep HAB2.out HTY.out (by decide) habc HR3.out)
              clear HTY HR3 HAB2 HM2 HF2'
              have co := HM3.out.cell (i := 5) (v := p5) rfl
              have HOX := Lib.hid (HM3.out.own 5 p5 rB 4 rfl rfl rfl)
              have HGE := Lib.hid (own_ge HOX.out)
              have HSZ := Lib.hid HF3.out.size
              go_upto_region 19 with (at_builtin; refine wpList_append_lies _ rfl _ _ 27 rfl base 4 ib _ 1 1 Try.underlying27 HIB.out.1 HIB.out.2.1 HIB.out.2.2.1 HIB.out.2.2.2 rfl (by decide) p5 _ rB rfl (HOX.out.alloc _) ⟨wc3.heap.size, 0, none⟩ 1 1 [(.bool false)] rfl rfl (World.news_of_block (heap_alloc_new wc3 _)) (by simp [Value.oneCell']) (by decide) (by have := HLN.out.2.2.2; unfold maxLen; omega) (by have := HLN.out.2.2.2; omega) (by rw [World.size_alloc]; have := HSZ.out; have := HBASE.out; omega) (wc3.heap.size + 1) (by simp) ?_; intro g4 cap_ w4 hown4 hgr4 hat4 hlt4; obtain ⟨⟨cc, ff⟩, hcm4, hfr4⟩ := HM3.out.grown (by have := HSZ.out; have := HBASE.out; omega) (i := 5) (v := p5) (e := 4) rfl rfl rfl hown4 hgr4 hat4; have HC4 := Lib.hid hcm4; have HR4' := Lib.hid hfr4; clear hown4 hgr4 hat4 hcm4 hfr4 hlt4; have cc' : w4.cell? ⟨cb, 8, none⟩ = some p5 := cc; have ff' : w4.frozen? ⟨cb, 8, none⟩ = false := ff; clear cc ff)
              obtain ⟨n4, hnv⟩ : ∃ V, V = Value.slice (some ⟨g4, 0, none⟩) ((rB).length + 1) cap_ := ⟨_, rfl⟩
              rw [← hnv] at HC4 HR4'
              obtain ⟨wc4, hnw⟩ : ∃ W, W = w4.setCell ⟨cb, 8, none⟩ n4 := ⟨_, rfl⟩
              have HM4 : Hid (CM wc4 base cb N S T [p0, n1, p2, n2, n3, n4] [rF, rH ++ [.int .i64 y], rR, rC ++ [.int .i64 z], rA ++ [.int .i64 j], rB ++ [.bool false]]) := Lib.hid (by rw [hnw]; exact HC4.out)
              have HR4 : Hid (Fr (cb :: (p5).ownBlock.toList) wc3 wc4) := Lib.hid (by rw [hnw]; exact HR4'.out)
              have HF4 := Lib.hid (fr_step HF3.out HBASE.out HGE.out HR4.out)
              have HTY := Lib.hid HOX.out
              rw [← hnv, ← hnw]
              clear co HGE HSZ HC4 HR4' cc' ff' HOX hnv hnw
              have HAB4 := Lib.hid (arc_keep HAB3.out HTY.out (by decide) habc HR4.out)
              have a1 := HAB4.out.cell (o := 1) rfl
              clear HTY HR4 HAB3 HM3 HF3
              have q1 : ((y : Int) == (x : Int)) = false := by simp; omega
              have q3 : (y == x) = false := by simp; omega
              go_wp2_with fail
              go_roundw
              case rel =>
                refine ⟨j + 1, p0, n1, p2, n2, n3, n4, by go_num, by omega, ?_, HF4.out⟩
                rw [HROW.out, show ent x j ⟨x, y, z⟩ = [⟨x, y, z, j, false⟩] by simp [ent, hxy, hyx], ← List.append_assoc, ← HEE.out, HAP.out]
                exact HM4.out
              case measure => simp [intOf]; omega
            · by_cases hyk : y = k
              · subst hyk
                have q1 : ((x : Int) == (y : Int)) = false := by simp; omega
                have q2 : ((x : Int) != (y : Int)) = true := by simp; omega
                have q3 : (x == y) = false := by simp; omega
                have q4 : (x != y) = true := by simp; omega
                have q5 : ((y : Int) == (y : Int)) = true := by simp
                have q6 : (y == y) = true := by simp
                go_upto_region 20 with (refine wpList_load_mid rfl _ _ rfl g (off + j * 3) rfl _ _ HR.out Try.underlying53 rfl (by kernel_rfl) ?_)
                obtain ⟨ab, hab0⟩ : ∃ b, b = wr.heap.size := ⟨_, rfl⟩
                obtain ⟨wb, hwb⟩ : ∃ W, W = wr.alloc (.cells #[.int .i64 x, .int .i64 y, .int .i64 z] 53) := ⟨_, rfl⟩
                rw [← hwb, ← hab0]
                have HMb : Hid (CM wb base cb N S T [p0, p1, p2, p3, p4, p5] [rF, rH, rR, rC, rA, rB]) := Lib.hid (by rw [hwb]; exact HM.out.fr0 ((Fr.refl _ _).alloc _))
                have HFb : Hid (Fr [cb] w2 wb) := Lib.hid (by rw [hwb]; exact HF.out.alloc _)
                have HAB : Hid (Blk wb ab [.int .i64 x, .int .i64 y, .int .i64 z] 53) := Lib.hid (by rw [hwb, hab0]; exact HAB0.out)
                clear HM HF HR HAB0 hab hwb hab0 d3 q1 q2 q3 q4 q5 q6
                have a0 := HAB.out.cell (o := 0) rfl
                have co := HMb.out.cell (i := 1) (v := p1) rfl
                have HOX := Lib.hid (HMb.out.own 1 p1 rH 3 rfl rfl rfl)
                have HGE := Lib.hid (own_ge HOX.out)
                have HSZ := Lib.hid HFb.out.size
                go_upto_region 21 with (at_builtin; refine wpList_append_lies _ rfl _ _ 26 rfl base 3 ii _ 1 8 Try.underlying26 HII.out.1 HII.out.2.1 HII.out.2.2.1 HII.out.2.2.2 rfl (by decide) p1 _ rH rfl (HOX.out.alloc _) ⟨wb.heap.size, 0, none⟩ 1 1 [(.int .i64 x)] rfl rfl (World.news_of_block (heap_alloc_new wb _)) (by simp [Value.oneCell']) (by decide) (by have := HLN.out.1; unfold maxLen; omega) (by have := HLN.out.1; omega) (by rw [World.size_alloc]; have := HSZ.out; have := HBASE.out; omega) (wb.heap.size + 1) (by simp) ?_; intro g1 cap_ w4 hown4 hgr4 hat4 hlt4; obtain ⟨⟨cc, ff⟩, hcm4, hfr4⟩ := HMb.out.grown (by have := HSZ.out; have := HBASE.out; omega) (i := 1) (v := p1) (e := 3) rfl rfl rfl hown4 hgr4 hat4; have HC4 := Lib.hid hcm4; have HR4' := Lib.hid hfr4; clear hown4 hgr4 hat4 hcm4 hfr4 hlt4; have cc' : w4.cell? ⟨cb, 4, none⟩ = some p1 := cc; have ff' : w4.frozen? ⟨cb, 4, none⟩ = false := ff; clear cc ff)
                obtain ⟨n1, hnv⟩ : ∃ V, V = Value.slice (some ⟨g1, 0, none⟩) ((rH).length + 1) cap_ := ⟨_, rfl⟩
                rw [← hnv] at HC4 HR4'
                obtain ⟨wc1, hnw⟩ : ∃ W, W = w4.setCell ⟨cb, 4, none⟩ n1 := ⟨_, rfl⟩
                have HM1 : Hid (CM wc1 base cb N S T [p0, n1, p2, p3, p4, p5] [rF, rH ++ [.int .i64 x], rR, rC, rA, rB]) := Lib.hid (by rw [hnw]; exact HC4.out)
                have HR1 : Hid (Fr (cb :: (p1).ownBlock.toList) wb wc1) := Lib.hid (by rw [hnw]; exact HR4'.out)
                have HF1 := Lib.hid (fr_step HFb.out HBASE.out HGE.out HR1.out)
                have HTY := Lib.hid HOX.out
                rw [← hnv, ← hnw]
                clear co HGE HSZ HC4 HR4' cc' ff' HOX hnv hnw
                clear HTY HR1 HAB HMb HFb a0
                have co := HM1.out.cell (i := 3) (v := p3) rfl
                have HOX := Lib.hid (HM1.out.own 3 p3 rC 2 rfl rfl rfl)
                have HGE := Lib.hid (own_ge HOX.out)
                have HSZ := Lib.hid HF1.out.size
                go_upto_region 22 with (at_builtin; refine wpList_append_lies _ rfl _ _ 25 rfl base 2 il _ 1 8 Try.underlying25 HIL.out.1 HIL.out.2.1 HIL.out.2.2.1 HIL.out.2.2.2 rfl (by decide) p3 _ rC rfl (HOX.out.alloc _) ⟨wc1.heap.size, 0, none⟩ 1 1 [(.int .i64 0)] rfl rfl (World.news_of_block (heap_alloc_new wc1 _)) (by simp [Value.oneCell']) (by decide) (by have := HLN.out.2.1; unfold maxLen; omega) (by have := HLN.out.2.1; omega) (by rw [World.size_alloc]; have := HSZ.out; have := HBASE.out; omega) (wc1.heap.size + 1) (by simp) ?_; intro g2 cap_ w4 hown4 hgr4 hat4 hlt4; obtain ⟨⟨cc, ff⟩, hcm4, hfr4⟩ := HM1.out.grown (by have := HSZ.out; have := HBASE.out; omega) (i := 3) (v := p3) (e := 2) rfl rfl rfl hown4 hgr4 hat4; have HC4 := Lib.hid hcm4; have HR4' := Lib.hid hfr4; clear hown4 hgr4 hat4 hcm4 hfr4 hlt4; have cc' : w4.cell? ⟨cb, 6, none⟩ = some p3 := cc; have ff' : w4.frozen? ⟨cb, 6, none⟩ = false := ff; clear cc ff)
                obtain ⟨n2, hnv⟩ : ∃ V, V = Value.slice (some ⟨g2, 0, none⟩) ((rC).length + 1) cap_ := ⟨_, rfl⟩
                rw [← hnv] at HC4 HR4'
                obtain ⟨wc2, hnw⟩ : ∃ W, W = w4.setCell ⟨cb, 6, none⟩ n2 := ⟨_, rfl⟩
                have HM2 : Hid (CM wc2 base cb N S T [p0, n1, p2, n2, p4, p5] [rF, rH ++ [.int .i64 x], rR, rC ++ [.int .i64 0], rA, rB]) := Lib.hid (by rw [hnw]; exact HC4.out)
                have HR2' : Hid (Fr (cb :: (p3).ownBlock.toList) wc1 wc2) := Lib.hid (by rw [hnw]; exact HR4'.out)
                have HF2' := Lib.hid (fr_step HF1.out HBASE.out HGE.out HR2'.out)
                have HTY := Lib.hid HOX.out
                rw [← hnv, ← hnw]
                clear co HGE HSZ HC4 HR4' cc' ff' HOX hnv hnw
                clear HTY HR2' HM1 HF1
                have co := HM2.out.cell (i := 4) (v := p4) rfl
                have HOX := Lib.hid (HM2.out.own 4 p4 rA 3 rfl rfl rfl)
                have HGE := Lib.hid (own_ge HOX.out)
                have HSZ := Lib.hid HF2'.out.size
                go_upto_region 23 with (at_builtin; refine wpList_append_lies _ rfl _ _ 26 rfl base 3 ii _ 1 8 Try.underlying26 HII.out.1 HII.out.2.1 HII.out.2.2.1 HII.out.2.2.2 rfl (by decide) p4 _ rA rfl (HOX.out.alloc _) ⟨wc2.heap.size, 0, none⟩ 1 1 [(.int .i64 j)] rfl rfl (World.news_of_block (heap_alloc_new wc2 _)) (by simp [Value.oneCell']) (by decide) (by have := HLN.out.2.2.1; unfold maxLen; omega) (by have := HLN.out.2.2.1; omega) (by rw [World.size_alloc]; have := HSZ.out; have := HBASE.out; omega) (wc2.heap.size + 1) (by simp) ?_; intro g3 cap_ w4 hown4 hgr4 hat4 hlt4; obtain ⟨⟨cc, ff⟩, hcm4, hfr4⟩ := HM2.out.grown (by have := HSZ.out; have := HBASE.out; omega) (i := 4) (v := p4) (e := 3) rfl rfl rfl hown4 hgr4 hat4; have HC4 := Lib.hid hcm4; have HR4' := Lib.hid hfr4; clear hown4 hgr4 hat4 hcm4 hfr4 hlt4; have cc' : w4.cell? ⟨cb, 7, none⟩ = some p4 := cc; have ff' : w4.frozen? ⟨cb, 7, none⟩ = false := ff; clear cc ff)
                obtain ⟨n3, hnv⟩ : ∃ V, V = Value.slice (some ⟨g3, 0, none⟩) ((rA).length + 1) cap_ := ⟨_, rfl⟩
                rw [← hnv] at HC4 HR4'
                obtain ⟨wc3, hnw⟩ : ∃ W, W = w4.setCell ⟨cb, 7, none⟩ n3 := ⟨_, rfl⟩
                have HM3 : Hid (CM wc3 base cb N S T [p0, n1, p2, n2, n3, p5] [rF, rH ++ [.int .i64 x], rR, rC ++ [.int .i64 0], rA ++ [.int .i64 j], rB]) := Lib.hid (by rw [hnw]; exact HC4.out)
                have HR3 : Hid (Fr (cb :: (p4).ownBlock.toList) wc2 wc3) := Lib.hid (by rw [hnw]; exact HR4'.out)
                have HF3 := Lib.hid (fr_step HF2'.out HBASE.out HGE.out HR3.out)
                have HTY := Lib.hid HOX.out
                rw [← hnv, ← hnw]
                clear co HGE HSZ HC4 HR4' cc' ff' HOX hnv hnw
                clear HTY HR3 HM2 HF2'
                have co := HM3.out.cell (i := 5) (v := p5) rfl
                have HOX := Lib.hid (HM3.out.own 5 p5 rB 4 rfl rfl rfl)
                have HGE := Lib.hid (own_ge HOX.out)
                have HSZ := Lib.hid HF3.out.size
                go_upto_region 11 with (at_builtin; refine wpList_append_lies _ rfl _ _ 27 rfl base 4 ib _ 1 1 Try.underlying27 HIB.out.1 HIB.out.2.1 HIB.out.2.2.1 HIB.out.2.2.2 rfl (by decide) p5 _ rB rfl (HOX.out.alloc _) ⟨wc3.heap.size, 0, none⟩ 1 1 [(.bool true)] rfl rfl (World.news_of_block (heap_alloc_new wc3 _)) (by simp [Value.oneCell']) (by decide) (by have := HLN.out.2.2.2; unfold maxLen; omega) (by have := HLN.out.2.2.2; omega) (by rw [World.size_alloc]; have := HSZ.out; have := HBASE.out; omega) (wc3.heap.size + 1) (by simp) ?_; intro g4 cap_ w4 hown4 hgr4 hat4 hlt4; obtain ⟨⟨cc, ff⟩, hcm4, hfr4⟩ := HM3.out.grown (by have := HSZ.out; have := HBASE.out; omega) (i := 5) (v := p5) (e := 4) rfl rfl rfl hown4 hgr4 hat4; have HC4 := Lib.hid hcm4; have HR4' := Lib.hid hfr4; clear hown4 hgr4 hat4 hcm4 hfr4 hlt4; have cc' : w4.cell? ⟨cb, 8, none⟩ = some p5 := cc; have ff' : w4.frozen? ⟨cb, 8, none⟩ = false := ff; clear cc ff)
                obtain ⟨n4, hnv⟩ : ∃ V, V = Value.slice (some ⟨g4, 0, none⟩) ((rB).length + 1) cap_ := ⟨_, rfl⟩
                rw [← hnv] at HC4 HR4'
                obtain ⟨wc4, hnw⟩ : ∃ W, W = w4.setCell ⟨cb, 8, none⟩ n4 := ⟨_, rfl⟩
                have HM4 : Hid (CM wc4 base cb N S T [p0, n1, p2, n2, n3, n4] [rF, rH ++ [.int .i64 x], rR, rC ++ [.int .i64 0], rA ++ [.int .i64 j], rB ++ [.bool true]]) := Lib.hid (by rw [hnw]; exact HC4.out)
                have HR4 : Hid (Fr (cb :: (p5).ownBlock.toList) wc3 wc4) := Lib.hid (by rw [hnw]; exact HR4'.out)
                have HF4 := Lib.hid (fr_step HF3.out HBASE.out HGE.out HR4.out)
                have HTY := Lib.hid HOX.out
                rw [← hnv, ← hnw]
                clear co HGE HSZ HC4 HR4' cc' ff' HOX hnv hnw
                clear HTY HR4 HM3 HF3
                go_wp2_with fail
                go_roundw
                case rel =>
                  refine ⟨j + 1, p0, n1, p2, n2, n3, n4, by go_num, by omega, ?_, HF4.out⟩
                  rw [HROW.out, show ent y j ⟨x, y, z⟩ = [⟨y, x, 0, j, true⟩] by simp [ent, hxy], ← List.append_assoc, ← HEE.out, HAP.out]
                  exact HM4.out
                case measure => simp [intOf]; omega
              · have q1 : ((x : Int) == (y : Int)) = false := by simp; omega
                have q2 : (x == y) = false := by simp; omega
                have q3 : ((x : Int) == (k : Int)) = false := by simp; omega
                have q4 : (x == k) = false := by simp; omega
                have q5 : ((y : Int) == (k : Int)) = false := by simp; omega
                have q6 : (y == k) = false := by simp; omega
                go_wp2_with (refine wpList_load_mid rfl _ _ rfl g (off + j * 3) rfl _ _ HR.out Try.underlying53 rfl (by kernel_rfl) ?_)
                go_roundw
                case rel =>
                  refine ⟨j + 1, p0, p1, p2, p3, p4, p5, by go_num, by omega, ?_, HF.out.alloc _⟩
                  rw [HROW.out, show ent k j ⟨x, y, z⟩ = [] by simp [ent, hxy, hxk, hyk], List.append_nil, ← HEE.out, HRW.out]
                  exact HM.out.fr0 ((Fr.refl _ _).alloc _)
                case measure => simp [intOf]; omega
        · have hjj : j = xs.length := by omega
          subst hjj
          go_wp2_with fail
          go_roundw
          case rel =>
            refine ⟨k + 1, p0, p1, p2, p3, p4, p5, by go_num, by omega, ?_, HF.out⟩
            rw [allTo, ← HEE.out, HRW.out]
            exact HM.out
          case measure => simp [intOf]; omega
    · have hkk : N = k := by omega
      subst hkk
      have e1 := HM.out.cell (i := 1) rfl
      have hlen := @len_allTo xs N
      obtain ⟨m, hm⟩ : ∃ m, m = (allTo xs N).length := ⟨_, rfl⟩
      have hlen1 : m ≤ 1280 := by rw [hm]; exact Nat.le_trans hlen (Nat.le_trans (Nat.mul_le_mul (by omega : N ≤ 16) (by omega : 2 * xs.length ≤ 80)) (by decide))
      have hf1 := @len_firstTo xs N
      obtain ⟨A1, k1, hv1⟩ := ownsRow_slice (HM.out.own 1 v1 _ _ rfl rfl rfl)
      rw [show (ints ((allTo xs N).map fun e => (e.hd : Int))).length = m by simp [ints, hm]] at hv1
      subst hv1
      have HL0 : Hid ((ints (natI (firstTo xs N))).length ≤ 100) := Lib.hid (by simp [ints, natI, hf1]; omega)
      have HMM := Lib.hid hm
      clear hlen hf1 hm
      go_upto_region 24 with (fail)
      have co := HM.out.cell (i := 0) (v := v0) rfl
      have HOX := Lib.hid (HM.out.own 0 v0 (ints (natI (firstTo xs N))) 3 rfl rfl rfl)
      have HGE := Lib.hid (own_ge HOX.out)
      have HSZ := Lib.hid HF.out.size
      go_upto_region 25 with (at_builtin; refine wpList_append_lies _ rfl _ _ 26 rfl base 3 ii _ 1 8 Try.underlying26 HII.out.1 HII.out.2.1 HII.out.2.2.1 HII.out.2.2.2 rfl (by decide) v0 _ (ints (natI (firstTo xs N))) rfl (HOX.out.alloc _) ⟨wr.heap.size, 0, none⟩ 1 1 [(.int .i64 m)] rfl rfl (World.news_of_block (heap_alloc_new wr _)) (by simp [Value.oneCell']) (by decide) (by have := HL0.out; unfold maxLen; omega) (by have := HL0.out; omega) (by rw [World.size_alloc]; have := HSZ.out; have := HBASE.out; omega) (wr.heap.size + 1) (by simp) ?_; intro g0 cap_ w4 hown4 hgr4 hat4 hlt4; obtain ⟨⟨cc, ff⟩, hcm4, hfr4⟩ := HM.out.grown (by have := HSZ.out; have := HBASE.out; omega) (i := 0) (v := v0) (e := 3) rfl rfl rfl hown4 hgr4 hat4; have HC4 := Lib.hid hcm4; have HR4' := Lib.hid hfr4; clear hown4 hgr4 hat4 hcm4 hfr4 hlt4; have cc' : w4.cell? ⟨cb, 3, none⟩ = some v0 := cc; have ff' : w4.frozen? ⟨cb, 3, none⟩ = false := ff; clear cc ff)
      obtain ⟨va, hnv⟩ : ∃ V, V = Value.slice (some ⟨g0, 0, none⟩) (((ints (natI (firstTo xs N)))).length + 1) cap_ := ⟨_, rfl⟩
      rw [← hnv] at HC4 HR4'
      obtain ⟨wa, hnw⟩ : ∃ W, W = w4.setCell ⟨cb, 3, none⟩ va := ⟨_, rfl⟩
      have HMA : Hid (CM wa base cb N S T [va, .slice A1 m k1, v2, v3, v4, v5] [ints (natI (firstTo xs N)) ++ [.int .i64 m], ints ((allTo xs N).map fun e => (e.hd : Int)), ints (natI []), ints ((allTo xs N).map (·.cap)), ints ((allTo xs N).map fun e => (e.arc : Int)), bools ((allTo xs N).map (·.back))]) := Lib.hid (by rw [hnw]; exact HC4.out)
      have HRA : Hid (Fr (cb :: (v0).ownBlock.toList) wr wa) := Lib.hid (by rw [hnw]; exact HR4'.out)
      have HFA := Lib.hid (fr_step HF.out HBASE.out HGE.out HRA.out)
      have HTY := Lib.hid HOX.out
      rw [← hnv, ← hnw]
      clear co HGE HSZ HC4 HR4' cc' ff' HOX hnv hnw
      clear e1 HM HF HB3 HRA HTY HL0
      obtain ⟨E, hE⟩ : ∃ E, E = allTo xs N := ⟨_, rfl⟩
      have HMI : Hid (CM wa base cb N S T [va, .slice A1 m k1, v2, v3, v4, v5] (rowsOf (firstTo xs (N + 1)) E (revTo E 0))) := Lib.hid (by
        rw [hE, firstTo, revTo, rows_first, ← HMM.out]; exact HMA.out)
      have HEE := Lib.hid hE
      have HME : Hid (m = E.length) := Lib.hid (by rw [hE]; exact HMM.out)
      clear HMA hE HMM
      obtain ⟨wo, rfl⟩ : ∃ wo : World, wo = wr := ⟨_, rfl⟩
      go_wp2_with fail
      go_loopw [9, 10] (fun i _ wr => ∃ (i' : Nat) (v0 v2 v3 v4 v5 : Value) (A1 : Option Addr) (k1 : Nat), i = .int .i64 i' ∧ i' ≤ m ∧ CM wr base cb N S T [v0, .slice A1 m k1, v2, v3, v4, v5] (rowsOf (firstTo xs (N + 1)) E (revTo E i')) ∧ Fr [cb] w2 wr) (fun i _ _ => m - (intOf i).toNat)
      case atStart => exact ⟨0, _, _, _, _, _, _, _, rfl, Nat.zero_le _, HMI.out, HFA.out⟩
      case round =>
        clear HMI HFA
        obtain ⟨i, p0, p2, p3, p4, p5, B1, b1, rfl, hi, hM, hF⟩ := hrel
        have HM := Lib.hid hM
        have HF := Lib.hid hF
        have e1 := hM.cell (i := 1) rfl
        clear hM hF
        by_cases him : i < m
        · have HMI : Hid (CM wr base cb N S T [p0, .slice B1 m b1, p2, p3, p4, p5] (rowsOf (firstTo xs (N + 1)) E (revTo E i ++ revRow E i 0))) := Lib.hid (by rw [revRow, List.append_nil]; exact HM.out)
          have HF0 := Lib.hid HF.out
          clear HM HF
          obtain ⟨wp, rfl⟩ : ∃ wp : World, wp = wr := ⟨_, rfl⟩
          go_wp2_with fail
          go_loopw [10] (fun j wr => ∃ (j' : Nat) (v0 v2 v3 v4 v5 : Value) (A1 : Option Addr) (k1 : Nat), j = .int .i64 j' ∧ j' ≤ m ∧ CM wr base cb N S T [v0, .slice A1 m k1, v2, v3, v4, v5] (rowsOf (firstTo xs (N + 1)) E (revTo E i ++ revRow E i j')) ∧ Fr [cb] w2 wr) (fun j _ => m - (intOf j).toNat)
          case atStart => exact ⟨0, _, _, _, _, _, _, _, rfl, Nat.zero_le _, HMI.out, HF0.out⟩
          case round =>
            clear HMI HF0 e1
            obtain ⟨j, p0, p2, p3, p4, p5, B1, b1, rfl, hj, hM, hF⟩ := hrel
            have HM := Lib.hid hM
            have HF := Lib.hid hF
            have e1 := hM.cell (i := 1) rfl
            clear hM hF
            by_cases hjm : j < m
            · obtain ⟨ei, hei⟩ : ∃ e, E[i]? = some e := ⟨_, List.getElem?_eq_getElem (by have := HME.out; omega)⟩
              obtain ⟨ej, hej⟩ : ∃ e, E[j]? = some e := ⟨_, List.getElem?_eq_getElem (by have := HME.out; omega)⟩
              have ho4 := HM.out.own 4 p4 _ _ rfl rfl rfl
              have hl4 : (ints (E.map fun e => (e.arc : Int))).length = m := by simp [ints, HME.out]
              obtain ⟨gA, cA, hp4, _, _⟩ := ho4.form (by omega)
              rw [hl4] at hp4
              subst hp4
              rw [hl4] at ho4
              have x1 := ho4.cellAt i (by omega)
              have x2 := ho4.cellAt j (by omega)
              rw [ints_get (x := (ei.arc : Int)) (by simp [hei])] at x1
              rw [ints_get (x := (ej.arc : Int)) (by simp [hej])] at x2
              have e4 := HM.out.cell (i := 4) rfl
              have i0 : (0 : Int) ≤ (i : Int) := by omega
              have i1 : (i : Int) < (m : Int) := by omega
              have j0 : (0 : Int) ≤ (j : Int) := by omega
              have j1 : (j : Int) < (m : Int) := by omega
              have HRV : Hid (revRow E i (j + 1) = revRow E i j ++ (if ei.arc = ej.arc ∧ i ≠ j then [j] else [])) := Lib.hid (by rw [revRow, hei, hej]; simp)
              have HLR : Hid ((ints (natI (revTo E i ++ revRow E i j))).length ≤ 2000000) := Lib.hid (by
                rw [ints_len, natI, List.length_map, List.length_append]
                have a1 := len_revTo_le E i
                have a2 := len_revRow_le E i j
                have a3 : i * E.length ≤ 1280 * 1280 := Nat.mul_le_mul (by omega) (by have := HME.out; omega)
                omega)
              clear ho4 hl4
              by_cases hij : i = j
              · subst hij
                rw [hei] at hej
                obtain rfl := Option.some.inj hej
                clear x2 hei hej
                go_upto_region 31 with (fail)
                go_cut [148] (fun s wx => s = .bool false ∧ Fr [] wr wx)
                case first =>
                  have q1 : (((i : Int) : Int) == ((i : Int) : Int)) = true := by simp
                  have q2 : (((i : Int) : Int) != ((i : Int) : Int)) = false := by simp
                  have q3 : ((i : Int) == (i : Int)) = true := by simp
                  have q4 : ((i : Int) != (i : Int)) = false := by simp
                  have q5 : ((ei.arc : Int) == (ei.arc : Int)) = true := by simp
                  have q6 : (ei.arc == ei.arc) = true := by simp
                  go_quiet (fail)
                  go_wp2_with fail
                  go_meet
                  exact ⟨rfl, (Fr.refl _ _).drewN _⟩
                case rest =>
                  obtain ⟨rfl, hFx⟩ := hcut
                  have HFX := Lib.hid hFx
                  clear hFx
                  go_wp2_with fail
                  go_roundw
                  case rel =>
                    refine ⟨i + 1, p0, p2, p3, .slice (some ⟨gA, 0, none⟩) m cA, p5, B1, b1, by go_num, by omega, ?_, HF.out.trans (HFX.out.more (by simp))⟩
                    rw [HRV.out, if_neg (by simp), List.append_nil]
                    exact HM.out.fr0 HFX.out
                  case measure => simp [intOf]; omega
              · clear hei hej
                by_cases harc : ei.arc = ej.arc
                · go_upto_region 31 with (fail)
                  go_cut [148] (fun s wx => s = .bool true ∧ Fr [] wr wx)
                  case first =>
                    have q1 : ((i : Int) == (j : Int)) = false := by simp; omega
                    have q2 : ((i : Int) != (j : Int)) = true := by simp; omega
                    have q3 : (i == j) = false := by simp; omega
                    have q4 : (i != j) = true := by simp; omega
                    have q5 : ((ei.arc : Int) == (ej.arc : Int)) = true := by simp [harc]
                    have q6 : (ei.arc == ej.arc) = true := by simp [harc]
                    clear harc
                    go_quiet (fail)
                    go_wp2_with fail
                    go_meet
                    exact ⟨rfl, (Fr.refl _ _).drewN _⟩
                  case rest =>
                    obtain ⟨rfl, hFx⟩ := hcut
                    have HMX : Hid (CM wc base cb N S T [p0, .slice B1 m b1, p2, p3, .slice (some ⟨gA, 0, none⟩) m cA, p5] (rowsOf (firstTo xs (N + 1)) E (revTo E i ++ revRow E i j))) := Lib.hid (HM.out.fr0 hFx)
                    have HFX := Lib.hid (HF.out.trans (hFx.more (S' := [cb]) (by simp)))
                    clear hFx x1 x2 e1 e4 HM HF
                    go_upto_region 32 with (fail)
                    have co := HMX.out.cell (i := 2) (v := p2) rfl
                    have HOX := Lib.hid (HMX.out.own 2 p2 (ints (natI (revTo E i ++ revRow E i j))) 3 rfl rfl rfl)
                    have HGE := Lib.hid (own_ge HOX.out)
                    have HSZ := Lib.hid HFX.out.size
                    go_upto_region 30 with (at_builtin; refine wpList_append_lies _ rfl _ _ 26 rfl base 3 ii _ 1 8 Try.underlying26 HII.out.1 HII.out.2.1 HII.out.2.2.1 HII.out.2.2.2 rfl (by decide) p2 _ (ints (natI (revTo E i ++ revRow E i j))) rfl (HOX.out.alloc _) ⟨wc.heap.size, 0, none⟩ 1 1 [(.int .i64 j)] rfl rfl (World.news_of_block (heap_alloc_new wc _)) (by simp [Value.oneCell']) (by decide) (by have := HLR.out; unfold maxLen; omega) (by have := HLR.out; omega) (by rw [World.size_alloc]; have := HSZ.out; have := HBASE.out; omega) (wc.heap.size + 1) (by simp) ?_; intro g0 cap_ w4 hown4 hgr4 hat4 hlt4; obtain ⟨⟨cc, ff⟩, hcm4, hfr4⟩ := HMX.out.grown (by have := HSZ.out; have := HBASE.out; omega) (i := 2) (v := p2) (e := 3) rfl rfl rfl hown4 hgr4 hat4; have HC4 := Lib.hid hcm4; have HR4' := Lib.hid hfr4; clear hown4 hgr4 hat4 hcm4 hfr4 hlt4; have cc' : w4.cell? ⟨cb, 5, none⟩ = some p2 := cc; have ff' : w4.frozen? ⟨cb, 5, none⟩ = false := ff; clear cc ff)
                    obtain ⟨vd, hnv⟩ : ∃ V, V = Value.slice (some ⟨g0, 0, none⟩) (((ints (natI (revTo E i ++ revRow E i j)))).length + 1) cap_ := ⟨_, rfl⟩
                    rw [← hnv] at HC4 HR4'
                    obtain ⟨wd, hnw⟩ : ∃ W, W = w4.setCell ⟨cb, 5, none⟩ vd := ⟨_, rfl⟩
                    have HMD : Hid (CM wd base cb N S T [p0, .slice B1 m b1, vd, p3, .slice (some ⟨gA, 0, none⟩) m cA, p5] [ints (natI (firstTo xs (N + 1))), ints (E.map fun e => (e.hd : Int)), ints (natI (revTo E i ++ revRow E i j)) ++ [.int .i64 j], ints (E.map (·.cap)), ints (E.map fun e => (e.arc : Int)), bools (E.map (·.back))]) := Lib.hid (by rw [hnw]; exact HC4.out)
                    have HRD : Hid (Fr (cb :: (p2).ownBlock.toList) wc wd) := Lib.hid (by rw [hnw]; exact HR4'.out)
                    have HFD := Lib.hid (fr_step HFX.out HBASE.out HGE.out HRD.out)
                    have HTY := Lib.hid HOX.out
                    rw [← hnv, ← hnw]
                    clear co HGE HSZ HC4 HR4' cc' ff' HOX hnv hnw
                    clear HTY HRD
                    go_wp2_with fail
                    go_roundw
                    case rel =>
                      refine ⟨j + 1, p0, vd, p3, .slice (some ⟨gA, 0, none⟩) m cA, p5, B1, b1, by go_num, by omega, ?_, HFD.out⟩
                      rw [HRV.out, if_pos ⟨harc, hij⟩, ← List.append_assoc, rows_rev]
                      exact HMD.out
                    case measure => simp [intOf]; omega
                · go_upto_region 31 with (fail)
                  go_cut [148] (fun s wx => s = .bool false ∧ Fr [] wr wx)
                  case first =>
                    have q5 : ((ei.arc : Int) == (ej.arc : Int)) = false := by simp; omega
                    have q6 : (ei.arc == ej.arc) = false := by simp; omega
                    clear harc
                    go_quiet (fail)
                    go_wp2_with fail
                    go_meet
                    exact ⟨rfl, (Fr.refl _ _).drewN _⟩
                  case rest =>
                    obtain ⟨rfl, hFx⟩ := hcut
                    have HFX := Lib.hid hFx
                    clear hFx
                    go_wp2_with fail
                    go_roundw
                    case rel =>
                      refine ⟨j + 1, p0, p2, p3, .slice (some ⟨gA, 0, none⟩) m cA, p5, B1, b1, by go_num, by omega, ?_, HF.out.trans (HFX.out.more (by simp))⟩
                      rw [HRV.out, if_neg (fun h => harc h.1), List.append_nil]
                      exact HM.out.fr0 HFX.out
                    case measure => simp [intOf]; omega
            · have hjj : j = m := by omega
              subst hjj
              go_wp2_with fail
              go_roundw
              case rel =>
                refine ⟨i + 1, p0, p2, p3, p4, p5, B1, b1, by go_num, by omega, ?_, HF.out⟩
                rw [revTo, ← HME.out]
                exact HM.out
              case measure => simp [intOf]; omega
        · have hii : i = m := by omega
          subst hii
          have hle := HME.out
          obtain ⟨q0, k0, hq0, s0, t0⟩ := HM.out.slices (i := 0) (n := N + 1) rfl rfl rfl (by simp [ints, natI, len_firstTo])
          obtain ⟨q1, k1', hq1, s1, t1⟩ := HM.out.slices (i := 1) (n := i) rfl rfl rfl (by simp [ints, hle])
          obtain ⟨q2, k2, hq2, s2, t2⟩ := HM.out.slices (i := 2) (n := i) rfl rfl rfl (by
            have h := (rev_spec (n := N) (fun a ha => ⟨(HX.out a ha).1, (HX.out a ha).2.1⟩) i (by rw [← HEE.out, ← hle]; exact Nat.le_refl _)).1
            rw [← HEE.out] at h
            rw [ints_len, natI, List.length_map, h])
          obtain ⟨q3, k3, hq3, s3, t3⟩ := HM.out.slices (i := 3) (n := i) rfl rfl rfl (by simp [ints, hle])
          obtain ⟨q4, k4, hq4, s4, t4⟩ := HM.out.slices (i := 4) (n := i) rfl rfl rfl (by simp [ints, hle])
          obtain ⟨q5, k5, hq5, s5, t5⟩ := HM.out.slices (i := 5) (n := i) rfl rfl rfl (by simp [bools, hle])
          simp only [Value.slice.injEq, true_and] at hq1
          obtain ⟨rfl, rfl⟩ := hq1
          subst hq0 hq2 hq3 hq4 hq5
          have hblk : Blk wr cb [.int .i64 N, .int .i64 S, .int .i64 T, .slice q0 (N + 1) k0, .slice B1 i b1, .slice q2 i k2, .slice q3 i k3, .slice q4 i k4, .slice q5 i k5] 29 := HM.out.blk
          have HBK := Lib.hid hblk
          have HRS := Lib.hid (HR2.out.fr HF.out (by simp; omega))
          have HS := Lib.hid (And.intro s0 (And.intro s1 (And.intro s2 (And.intro s3 (And.intro s4 s5)))))
          have HT := Lib.hid (And.intro t0 (And.intro t1 (And.intro t2 (And.intro t3 (And.intro t4 t5)))))
          clear s0 s1 s2 s3 s4 s5 t0 t1 t2 t3 t4 t5 hblk hle
          go_wp2_with (first | (refine wl_load rfl rfl rfl _ HBK.out Try.underlying29 rfl (by kernel_rfl) ?_) | ((refine wl_store rfl rfl [.int .i64 N, .int .i64 S, .int .i64 T, .slice q0 (N + 1) k0, .slice B1 i b1, .slice q2 i k2, .slice q3 i k3, .slice q4 i k4, .slice q5 i k5] rfl rfl HRS.out (by kernel_rfl) rfl rfl ?_)))
          refine ret_ct rfl rfl (HRS.out.row [.int .i64 N, .int .i64 S, .int .i64 T, .slice q0 (N + 1) k0, .slice B1 i b1, .slice q2 i k2, .slice q3 i k3, .slice q4 i k4, .slice q5 i k5]) Try.underlying29 rfl (by kernel_rfl) rfl ?_
          have hset : Fr [nb + 1] wr (wr.setRow (nb + 1) (#[.int .i64 N, .int .i64 S, .int .i64 T, .slice q0 (N + 1) k0, .slice B1 i b1, .slice q2 i k2, .slice q3 i k3, .slice q4 i k4, .slice q5 i k5] : Array Value)) := (Fr.refl _ _).setRow (.inl (by simp)) _
          obtain ⟨s0, s1, s2, s3, s4, s5⟩ := HS.out
          obtain ⟨t0, t1, t2, t3, t4, t5⟩ := HT.out
          have hE := HME.out
          have hEE := HEE.out
          have far : ∀ {q : Option Addr}, In base wr.heap.size q → ∀ g off sp, q = some ⟨g, off, sp⟩ → g ∉ [nb + 1] := fun h g off sp hq hm => by
            have := h g off sp hq
            simp at hm
            omega
          subst hE
          subst hEE
          have hrl : (natI (revTo (allTo xs N) (allTo xs N).length)).length = (allTo xs N).length := by
            rw [natI, List.length_map]
            exact (rev_spec (n := N) (fun a ha => ⟨(HX.out a ha).1, (HX.out a ha).2.1⟩) _ (Nat.le_refl _)).1
          refine ⟨q0, B1, q2, q3, q4, q5, k0, b1, k2, k3, k4, k5, rfl, ⟨?_, ?_, ?_, ?_, ?_, ?_⟩, CsrIn.wide ⟨t0, t1, t2, t3, t4, t5⟩ (by have := HNB.out; omega) (by rw [setRow_size]; exact Nat.le_refl _), ?_⟩
          · have h := s0.fr hset (far t0)
            unfold SlI
            rw [show (Net.first ⟨N, S, T, xs⟩).length = N + 1 by simp [Net.first, natI, len_firstTo]]
            exact h
          · have h := s1.fr hset (far t1)
            unfold SlI
            rw [show (Net.head ⟨N, S, T, xs⟩).length = (allTo xs N).length by simp [Net.head, Net.E]]
            exact h
          · have h := s2.fr hset (far t2)
            unfold SlI
            rw [show (Net.rev ⟨N, S, T, xs⟩).length = (allTo xs N).length from hrl]
            exact h
          · have h := s3.fr hset (far t3)
            unfold SlI
            rw [show (Net.cap ⟨N, S, T, xs⟩).length = (allTo xs N).length by simp [Net.cap, Net.E]]
            exact h
          · have h := s4.fr hset (far t4)
            unfold SlI
            rw [show (Net.arc ⟨N, S, T, xs⟩).length = (allTo xs N).length by simp [Net.arc, Net.E]]
            exact h
          · have h := s5.fr hset (far t5)
            unfold SlB
            rw [show (Net.back ⟨N, S, T, xs⟩).length = (allTo xs N).length by simp [Net.back, Net.E]]
            exact h
          · exact ((HF2.out.more (S' := [cb, nb + 1]) (by simp)).trans ((HF.out.more (by simp)).trans (hset.more (by simp)))).less (by simp; have := HNB.out; omega)

theorem make_any (G : Net) (hG : G.Ok) (A : Option Addr) (c : Nat) (w : World) (h : NetV w G A c) : Calls Try.prog 20 #[.agg (netCells G A c).toArray] w (MadeOk G w) :=
  make_core G.N G.S G.T A c G.ar w h.arcs hG.many hG.ends hG.n2 hG.n16 hG.s hG.t hG.st
end Acq
