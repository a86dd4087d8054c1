/- The chapter's examples. -/
import Derived.Test.YthgjkdgdmpffmaaCNew
set_option linter.unusedSimpArgs false
set_option linter.unusedVariables false
namespace Acq
open Go Go.RowKit Go.Proofs

section
variable {w : World} {ca oa pb ab ci si : Nat} {vals : List Int} {wk : Int} {xs : List Value} {T : TypeId}

/-- A step, whatever the stage. -/
theorem Step_any {a : ArrS} (hA : ArrL xs oa ci si wk a) (hnx : a.nx = 0 ∨ a.nx = 1 ∨ a.nx = 2 ∨ a.nx = 3 ∨ a.nx = 4) (hb : Blk w ca xs T) (hB : Bank w pb ab vals) (hp : pb ≠ ca) (ha : ab ≠ ca)
    (c s : Int) (hc : vals[ci]? = some c) (hs : vals[si]? = some s) (hc0 : -9223372036854775807 ≤ c) (hc1 : c ≤ 9223372036854775807) :
    Calls Try.prog 14 #[.pointer (some ⟨ca, oa, none⟩), .pointer (some ⟨pb, 0, none⟩)] w (StepPost ca oa pb ab xs T w (arrStep ci si wk a vals)) := by
  have hcl := (List.getElem?_eq_some_iff.1 hc).1
  have hsl := (List.getElem?_eq_some_iff.1 hs).1
  obtain ⟨nx, ow, lst⟩ := a
  simp only at hnx
  rcases hnx with rfl | rfl | rfl | rfl | rfl
  · by_cases h0 : s = 0
    · subst h0
      have e : arrStep ci si wk ⟨0, ow, lst⟩ vals = (⟨1, 1, lst⟩, vals) := by simp [arrStep, hs]
      rw [e]; exact Step_look_zero hA hb hB hp ha hs
    · have e : arrStep ci si wk ⟨0, ow, lst⟩ vals = (⟨1, 0, lst⟩, vals) := by simp [arrStep, hs, h0]
      rw [e]; exact Step_look_one hA hb hB hp ha s hs h0
  · by_cases h0 : c = 1
    · subst h0
      have e : arrStep ci si wk ⟨1, ow, lst⟩ vals = (⟨2, ow, true⟩, vals.set ci 0) := by simp [arrStep, hc]
      rw [e]; exact Step_come_end hA hb hB hp ha hc
    · have e : arrStep ci si wk ⟨1, ow, lst⟩ vals = (⟨4, ow, false⟩, vals.set ci (c - 1)) := by simp [arrStep, hc, h0]
      rw [e]; exact Step_come_more hA hb hB hp ha c hc hc0 hc1 h0
  · have e : arrStep ci si wk ⟨2, ow, lst⟩ vals = (⟨3, ow, lst⟩, vals.set ci wk) := by simp [arrStep]
    rw [e]; exact Step_reset hA hb hB hp ha hcl
  · have e : arrStep ci si wk ⟨3, ow, lst⟩ vals = (⟨5, ow, lst⟩, vals.set si ow) := by simp [arrStep]
    rw [e]; exact Step_turn hA hb hB hp ha hsl
  · by_cases h0 : s = ow
    · subst h0
      have e : arrStep ci si wk ⟨4, s, lst⟩ vals = (⟨5, s, lst⟩, vals) := by simp [arrStep, hs]
      rw [e]; exact Step_wait_yes hA hb hB hp ha hs
    · have e : arrStep ci si wk ⟨4, ow, lst⟩ vals = (⟨4, ow, lst⟩, vals) := by simp [arrStep, hs, h0]
      rw [e]; exact Step_wait_no hA hb hB hp ha s hs h0

end

/-- The run of the first, and then of the second worker of two. -/
def xRun : Nat → ArrS × List Int
  | 0 => (⟨0, 0, false⟩, bank14 2)
  | k + 1 => arrStep 9 10 2 (xRun k).1 (xRun k).2

def yRun : Nat → ArrS × List Int
  | 0 => (⟨0, 0, false⟩, (xRun 5).2)
  | k + 1 => arrStep 9 10 2 (yRun k).1 (yRun k).2

theorem xRun_ok : ∀ k, k < 5 → ((xRun k).1.nx = 0 ∨ (xRun k).1.nx = 1 ∨ (xRun k).1.nx = 2 ∨ (xRun k).1.nx = 3 ∨ (xRun k).1.nx = 4) ∧ (xRun (k + 1)).1.nx ≠ 5 ∧ (∃ c, (xRun k).2[9]? = some c ∧ 0 ≤ c ∧ c ≤ 2) ∧ ∃ s, (xRun k).2[10]? = some s := by
  intro k hk
  have : k = 0 ∨ k = 1 ∨ k = 2 ∨ k = 3 ∨ k = 4 := by omega
  rcases this with rfl | rfl | rfl | rfl | rfl <;> exact ⟨by decide, by decide, ⟨_, rfl, by decide, by decide⟩, ⟨_, rfl⟩⟩

theorem yRun_ok : ∀ k, k < 4 → ((yRun k).1.nx = 0 ∨ (yRun k).1.nx = 1 ∨ (yRun k).1.nx = 2 ∨ (yRun k).1.nx = 3 ∨ (yRun k).1.nx = 4) ∧ ((yRun (k + 1)).1.nx = 5 ↔ k = 3) ∧ (∃ c, (yRun k).2[9]? = some c ∧ 0 ≤ c ∧ c ≤ 2) ∧ ∃ s, (yRun k).2[10]? = some s := by
  intro k hk
  have : k = 0 ∨ k = 1 ∨ k = 2 ∨ k = 3 := by omega
  rcases this with rfl | rfl | rfl | rfl <;> exact ⟨by decide, by decide, ⟨_, rfl, by decide, by decide⟩, ⟨_, rfl⟩⟩

theorem putAt_whole (cs xs : List Value) (h : xs.length = cs.length) : putAt xs 0 cs = cs := by
  apply List.ext_getElem?
  intro k
  rw [putAt_get _ _ _ _ (by omega)]
  by_cases hk : k < cs.length
  · rw [if_pos (by omega)]; rfl
  · rw [if_neg (by omega), List.getElem?_eq_none (by omega), List.getElem?_eq_none (by omega)]

theorem putArr_put (xs : List Value) (oa : Nat) (a b : ArrS) : putArr (putArr xs oa a) oa b = putArr xs oa b := by
  simp only [putArr]
  apply List.ext_getElem?
  intro j
  simp only [List.getElem?_set, List.length_set]
  split <;> (try rfl) <;> split <;> (try rfl) <;> split <;> rfl

def arr0 : List Value := [.int .i64 0, .int .i64 0, .int .i64 0, .int .i64 0, .int .i64 0, .int .i64 0, .int .i64 0, .int .i64 0, .int .i64 0, .int .i64 0, .int .i64 0, .int .i64 0, .int .i64 0, .int .i64 0, .int .u8 0, .int .i64 0, .bool false]

/-- What the region that makes both workers has done so far. -/
structure Made2 (l : Nat → Bool) (vs : Nat → Value) (ar : List Value) (w0 w : World) : Prop where
  h1 : l 1 = true → vs 1 = .agg ar.toArray
  h3 : l 3 = true → vs 3 = .agg ar.toArray
  h4 : l 4 = true → ∃ b, vs 4 = .pointer (some ⟨b, 0, none⟩) ∧ Blk w b arr0 46 ∧ w0.heap.size ≤ b
  h5 : l 5 = true → ∃ b, vs 5 = .pointer (some ⟨b, 0, none⟩) ∧ Blk w b arr0 46 ∧ w0.heap.size ≤ b
  ne : l 4 = true → l 5 = true → vs 4 ≠ vs 5
  fr : Fr [] w0 w

set_option maxHeartbeats 400000 in
theorem awake_any (w : World) : Calls Try.prog 8 #[] w fun e w' => e = .returned (.bool true) ∧ Below w.heap.size w w' := by
  go_enter Try.func8, Try.ntmps8
  go_wp2_with fail
  refine (bank_any 2 (by omega) (by omega) _).mono ?_
  rintro e w1 ⟨pb, ab, rfl, hB1, hp1, ha1, hF1⟩
  have hls : Hid ((lay14 2).cells.length = 14) := Lib.hid rfl
  have hzl := hB1.lt
  have bl := Blk.new w1 (lay14 2).cells 28
  have hB2 := hB1.alloc (.cells (lay14 2).cells.toArray 28)
  have hF2 := hF1.alloc (.cells (lay14 2).cells.toArray 28)
  clear hB1
  go_wp2_with (first | (refine wl_store_new rfl rfl (lay14 2).cells (by simp) rfl rfl (by kernel_rfl) (by rfl) (by rfl) ?_))
  generalize hw2 : w1.alloc (.cells (lay14 2).cells.toArray 28) = w2 at bl hB2 hF2 ⊢
  have HW2 := Lib.hid hw2
  clear hw2
  have hzw : w1.heap.size < w2.heap.size := bl.lt
  refine wr_begin [6] (fun W => Blk W w1.heap.size (lay14 2).cells 28) (by kernel_rfl) bl.drew ?_
  refine wr_read 0 _ rfl (by kernel_rfl) (by kernel_rfl) (by kernel_rfl) (fun _ _ _ h => h) (by kernel_rfl) (by kernel_rfl) (by rfl) (fun _ hF => exec_load_row rfl rfl hF Try.underlying28 rfl (by kernel_rfl)) ?_
  try simp only [Act.put, List.setIfInBounds_toArray, List.set_cons_zero, List.set_cons_succ]
  refine wr_read 2 _ rfl (by kernel_rfl) (by kernel_rfl) (by kernel_rfl) (fun _ _ _ h => h) (by kernel_rfl) (by kernel_rfl) (by rfl) (fun _ hF => exec_load_row rfl rfl hF Try.underlying28 rfl (by kernel_rfl)) ?_
  try simp only [Act.put, List.setIfInBounds_toArray, List.set_cons_zero, List.set_cons_succ]
  refine wr_groupV (fuel := 2) [(1, 15), (3, 17), (4, 4), (5, 5)] (fun l vs W => Made2 l vs (lay14 2).arr w2 W) (by kernel_rfl) (by decide) (by decide) (by kernel_rfl) (by kernel_rfl) (by kernel_rfl) ?_ ?_ ?_
  · intro l hl _
    have n1 : l 1 = false := hl 1 (by simp)
    have n3 : l 3 = false := hl 3 (by simp)
    have n4 : l 4 = false := hl 4 (by simp)
    have n5 : l 5 = false := hl 5 (by simp)
    exact Made2.mk (by simp [n1]) (by simp [n3]) (by simp [n4]) (by simp [n5]) (by simp [n4]) (Fr.drew (Fr.refl _ _))
  · intro x hx l vs W hd hu hF hJ K hK
    simp only [List.mem_cons, List.not_mem_nil, or_false] at hx
    rcases hx with rfl | rfl | rfl | rfl
    · refine wpOp_of 1 rfl rfl (wp_call (f := 12) (args := #[.agg (lay14 2).cells.toArray]) (by kernel_rfl) (NewArrive_any (lay14 2) W) (fun e w' h => ⟨_, h.1, hK _ _ (Blk.fr hF h.2 (by simp)) ?_⟩))
      have hf := h.2
      refine Made2.mk (fun _ => rfl) (fun hl => hJ.h3 hl) (fun hl => ?_) (fun hl => ?_) (fun h1 h2 => hJ.ne h1 h2) (hJ.fr.trans hf)
      · obtain ⟨b, e, hb, hlt⟩ := hJ.h4 hl; exact ⟨b, e, hb.fr hf (by simp), hlt⟩
      · obtain ⟨b, e, hb, hlt⟩ := hJ.h5 hl; exact ⟨b, e, hb.fr hf (by simp), hlt⟩
    · refine wpOp_of 3 rfl rfl (wp_call (f := 12) (args := #[.agg (lay14 2).cells.toArray]) (by kernel_rfl) (NewArrive_any (lay14 2) W) (fun e w' h => ⟨_, h.1, hK _ _ (Blk.fr hF h.2 (by simp)) ?_⟩))
      have hf := h.2
      refine Made2.mk (fun hl => hJ.h1 hl) (fun _ => rfl) (fun hl => ?_) (fun hl => ?_) (fun h1 h2 => hJ.ne h1 h2) (hJ.fr.trans hf)
      · obtain ⟨b, e, hb, hlt⟩ := hJ.h4 hl; exact ⟨b, e, hb.fr hf (by simp), hlt⟩
      · obtain ⟨b, e, hb, hlt⟩ := hJ.h5 hl; exact ⟨b, e, hb.fr hf (by simp), hlt⟩
    · have hz := hJ.fr.size
      refine wpOp_of 4 rfl rfl (wp_run (v := .pointer (some ⟨W.heap.size, 0, none⟩)) (w' := W.alloc (.cells arr0.toArray 46)) (by kernel_rfl) (hK _ _ (hF.alloc _) ?_))
      refine Made2.mk (fun hl => hJ.h1 hl) (fun hl => hJ.h3 hl) (fun _ => ⟨_, rfl, Blk.new _ _ _, hz⟩) (fun hl => ?_) (fun _ h2 => ?_) (hJ.fr.alloc _)
      · obtain ⟨b, e, hb, hlt⟩ := hJ.h5 hl; exact ⟨b, e, hb.alloc _, hlt⟩
      · obtain ⟨b, e, hb, hlt⟩ := hJ.h5 h2
        show Value.pointer _ ≠ vs 5
        rw [e]
        have := hb.lt
        simp; try omega
    · have hz := hJ.fr.size
      refine wpOp_of 5 rfl rfl (wp_run (v := .pointer (some ⟨W.heap.size, 0, none⟩)) (w' := W.alloc (.cells arr0.toArray 46)) (by kernel_rfl) (hK _ _ (hF.alloc _) ?_))
      refine Made2.mk (fun hl => hJ.h1 hl) (fun hl => hJ.h3 hl) (fun hl => ?_) (fun _ => ⟨_, rfl, Blk.new _ _ _, hz⟩) (fun h1 _ => ?_) (hJ.fr.alloc _)
      · obtain ⟨b, e, hb, hlt⟩ := hJ.h4 hl; exact ⟨b, e, hb.alloc _, hlt⟩
      · obtain ⟨b, e, hb, hlt⟩ := hJ.h4 h1
        show vs 4 ≠ Value.pointer _
        rw [e]
        have := hb.lt
        simp; try omega
  · intro l vs W hl hJ hF
    have e1 := hJ.h1 (hl 1 (by simp))
    have e3 := hJ.h3 (hl 3 (by simp))
    obtain ⟨bx, ex, hbx, hlx⟩ := hJ.h4 (hl 4 (by simp))
    obtain ⟨by_, ey, hby, hly⟩ := hJ.h5 (hl 5 (by simp))
    have hne := hJ.ne (hl 4 (by simp)) (hl 5 (by simp))
    have hxy : bx ≠ by_ := by rw [ex, ey] at hne; simpa using hne
    have hfr := hJ.fr
    clear hJ hne hl
    simp only [putAll]
    try simp only [Act.put, List.setIfInBounds_toArray, List.set_cons_zero, List.set_cons_succ]
    rw [e1, e3, ex, ey]
    clear e1 e3 ex ey
    refine wr_do 6 rfl (by kernel_rfl) (by rfl) (fun K hK => ?_)
    refine wp_store_mid _ _ _ rfl bx 0 (lay14 2).arr.toArray rfl rfl (hbx.there 0 17 (by decide)) (by kernel_rfl) (by kernel_rfl) ?_
    refine hK _ _ ⟨Still.off 6 (by kernel_rfl) (by kernel_rfl), ?_⟩
    try simp only [Act.put, List.setIfInBounds_toArray, List.set_cons_zero, List.set_cons_succ]
    have hbx2 : Blk (W.setCells bx 0 (lay14 2).arr.toArray.toList) bx (lay14 2).arr 46 := by
      have := Blk.setCells (lay14 2).arr 0 hbx
      rw [putAt_whole (lay14 2).arr arr0 rfl] at this; exact this
    have hby2 : Blk (W.setCells bx 0 (lay14 2).arr.toArray.toList) by_ arr0 46 := hby.fr (S := [bx]) (Fr.setCells (by simp) _ _ (Fr.refl _ _)) (by simp; omega)
    have hF2' : Fr [bx, by_] w2 (W.setCells bx 0 (lay14 2).arr.toArray.toList) := Fr.setCells (by simp) _ _ (hfr.more (by simp))
    generalize W.setCells bx 0 (lay14 2).arr.toArray.toList = W2 at hbx2 hby2 hF2' ⊢
    clear hbx hby hfr hF
    refine wr_do 7 rfl (by kernel_rfl) (by rfl) (fun K hK => ?_)
    refine wp_store_mid _ _ _ rfl by_ 0 (lay14 2).arr.toArray rfl rfl (hby2.there 0 17 (by decide)) (by kernel_rfl) (by kernel_rfl) ?_
    have hby3 : Blk (W2.setCells by_ 0 (lay14 2).arr.toArray.toList) by_ (lay14 2).arr 46 := by
      have := Blk.setCells (lay14 2).arr 0 hby2
      rw [putAt_whole (lay14 2).arr arr0 rfl] at this; exact this
    have hbx3 : Blk (W2.setCells by_ 0 (lay14 2).arr.toArray.toList) bx (lay14 2).arr 46 := hbx2.fr (S := [by_]) (Fr.setCells (by simp) _ _ (Fr.refl _ _)) (by simp; omega)
    have hF3 : Fr [bx, by_] w2 (W2.setCells by_ 0 (lay14 2).arr.toArray.toList) := Fr.setCells (by simp) _ _ hF2'
    generalize W2.setCells by_ 0 (lay14 2).arr.toArray.toList = w3 at hbx3 hby3 hF3 ⊢
    clear hbx2 hby2 hF2'
    refine hK _ _ ⟨Still.off 6 (by kernel_rfl) (by kernel_rfl), ?_⟩
    try simp only [Act.put, List.setIfInBounds_toArray, List.set_cons_zero, List.set_cons_succ]
    refine wr_done (by kernel_rfl) ?_ _
    have hB3 := hB2.fr hF3 (by simp; omega) (by simp; omega)
    have hl3 := bl.fr hF3 (by simp; omega)
    have hG3 : Below w.heap.size w w3 := by
      refine ((hF2.more (S' := [bx, by_]) (by simp)).trans hF3).below ?_ (Nat.le_refl _)
      have := hF2.size
      simp; omega
    have hxp : pb ≠ bx ∧ ab ≠ bx ∧ pb ≠ by_ ∧ ab ≠ by_ ∧ w1.heap.size ≠ bx ∧ w1.heap.size ≠ by_ ∧ w.heap.size ≤ bx ∧ w.heap.size ≤ by_ := by
      have := hF2.size
      omega
    clear hF3 hB2 bl hF2 HW2 hly hlx hzw
    obtain ⟨hxp1, hxp2, hxp3, hxp4, hxp5, hxp6, hxp7, hxp8⟩ := hxp
    have HA : Hid (∀ k, ArrL (putArr (lay14 2).arr 0 (xRun k).1) 0 9 10 2 (xRun k).1) := Lib.hid fun k => ArrL.put (a := ⟨0, 0, false⟩) ⟨rfl, rfl, rfl, rfl, rfl, rfl⟩ _
    have HAy : Hid (∀ k, ArrL (putArr (lay14 2).arr 0 (yRun k).1) 0 9 10 2 (yRun k).1) := Lib.hid fun k => ArrL.put (a := ⟨0, 0, false⟩) ⟨rfl, rfl, rfl, rfl, rfl, rfl⟩ _
    go_wp2_with fail
    go_loopw [18] (fun i wr => ∃ k : Nat, k ≤ 5 ∧ i = .int .i64 k ∧ Blk wr bx (putArr (lay14 2).arr 0 (xRun k).1) 46 ∧ Bank wr pb ab (xRun k).2 ∧ Fr [bx, ab] w3 wr) (fun i _ => 5 - (intOf i).toNat)
    case atStart => exact ⟨0, by omega, rfl, hbx3, hB3, Fr.refl _ _⟩
    case round =>
      obtain ⟨k, hk, rfl, hxr, hBr, hFr⟩ := hrel
      by_cases hk5 : k < 5
      · obtain ⟨h1, h2, ⟨c, hc, hc0, hc1⟩, ⟨s, hs⟩⟩ := xRun_ok k hk5
        have hd : decide ((xRun (k + 1)).1.nx = 5) = false := by simp [h2]
        have HC := Lib.hid hc
        have HS := Lib.hid hs
        have H1 := Lib.hid h1
        clear hc hs h1 h2
        go_wp2_with fail
        refine (Step_any (HA.out k) H1.out hxr hBr hxp1 hxp2 c s HC.out HS.out (by omega) (by omega)).mono ?_
        rintro e w4 ⟨he, hx4, hB4, hF4⟩
        rw [show arrStep 9 10 2 (xRun k).1 (xRun k).2 = xRun (k + 1) from rfl] at he hx4 hB4
        rw [putArr_put] at hx4
        rw [hd] at he
        subst he
        go_wp2_with fail
        go_roundw
        case rel => exact ⟨k + 1, by omega, by go_num, hx4, hB4, hFr.trans hF4⟩
        case measure => simp [intOf]; omega
      · obtain rfl : k = 5 := by omega
        have hyr := hby3.fr hFr (by simp; omega)
        have hlr := hl3.fr hFr (by simp; omega)
        have hGr : Below w.heap.size w wr := hG3.trans (hFr.below (by simp; omega) (by have := hG3.size; omega))
        have hs3 := hFr.size
        obtain ⟨wo, rfl⟩ : ∃ wo : World, wo = wr := ⟨_, rfl⟩
        rw [show ((5 : Nat) : Int) = 5 from rfl]
        go_wp2_with fail
        go_loopw [6, 23] (fun _ i wq => ∃ k : Nat, k ≤ 4 ∧ i = .int .i64 k ∧ Blk wq by_ (putArr (lay14 2).arr 0 (yRun k).1) 46 ∧ Bank wq pb ab (yRun k).2 ∧ Fr [by_, ab] wo wq) (fun _ i _ => 4 - (intOf i).toNat)
        case atStart => exact ⟨0, by omega, rfl, hyr, hBr, Fr.refl _ _⟩
        case round =>
          obtain ⟨k, hk, rfl, hyq, hBq, hFq⟩ := hrel
          by_cases hk4 : k < 4
          · obtain ⟨h1, h2, ⟨c, hc, hc0, hc1⟩, ⟨s, hs⟩⟩ := yRun_ok k hk4
            have HC := Lib.hid hc
            have HS := Lib.hid hs
            have H1 := Lib.hid h1
            by_cases hk3 : k = 3
            · subst hk3
              have hd : decide ((yRun (3 + 1)).1.nx = 5) = true := by simp [h2]
              clear hc hs h1 h2
              go_wp2_with fail
              refine (Step_any (HAy.out 3) H1.out hyq hBq hxp3 hxp4 c s HC.out HS.out (by omega) (by omega)).mono ?_
              rintro e w4 ⟨he, hx4, hB4, hF4⟩
              rw [show arrStep 9 10 2 (yRun 3).1 (yRun 3).2 = yRun (3 + 1) from rfl] at he hx4 hB4
              rw [putArr_put] at hx4
              rw [hd] at he
              subst he
              go_wp2_with fail
              go_roundw
              case rel => exact ⟨3 + 1, by omega, by go_num, hx4, hB4, hFq.trans hF4⟩
              case measure => simp [intOf]
            · have hd : decide ((yRun (k + 1)).1.nx = 5) = false := by simp [h2, hk3]
              have hz : ((k : Int) == 3) = false := by simp; omega
              clear hc hs h1 h2
              go_wp2_with fail
              refine (Step_any (HAy.out k) H1.out hyq hBq hxp3 hxp4 c s HC.out HS.out (by omega) (by omega)).mono ?_
              rintro e w4 ⟨he, hx4, hB4, hF4⟩
              rw [show arrStep 9 10 2 (yRun k).1 (yRun k).2 = yRun (k + 1) from rfl] at he hx4 hB4
              rw [putArr_put] at hx4
              rw [hd] at he
              subst he
              go_wp2_with fail
              go_roundw
              case rel => exact ⟨k + 1, by omega, by go_num, hx4, hB4, hFq.trans hF4⟩
              case measure => simp [intOf]; omega
          · obtain rfl : k = 4 := by omega
            have hxq := hxr.fr hFq (by simp; omega)
            have hlq := hlr.fr hFq (by simp; omega)
            have hGq : Below w.heap.size w wr := hGr.trans (hFq.below (by simp; omega) (by have := hGr.size; omega))
            go_wp2_with fail
            refine (Last_any (HAy.out 4) hyq).mono ?_
            rintro e w5 ⟨he, rfl⟩
            rw [show (yRun 4).1.lst = true from rfl] at he
            subst he
            go_wp2_with fail
            refine (Last_any (HA.out 5) hxq).mono ?_
            rintro e w5 ⟨he, rfl⟩
            rw [show (xRun 5).1.lst = false from rfl] at he
            subst he
            go_wp2_with fail
            refine (Step_any (HA.out 5) (by decide) hxq hBq hxp1 hxp2 2 1 rfl rfl (by omega) (by omega)).mono ?_
            rintro e w6 ⟨he, hx6, hB6, hF6⟩
            rw [show arrStep 9 10 2 (xRun 5).1 (yRun 4).2 = (⟨5, 1, false⟩, (yRun 4).2) from rfl] at he hx6 hB6
            rw [show decide (((⟨5, 1, false⟩, (yRun 4).2) : ArrS × List Int).1.nx = 5) = true from rfl] at he
            subst he
            have hl6 := hlq.fr hF6 (by simp; omega)
            have hG6 : Below w.heap.size w w6 := hGq.trans (hF6.below (by simp; omega) (by have := hGq.size; omega))
            have c10 := hl6.cell (o := 10) (v := .int .i64 9) rfl
            have c11 := hl6.cell (o := 11) (v := .int .i64 10) rfl
            go_wp2_with fail
            refine (load_bank hB6 9 2 (by omega) rfl).mono ?_
            rintro e w7 ⟨rfl, rfl⟩
            go_wp2_with fail
            refine (load_bank hB6 10 1 (by omega) rfl).mono ?_
            rintro e w7 ⟨rfl, rfl⟩
            go_wp2_with fail
            go_ret
            exact ⟨rfl, hG6⟩

end Acq
