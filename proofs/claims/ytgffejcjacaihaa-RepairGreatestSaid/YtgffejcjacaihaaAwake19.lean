/- acequialaw19.awake: the chapter's examples. -/
import Derived.Test.YtgffejcjacaihaaLowered
set_option linter.unusedSimpArgs false
set_option linter.unnecessarySimpa false
set_option linter.unusedVariables false
namespace Acq
open Go Go.RowKit Go.Proofs Acq.Low

/-- The example's net. -/
def G0 : Net := ⟨5, 0, 4, [⟨1, 2, 1⟩, ⟨2, 3, 1⟩, ⟨3, 4, 1⟩]⟩
theorem G0_ok : G0.Ok := ⟨by decide, by decide, by decide, by decide, by decide, by decide, by
  intro a ha
  simp only [G0, List.mem_cons, List.not_mem_nil, or_false] at ha
  rcases ha with rfl | rfl | rfl <;> decide⟩

def E0 : List Ent := [⟨1, 2, 1, 0, false⟩, ⟨2, 1, 0, 0, true⟩, ⟨2, 3, 1, 1, false⟩, ⟨3, 2, 0, 1, true⟩, ⟨3, 4, 1, 2, false⟩, ⟨4, 3, 0, 2, true⟩]
theorem G0_E : G0.E = E0 := by decide
def R0 : List Int := [1, 0, 1, 0, 1, 0]
theorem G0_R : resOf G0.ar G0.E (List.replicate G0.ar.length 0) = R0 := by rw [G0_E]; decide

theorem open0 {u v : Nat} (h : Open G0 R0 u v) : (u = 1 ∧ v = 2) ∨ (u = 2 ∧ v = 3) ∨ (u = 3 ∧ v = 4) := by
  obtain ⟨hu, a, e, he, h1, h2, h3⟩ := h
  rw [G0_E] at he
  have ha : a < 6 := (List.getElem?_eq_some_iff.1 he).1
  have h6 : a = 0 ∨ a = 1 ∨ a = 2 ∨ a = 3 ∨ a = 4 ∨ a = 5 := by omega
  rcases h6 with rfl | rfl | rfl | rfl | rfl | rfl <;> simp [E0, R0] at he h3 <;> subst he <;> simp at h1 h2 <;> omega

theorem mk0 {u v a : Nat} {e : Ent} (hu : u ≠ 0) (he : E0[a]? = some e) (h1 : e.tl = u) (h2 : e.hd = v) (h3 : 0 < R0.getD a 0) : Open G0 R0 u v := ⟨hu, a, e, by rw [G0_E]; exact he, h1, h2, h3⟩

theorem open12 : Open G0 R0 1 2 := mk0 (a := 0) (by decide) rfl rfl rfl (by decide)
theorem open23 : Open G0 R0 2 3 := mk0 (a := 2) (by decide) rfl rfl rfl (by decide)
theorem open34 : Open G0 R0 3 4 := mk0 (a := 4) (by decide) rfl rfl rfl (by decide)

theorem low0 (h t : List Int) (ht : t.length = 5) (hh : h.length = 5) (hb : ∀ x ∈ t, 0 ≤ x ∧ x ≤ 5) (h1 : fn t 1 ≤ fn t 2 + 1) (h2 : fn t 2 ≤ fn t 3 + 1) (h3 : fn t 3 ≤ fn t 4 + 1) (hle : ∀ v, v < 5 → fn t v ≤ fn h v)
    (hm : fn t 0 = fn h 0 ∧ fn t 4 = fn h 4 ∧ (fn t 3 = fn h 3 ∨ fn t 3 = fn t 4 + 1) ∧ (fn t 2 = fn h 2 ∨ fn t 2 = fn t 3 + 1) ∧ (fn t 1 = fn h 1 ∨ fn t 1 = fn t 2 + 1)) (hc : Hts G0 h) : LowPost G0 R0 h t := by
  have far : ∀ (l : List Int), l.length = 5 → ∀ v, ¬ v < 5 → fn l v = 0 := fun l hl v hv => by
    simp only [fn, List.getD_eq_getElem?_getD]; rw [List.getElem?_eq_none (by omega)]; rfl
  refine ⟨fun _ _ => ⟨ht, hb, ⟨fun u v e => ?_, fun v => ?_, fun g hg hl v => ?_⟩⟩, fun hno => absurd ⟨by rw [G0_E]; rfl, hc⟩ hno⟩
  · rcases open0 e with ⟨rfl, rfl⟩ | ⟨rfl, rfl⟩ | ⟨rfl, rfl⟩ <;> assumption
  · by_cases hv : v < 5
    · exact hle v hv
    · rw [far t ht v hv, far h hh v hv]; exact Int.le_refl _
  · by_cases hv : v < 5
    · have g1 := hg 1 2 open12
      have g2 := hg 2 3 open23
      have g3 := hg 3 4 open34
      have l0 := hl 0
      have l1 := hl 1
      have l2 := hl 2
      have l3 := hl 3
      have l4 := hl 4
      have h5 : v = 0 ∨ v = 1 ∨ v = 2 ∨ v = 3 ∨ v = 4 := by omega
      rcases h5 with rfl | rfl | rfl | rfl | rfl <;> omega
    · have := hl v
      rw [far h hh v hv] at this
      rw [far t ht v hv]; exact this

theorem low0a : LowPost G0 R0 [5, 5, 5, 5, 0] [5, 3, 2, 1, 0] :=
  low0 _ _ rfl rfl (by decide) (by decide) (by decide) (by decide) (by
    intro v hv
    have h5 : v = 0 ∨ v = 1 ∨ v = 2 ∨ v = 3 ∨ v = 4 := by omega
    rcases h5 with rfl | rfl | rfl | rfl | rfl <;> decide) (by decide) ⟨rfl, by decide, rfl, rfl⟩

theorem low0b : LowPost G0 R0 [5, 1, 5, 5, 0] [5, 1, 2, 1, 0] :=
  low0 _ _ rfl rfl (by decide) (by decide) (by decide) (by decide) (by
    intro v hv
    have h5 : v = 0 ∨ v = 1 ∨ v = 2 ∨ v = 3 ∨ v = 4 := by omega
    rcases h5 with rfl | rfl | rfl | rfl | rfl <;> decide) (by decide) ⟨rfl, by decide, rfl, rfl⟩

theorem ints_same (A B : Option Addr) (n k c d : Nat) (xs : List Int) (W : World) (h1 : n = xs.length) (h2 : k = xs.length) (hA : SlI W A xs) (hB : SlI W B xs) (hx : xs.length ≤ 9223372036854775807) :
    Calls Try.prog 10 #[.slice A n c, .slice B k d] W fun e w' => e = .returned (.bool true) ∧ Fr [] W w' := by
  subst h1; subst h2
  refine (ints_eq A B c d xs xs W hA hB hx hx).mono fun e w' ⟨h1, h2⟩ => ⟨?_, h2⟩
  rw [h1, decide_eq_true rfl]

set_option maxRecDepth 100000 in
set_option maxHeartbeats 2000000 in
theorem awake_any (w : World) : Calls Try.prog 15 #[] w fun e w' => e = .returned (.bool true) ∧ Fr [] w w' := by
  go_enter Try.func15, Try.ntmps15
  go_upto_region 2 with (fail)
  obtain ⟨w1, hw1⟩ : ∃ W, W = (w.alloc (.cells #[.int .i64 1, .int .i64 2, .int .i64 1, .int .i64 2, .int .i64 3, .int .i64 1, .int .i64 3, .int .i64 4, .int .i64 1] 53)).alloc (.cells #[.int .i64 5, .int .i64 0, .int .i64 4, .slice (some ⟨w.heap.size, 0, none⟩) 3 3] 24) := ⟨_, rfl⟩
  have HN1 : Hid (Blk w1 (w.heap.size + 1) [.int .i64 5, .int .i64 0, .int .i64 4, .slice (some ⟨w.heap.size, 0, none⟩) 3 3] 24) := Lib.hid (by rw [hw1]; exact Blk.new_at _ _ (by simp))
  have HV1 : Hid (NetV w1 G0 (some ⟨w.heap.size, 0, none⟩) 3) := Lib.hid ⟨⟨rfl, fun _ => ⟨w.heap.size, 0, rfl, by
    have hb : Blk w1 w.heap.size (cat arcCells G0.ar) 53 := by rw [hw1]; exact (Blk.new w _ _).alloc _
    exact hb.range 0 _ (fun j v hv => by rw [Nat.zero_add]; exact hv)⟩⟩, by decide⟩
  have HF1 : Hid (Fr [] w w1) := Lib.hid (by rw [hw1]; exact ((Fr.refl _ _).alloc _).alloc _)
  rw [← hw1]
  clear hw1
  go_wp2_with (refine wl_load rfl rfl rfl _ HN1.out Try.underlying24 rfl (by kernel_rfl) ?_)
  refine (left_any G0 G0_ok _ 3 none 0 [] w1 HV1.out (Sl.nil _ _ _) (by simp) (by simp)).mono ?_
  rintro e w2 ⟨base, f, AF, AH, AR, AC, AA, AB, cF, cH, cR, cC, cA, cB, A, c, rfl, hV, hI, hfo, hfz, hown, hbs, hF⟩
  have hf := hfz rfl
  subst hf
  rw [G0_R] at hown
  obtain ⟨c', hc', hve, hsl⟩ := Sl.of_own hown (by decide)
  simp only [Value.slice.injEq] at hve
  obtain ⟨hA0, -, -⟩ := hve
  rw [← hA0] at hsl
  have HS2 : Hid (SlI w2 A R0) := Lib.hid (by
    unfold SlI
    rw [show R0.length = G0.E.length by rw [G0_E]; rfl]
    exact hsl)
  have HV2 := Lib.hid hV
  have HF2 := Lib.hid (HF1.out.trans hF)
  have HLO : Hid (∀ (W : World) (h T : List Int) (B : Option Addr) (d : Nat), Fr [] w2 W → SlI W B h → h.length = 5 → LowPost G0 R0 h T → Calls Try.prog 11 #[.agg #[.int .i64 5, .int .i64 0, .int .i64 4, .slice AF 6 cF, .slice AH 6 cH, .slice AR 6 cR, .slice AC 6 cC, .slice AA 6 cA, .slice AB 6 cB], .slice A 6 c, .slice B 5 d] W fun e w' => ∃ A' c', e = .returned (.slice A' T.length c') ∧ SlI w' A' T ∧ Fr [] W w') := Lib.hid fun W h T B d hW hB hl hT => by
    have h1 := lower_any G0 G0_ok AF AH AR AC AA AB cF cH cR cC cA cB R0 h A B c d W (hV.fr0 hW) (HS2.out.fr0 hW) hB (by decide) (by omega)
    unfold csrCells at h1
    rw [G0_E, hl] at h1
    refine h1.mono fun e w' ⟨out, A', c', he, hs, hp, hF⟩ => ?_
    obtain rfl := hp.same hT
    exact ⟨A', c', he, hs, hF⟩
  have HLD : Hid (∀ (W : World) (h T : List Int) (B : Option Addr) (d : Nat), Fr [] w2 W → SlI W B h → h.length = 5 → LowPost G0 R0 h T → Calls Try.prog 13 #[.agg #[.int .i64 5, .int .i64 0, .int .i64 4, .slice AF 6 cF, .slice AH 6 cH, .slice AR 6 cR, .slice AC 6 cC, .slice AA 6 cA, .slice AB 6 cB], .slice A 6 c, .slice B 5 d] W fun e w' => ∃ A' c', e = .returned (.slice A' (lowTo T h T.length).length c') ∧ SlI w' A' (lowTo T h T.length) ∧ Fr [] W w') := Lib.hid fun W h T B d hW hB hl hT => by
    have h1 := lowered_any G0 G0_ok AF AH AR AC AA AB cF cH cR cC cA cB R0 h A B c d W (hV.fr0 hW) (HS2.out.fr0 hW) hB (by decide) (by omega)
    unfold csrCells at h1
    rw [G0_E, hl] at h1
    refine h1.mono fun e w' ⟨out, A', c', hp, he, hs, hF⟩ => ?_
    obtain rfl := hp.same hT
    exact ⟨A', c', he, hs, hF⟩
  unfold csrCells
  rw [G0_E]
  have HE6 : Hid (E0.length = 6 ∧ G0.N = 5 ∧ G0.S = 0 ∧ G0.T = 4) := Lib.hid ⟨rfl, rfl, rfl, rfl⟩
  rw [HE6.out.1, HE6.out.2.1, HE6.out.2.2.1, HE6.out.2.2.2]
  clear hV hI hfo hfz hown hbs hF hc' hsl hA0
  go_upto_region 3 with (fail)
  obtain ⟨cb, hcb⟩ : ∃ b, b = w2.heap.size := ⟨_, rfl⟩
  obtain ⟨w3, hw3⟩ : ∃ W, W = w2.alloc (.cells #[.int .i64 5, .int .i64 0, .int .i64 4, .slice AF 6 cF, .slice AH 6 cH, .slice AR 6 cR, .slice AC 6 cC, .slice AA 6 cA, .slice AB 6 cB] 29) := ⟨_, rfl⟩
  rw [← hw3, ← hcb]
  have HC3 : Hid (Blk w3 cb [.int .i64 5, .int .i64 0, .int .i64 4, .slice AF 6 cF, .slice AH 6 cH, .slice AR 6 cR, .slice AC 6 cC, .slice AA 6 cA, .slice AB 6 cB] 29) := Lib.hid (by rw [hw3, hcb]; exact Blk.new _ _ _)
  have HF3 : Hid (Fr [] w2 w3) := Lib.hid (by rw [hw3]; exact (Fr.refl _ _).alloc _)
  clear hw3 hcb
  -- the first pair
  go_wp2_with (refine wl_load rfl rfl rfl _ HC3.out Try.underlying29 rfl (by kernel_rfl) ?_)
  have HX1 : Hid (SlI (w3.alloc (.cells #[.int .i64 5, .int .i64 5, .int .i64 5, .int .i64 5, .int .i64 0] 3)) (some ⟨w3.heap.size, 0, none⟩) [5, 5, 5, 5, 0]) := Lib.hid (SlI.of_blk (T := 3) (Blk.new w3 (ints [5, 5, 5, 5, 0]) 3))
  refine (HLO.out (w3.alloc (.cells #[.int .i64 5, .int .i64 5, .int .i64 5, .int .i64 5, .int .i64 0] 3)) [5, 5, 5, 5, 0] [5, 3, 2, 1, 0] _ _ (HF3.out.alloc _) HX1.out rfl low0a).mono ?_
  rintro e w4 ⟨A4, c4, rfl, hs4, hF4⟩
  have HS4 := Lib.hid hs4
  have HF4 := Lib.hid ((HF3.out.alloc _).trans hF4)
  have HC4 := Lib.hid ((HC3.out.alloc (.cells #[.int .i64 5, .int .i64 5, .int .i64 5, .int .i64 5, .int .i64 0] 3)).fr hF4 (by simp))
  clear hs4 hF4
  go_wp2_with fail
  have HX2 : Hid (SlI (w4.alloc (.cells #[.int .i64 5, .int .i64 3, .int .i64 2, .int .i64 1, .int .i64 0] 3)) (some ⟨w4.heap.size, 0, none⟩) [5, 3, 2, 1, 0]) := Lib.hid (SlI.of_blk (T := 3) (Blk.new w4 (ints [5, 3, 2, 1, 0]) 3))
  refine (ints_same A4 (some ⟨w4.heap.size, 0, none⟩) 5 5 c4 5 [5, 3, 2, 1, 0] (w4.alloc (.cells #[.int .i64 5, .int .i64 3, .int .i64 2, .int .i64 1, .int .i64 0] 3)) rfl rfl (HS4.out.fr0 ((Fr.refl [] _).alloc _)) HX2.out (by decide)).mono ?_
  rintro e w5 ⟨rfl, hF5⟩
  have b5 := (HC4.out.alloc (.cells #[.int .i64 5, .int .i64 3, .int .i64 2, .int .i64 1, .int .i64 0] 3)).fr hF5 (by simp)
  have HF5 := Lib.hid ((HF4.out.alloc _).trans hF5)
  have HC5 := Lib.hid b5
  have d0 := b5.cell (o := 0) rfl
  have d1 := b5.cell (o := 1) rfl
  have d2 := b5.cell (o := 2) rfl
  have d3 := b5.cell (o := 3) rfl
  have d4 := b5.cell (o := 4) rfl
  have d5 := b5.cell (o := 5) rfl
  have d6 := b5.cell (o := 6) rfl
  have d7 := b5.cell (o := 7) rfl
  have d8 := b5.cell (o := 8) rfl
  clear b5 hF5
  -- the second
  go_wp2_with fail
  have HX3 : Hid (SlI (w5.alloc (.cells #[.int .i64 5, .int .i64 5, .int .i64 5, .int .i64 5, .int .i64 0] 3)) (some ⟨w5.heap.size, 0, none⟩) [5, 5, 5, 5, 0]) := Lib.hid (SlI.of_blk (T := 3) (Blk.new w5 (ints [5, 5, 5, 5, 0]) 3))
  refine (HLD.out (w5.alloc (.cells #[.int .i64 5, .int .i64 5, .int .i64 5, .int .i64 5, .int .i64 0] 3)) [5, 5, 5, 5, 0] [5, 3, 2, 1, 0] _ _ (HF5.out.alloc _) HX3.out rfl low0a).mono ?_
  rintro e w6 ⟨A6, c6, rfl, hs6, hF6⟩
  rw [show lowTo [5, 3, 2, 1, 0] [5, 5, 5, 5, 0] ([5, 3, 2, 1, 0] : List Int).length = [1, 2, 3] by decide] at hs6 ⊢
  have HS6 := Lib.hid hs6
  have HF6 := Lib.hid ((HF5.out.alloc _).trans hF6)
  have HC6 := Lib.hid ((HC5.out.alloc (.cells #[.int .i64 5, .int .i64 5, .int .i64 5, .int .i64 5, .int .i64 0] 3)).fr hF6 (by simp))
  clear hs6 hF6 d0 d1 d2 d3 d4 d5 d6 d7 d8
  go_wp2_with fail
  have HX4 : Hid (SlI (w6.alloc (.cells #[.int .i64 1, .int .i64 2, .int .i64 3] 3)) (some ⟨w6.heap.size, 0, none⟩) [1, 2, 3]) := Lib.hid (SlI.of_blk (T := 3) (Blk.new w6 (ints [1, 2, 3]) 3))
  refine (ints_same A6 (some ⟨w6.heap.size, 0, none⟩) 3 3 c6 3 [1, 2, 3] (w6.alloc (.cells #[.int .i64 1, .int .i64 2, .int .i64 3] 3)) rfl rfl (HS6.out.fr0 ((Fr.refl [] _).alloc _)) HX4.out (by decide)).mono ?_
  rintro e w7 ⟨rfl, hF7⟩
  have b7 := (HC6.out.alloc (.cells #[.int .i64 1, .int .i64 2, .int .i64 3] 3)).fr hF7 (by simp)
  have HF7 := Lib.hid ((HF6.out.alloc _).trans hF7)
  have d0 := b7.cell (o := 0) rfl
  have d1 := b7.cell (o := 1) rfl
  have d2 := b7.cell (o := 2) rfl
  have d3 := b7.cell (o := 3) rfl
  have d4 := b7.cell (o := 4) rfl
  have d5 := b7.cell (o := 5) rfl
  have d6 := b7.cell (o := 6) rfl
  have d7 := b7.cell (o := 7) rfl
  have d8 := b7.cell (o := 8) rfl
  clear b7 hF7
  -- the third
  go_wp2_with fail
  have HX5 : Hid (SlI (w7.alloc (.cells #[.int .i64 5, .int .i64 1, .int .i64 5, .int .i64 5, .int .i64 0] 3)) (some ⟨w7.heap.size, 0, none⟩) [5, 1, 5, 5, 0]) := Lib.hid (SlI.of_blk (T := 3) (Blk.new w7 (ints [5, 1, 5, 5, 0]) 3))
  refine (HLO.out (w7.alloc (.cells #[.int .i64 5, .int .i64 1, .int .i64 5, .int .i64 5, .int .i64 0] 3)) [5, 1, 5, 5, 0] [5, 1, 2, 1, 0] _ _ (HF7.out.alloc _) HX5.out rfl low0b).mono ?_
  rintro e w8 ⟨A8, c8, rfl, hs8, hF8⟩
  have HS8 := Lib.hid hs8
  have HF8 := Lib.hid ((HF7.out.alloc _).trans hF8)
  clear hs8 hF8 d0 d1 d2 d3 d4 d5 d6 d7 d8
  go_wp2_with fail
  have HX6 : Hid (SlI (w8.alloc (.cells #[.int .i64 5, .int .i64 1, .int .i64 2, .int .i64 1, .int .i64 0] 3)) (some ⟨w8.heap.size, 0, none⟩) [5, 1, 2, 1, 0]) := Lib.hid (SlI.of_blk (T := 3) (Blk.new w8 (ints [5, 1, 2, 1, 0]) 3))
  refine (ints_same A8 (some ⟨w8.heap.size, 0, none⟩) 5 5 c8 5 [5, 1, 2, 1, 0] (w8.alloc (.cells #[.int .i64 5, .int .i64 1, .int .i64 2, .int .i64 1, .int .i64 0] 3)) rfl rfl (HS8.out.fr0 ((Fr.refl [] _).alloc _)) HX6.out (by decide)).mono ?_
  rintro e w9 ⟨rfl, hF9⟩
  have HF9 := Lib.hid ((HF8.out.alloc _).trans hF9)
  clear hF9
  go_wp2_with fail
  go_ret
  exact ⟨rfl, HF2.out.trans HF9.out⟩
end Acq
