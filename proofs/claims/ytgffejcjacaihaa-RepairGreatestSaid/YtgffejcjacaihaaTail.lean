/- sort.Search at the closure of sort.SearchInts; csr.Tail: where an entry begins. -/
import Derived.Test.YtgffejcjacaihaaLower
set_option linter.unusedSimpArgs false
set_option linter.unnecessarySimpa false
set_option linter.unusedVariables false
namespace Acq
open Go Go.RowKit Go.Proofs Acq.Low

set_option maxHeartbeats 1000000 in
theorem search_any {ca cx : Value} (n : Nat) (p : Nat → Bool) (w : World) (hn : n ≤ 1000) (hm : ∀ a b, a ≤ b → b < n → p a = true → p b = true)
    (hp : ∀ W i, Fr [] w W → i < n → Calls Try.prog 44 #[.int .i64 (i : Nat), ca, cx] W fun e w' => e = .returned (.bool (p i)) ∧ Fr [] W w') :
    Calls Try.prog 43 #[.int .i64 n, .func (.func 44) #[] #[ca, cx]] w fun e w' => ∃ k : Nat, e = .returned (.int .i64 k) ∧ k ≤ n ∧ (∀ t, t < k → p t = false) ∧ (∀ t, k ≤ t → t < n → p t = true) ∧ Fr [] w w' := by
  have HP := Lib.hid hp
  have HM := Lib.hid hm
  clear hp hm
  go_enter Try.func43, Try.ntmps43
  go_wp2_with fail
  go_loopw [5, 6] (fun s5 s6 wr => ∃ lo hi : Nat, s5 = .int .i64 lo ∧ s6 = .int .i64 hi ∧ lo ≤ hi ∧ hi ≤ n ∧ (∀ t, t < lo → p t = false) ∧ (∀ t, hi ≤ t → t < n → p t = true) ∧ Fr [] w wr) (fun s5 s6 _ => (intOf s6).toNat - (intOf s5).toNat)
  case atStart => exact ⟨0, n, rfl, rfl, Nat.zero_le _, Nat.le_refl _, fun t ht => absurd ht (Nat.not_lt_zero _), fun t h1 h2 => by omega, Fr.refl _ _⟩
  case round =>
    obtain ⟨lo, hi, rfl, rfl, hlh, hin, h1, h2, hF⟩ := hrel
    have HLO := Lib.hid h1
    have HHI := Lib.hid h2
    have HF := Lib.hid hF
    clear h1 h2 hF
    by_cases hlt : lo < hi
    · obtain ⟨m, hm, hm1, hm2⟩ : ∃ m : Nat, ((lo : Int) + (hi : Int)) / 2 = (m : Int) ∧ lo ≤ m ∧ m < hi := ⟨(lo + hi) / 2, by omega, by omega, by omega⟩
      have hc := HP.out wr m HF.out (by omega)
      cases hpm : p m
      all_goals
        rw [hpm] at hc
        have HCA := Lib.hid hc
        have HPM := Lib.hid hpm
        clear hc hpm
        go_wp2_with fail
        refine HCA.out.mono ?_
        rintro e w' ⟨rfl, hF2⟩
        have HF2 := Lib.hid (HF.out.trans hF2)
        clear HCA hF2
        go_wp2_with fail
        go_roundw
      case rel => exact ⟨m + 1, hi, by go_num, rfl, by omega, hin, fun t ht => Bool.eq_false_iff.2 (fun h => by have := HM.out t m (by omega) (by omega) h; rw [HPM.out] at this; cases this), HHI.out, HF2.out⟩
      case measure => simp [intOf]; omega
      case rel => exact ⟨lo, m, rfl, by go_num, by omega, by omega, HLO.out, fun t h1 h2 => HM.out m t h1 h2 HPM.out, HF2.out⟩
      case measure => simp [intOf]; omega
    · obtain rfl : hi = lo := by omega
      go_wp2_with fail
      go_ret
      exact ⟨hi, rfl, hin, HLO.out, HHI.out, HF.out⟩

theorem search_one (ba bx : Nat) (A : Option Addr) (c : Nat) (xs : List Int) (x : Int) (i : Nat) (y : Int) (W : World) (hy : xs[i]? = some y) (hA : SlI W A xs) (hl : xs.length ≤ 1000)
    (ha : W.cell? ⟨ba, 0, none⟩ = some (.slice A xs.length c)) (hx : W.cell? ⟨bx, 0, none⟩ = some (.int .i64 x)) :
    Calls Try.prog 44 #[.int .i64 (i : Nat), .pointer (some ⟨ba, 0, none⟩), .pointer (some ⟨bx, 0, none⟩)] W fun e w' => e = .returned (.bool (decide (x ≤ y))) ∧ Fr [] W w' := by
  obtain ⟨g, off, rfl, hc⟩ := hA.at hy
  have hi := (List.getElem?_eq_some_iff.1 hy).1
  have k0 : (0 : Int) ≤ (i : Int) := by omega
  have k1 : (i : Int) < (xs.length : Int) := by omega
  clear hy hA
  go_enter Try.func44, Try.ntmps44
  go_wp2_with fail
  go_quiet (fail)
  go_wp2_with fail
  go_ret
  exact ⟨rfl, (Fr.refl _ _).drewN _⟩

set_option maxHeartbeats 1000000 in
theorem searchints_any (A : Option Addr) (c : Nat) (xs : List Int) (x : Int) (w : World) (hA : SlI w A xs) (hl : xs.length ≤ 1000) (hs : ∀ (i j : Nat) a b, i ≤ j → xs[i]? = some a → xs[j]? = some b → a ≤ b) :
    Calls Try.prog 34 #[.slice A xs.length c, .int .i64 x] w fun e w' => ∃ k : Nat, e = .returned (.int .i64 k) ∧ k ≤ xs.length ∧ (∀ (t : Nat) y, t < k → xs[t]? = some y → y < x) ∧ (∀ (t : Nat) y, k ≤ t → xs[t]? = some y → x ≤ y) ∧ Fr [] w w' := by
  have HS : Hid (∀ n, Calls Try.prog 43 #[.int .i64 xs.length, .func (.func 44) #[] #[.pointer (some ⟨w.heap.size, 0, none⟩), .pointer (some ⟨w.heap.size + 1, 0, none⟩)]] (((w.alloc (.cells #[.slice A xs.length c] 26)).alloc (.cells #[.int .i64 x] 3)).drewN n) fun e w' => ∃ k : Nat, e = .returned (.int .i64 k) ∧ k ≤ xs.length ∧ (∀ (t : Nat) y, t < k → xs[t]? = some y → y < x) ∧ (∀ (t : Nat) y, k ≤ t → xs[t]? = some y → x ≤ y) ∧ Fr [] w w') := Lib.hid fun n => by
    have hb0 : Blk (((w.alloc (.cells #[.slice A xs.length c] 26)).alloc (.cells #[.int .i64 x] 3)).drewN n) w.heap.size [.slice A xs.length c] 26 := ((Blk.new w [.slice A xs.length c] _).alloc _).drewN n
    have hb1 : Blk (((w.alloc (.cells #[.slice A xs.length c] 26)).alloc (.cells #[.int .i64 x] 3)).drewN n) (w.heap.size + 1) [.int .i64 x] 3 := (Blk.new_at (w := w.alloc (.cells #[.slice A xs.length c] 26)) [.int .i64 x] 3 (by rw [World.size_alloc])).drewN n
    have hF0 := (((Fr.refl [] w).alloc (.cells #[.slice A xs.length c] 26)).alloc (.cells #[.int .i64 x] 3)).drewN n
    have key : ∀ t y, xs[t]? = some y → (decide (x ≤ xs.getD t 0) = decide (x ≤ y)) := fun t y h => by rw [List.getD_eq_getElem?_getD, h]; rfl
    refine (search_any xs.length (fun i => decide (x ≤ xs.getD i 0)) _ hl (fun a b hab hb ha => ?_) (fun W i hF hi => ?_)).mono ?_
    · obtain ⟨ya, hya⟩ : ∃ y, xs[a]? = some y := ⟨_, List.getElem?_eq_getElem (by omega)⟩
      obtain ⟨yb, hyb⟩ : ∃ y, xs[b]? = some y := ⟨_, List.getElem?_eq_getElem (by omega)⟩
      rw [key a ya hya] at ha
      rw [key b yb hyb]
      have := hs a b ya yb hab hya hyb
      simp at ha ⊢
      omega
    · obtain ⟨y, hy⟩ : ∃ y, xs[i]? = some y := ⟨_, List.getElem?_eq_getElem hi⟩
      rw [key i y hy]
      exact search_one w.heap.size (w.heap.size + 1) A c xs x i y W hy (hA.fr0 (hF0.trans hF)) hl ((hb0.fr hF (by simp)).cell rfl) ((hb1.fr hF (by simp)).cell rfl)
    · rintro e w' ⟨k, rfl, hk, h1, h2, hF⟩
      refine ⟨k, rfl, hk, fun t y ht hy => ?_, fun t y ht hy => ?_, hF0.trans hF⟩
      · have := h1 t ht
        rw [key t y hy] at this
        simpa using this
      · have := h2 t ht (List.getElem?_eq_some_iff.1 hy).1
        rw [key t y hy] at this
        simpa using this
  clear hA hs
  go_enter Try.func34, Try.ntmps34
  go_wp2_with fail
  refine (HS.out 0).mono ?_
  rintro e w' ⟨k, rfl, hk, h1, h2, hF⟩
  have H1 := Lib.hid h1
  have H2 := Lib.hid h2
  have HF := Lib.hid hF
  clear h1 h2 hF
  go_wp2_with fail
  go_ret
  exact ⟨k, rfl, hk, H1.out, H2.out, HF.out⟩

theorem first_len (G : Net) : G.first.length = G.N + 1 := by rw [Net.first, natI, List.length_map, len_firstTo]

/-- Where an entry begins. -/
def tail (G : Net) (a : Nat) : Nat := (G.E[a]?.map (·.tl)).getD 0

set_option maxHeartbeats 1000000 in
theorem tail_any (G : Net) (hG : G.Ok) (AF AH AR AC AA AB : Option Addr) (cF cH cR cC cA cB : Nat) (a : Nat) (e : Ent) (w : World) (hV : CsrV w G AF AH AR AC AA AB) (he : G.E[a]? = some e) :
    Calls Try.prog 18 #[.agg (csrCells G AF AH AR AC AA AB cF cH cR cC cA cB).toArray, .int .i64 (a : Nat)] w fun en w' => en = .returned (.tuple #[.int .i64 (e.tl : Nat), .bool true]) ∧ Fr [] w w' := by
  have hal := (List.getElem?_eq_some_iff.1 he).1
  have hEl := E_len hG
  have hN := hG.n16
  have htl : e.tl < G.N := (mem_allTo.1 (List.mem_of_getElem? he)).1
  have HO := Lib.hid ((tl_iff he htl).1 rfl)
  have HSI : Hid (∀ W, Fr [] w W → Calls Try.prog 34 #[.slice AF (G.N + 1) cF, .int .i64 ((a : Int) + 1)] W fun en w' => en = .returned (.int .i64 ((e.tl : Int) + 1)) ∧ Fr [] W w') := Lib.hid fun W hW => by
    have := searchints_any AF cF G.first ((a : Int) + 1) W (hV.F.fr0 hW) (by rw [first_len]; omega) (fun i j x y hij hx hy => by
      have hi := (List.getElem?_eq_some_iff.1 hx).1
      have hj := (List.getElem?_eq_some_iff.1 hy).1
      rw [first_len] at hi hj
      rw [first_get G (by omega)] at hx hy
      obtain rfl := Option.some.inj hx
      obtain rfl := Option.some.inj hy
      have := off_mono G hij
      omega)
    rw [first_len] at this
    refine this.mono fun en w' ⟨k, h1, hk, h2, h3, hF⟩ => ⟨?_, hF⟩
    have e1 := h2
    obtain ⟨o1, o2⟩ := HO.out
    have hk1 : ¬ k < e.tl + 1 := fun h => by
      have := h3 e.tl _ (by omega) (first_get G (by omega))
      have : off G e.tl ≤ a := o1
      omega
    have hk2 : ¬ e.tl + 1 < k := fun h => by
      have := h2 (e.tl + 1) _ h (first_get G (by omega))
      have : a < off G (e.tl + 1) := o2
      omega
    rw [h1, show k = e.tl + 1 by omega]
    simp
  have HCL := Lib.hid (fun W => csrlen_any (.int .i64 G.N) (.int .i64 G.S) (.int .i64 G.T) (.slice AF (G.N + 1) cF) (.slice AR G.E.length cR) (.slice AC G.E.length cC) (.slice AA G.E.length cA) (.slice AB G.E.length cB) AH G.E.length cH W)
  have hb := Blk.new w (csrCells G AF AH AR AC AA AB cF cH cR cC cA cB) 29
  have HB := Lib.hid hb
  have c3 := hb.cell (o := 3) rfl
  clear hV he hb
  unfold csrCells at HB c3 ⊢
  have a0 : decide ((a : Int) < 0) = false := by simp
  have a1 : decide ((G.E.length : Int) ≤ (a : Int)) = false := by simp; omega
  have a2 : decide (G.E.length ≤ a) = false := by simp; omega
  go_enter Try.func18, Try.ntmps18
  go_wp2_with fail
  refine (HCL.out _).mono ?_
  rintro en w' ⟨rfl, hF⟩
  have c3' := (HB.out.fr hF (by simp)).cell (o := 3) rfl
  have HF := Lib.hid (((Fr.refl [] w).alloc (.cells #[.int .i64 G.N, .int .i64 G.S, .int .i64 G.T, .slice AF (G.N + 1) cF, .slice AH G.E.length cH, .slice AR G.E.length cR, .slice AC G.E.length cC, .slice AA G.E.length cA, .slice AB G.E.length cB] 29)).trans hF)
  have n1 : IntKind.i64.wrap ((a : Int) + 1) = (a : Int) + 1 := IntWalk.i64_in _ (by omega)
  have n2 : IntKind.i64.wrap ((e.tl : Int) + 1 - 1) = (e.tl : Int) := by rw [show (e.tl : Int) + 1 - 1 = (e.tl : Int) by omega]; exact IntWalk.i64_in _ (by omega)
  clear hF c3 HB HCL
  go_wp2_with fail
  refine (HSI.out _ HF.out).mono ?_
  rintro en w2 ⟨rfl, hF2⟩
  have HF2 := Lib.hid (HF.out.trans hF2)
  clear hF2
  go_wp2_with fail
  go_ret2
  exact ⟨rfl, HF2.out⟩
end Acq
