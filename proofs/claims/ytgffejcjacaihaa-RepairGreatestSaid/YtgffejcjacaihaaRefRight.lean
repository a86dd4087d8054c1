/- acequiaref06.Right; acequialow.Ints; acequialaw06.Heights; slices.Clone. -/
import Derived.Test.YtgffejcjacaihaaRight
set_option linter.unusedSimpArgs false
set_option linter.unnecessarySimpa false
set_option linter.unusedVariables false
namespace Acq
open Go Go.RowKit Go.Proofs

set_option maxHeartbeats 2000000 in
theorem refright_core (N S T : Nat) (r3 r4 r5 r6 r7 r8 : Value) (A : Option Addr) (c : Nat) (h : List Int) (w : World) (hN : 0 < N) (hN2 : N ≤ 16) (hS : S < N) (hT : T < N) (hA : SlI w A h) (hl : h.length ≤ 9223372036854775807) :
    Calls Try.prog 30 #[.agg #[.int .i64 N, .int .i64 S, .int .i64 T, r3, r4, r5, r6, r7, r8], .slice A h.length c] w (RightOk N S T h w) := by
  have HB := Lib.hid (Blk.new w [.int .i64 N, .int .i64 S, .int .i64 T, r3, r4, r5, r6, r7, r8] 29)
  have HA := Lib.hid hA
  clear hA
  by_cases hlen : h.length = N
  · subst hlen
    have q1 : (((h.length : Int) : Int) == ((h.length : Int) : Int)) = true := by simp
    have q2 : (((h.length : Int) : Int) != ((h.length : Int) : Int)) = false := by simp
    have q3 : ((h.length : Int) == (h.length : Int)) = true := by simp
    have q4 : ((h.length : Int) != (h.length : Int)) = false := by simp
    have q5 : ((h.length : Int) == 0) = false := beq_eq_false_iff_ne.2 (by omega)
    have q6 : (h.length == 0) = false := beq_eq_false_iff_ne.2 (by omega)
    go_enter Try.func30, Try.ntmps30
    go_upto_region 3 with (fail)
    obtain ⟨nb, hnb⟩ : ∃ b, b = w.heap.size := ⟨_, rfl⟩
    obtain ⟨w1, hw1⟩ : ∃ W, W = w.alloc (.cells #[.int .i64 h.length, .int .i64 S, .int .i64 T, r3, r4, r5, r6, r7, r8] 29) := ⟨_, rfl⟩
    rw [← hw1, ← hnb]
    rw [← hw1, ← hnb] at HB
    have HF1 : Hid (Fr [] w w1) := Lib.hid (by rw [hw1]; exact (Fr.refl _ _).alloc _)
    clear hnb hw1 q1 q2 q3 q4 q5 q6
    go_wp2_with fail
    go_loopw [5] (fun i wr => ∃ k : Nat, i = .int .i64 k ∧ k ≤ h.length ∧ (∀ x ∈ h.take k, 0 ≤ x ∧ x ≤ (h.length : Int)) ∧ Fr [] w1 wr) (fun i _ => h.length - (intOf i).toNat)
    case atStart => exact ⟨0, rfl, Nat.zero_le _, by simp, Fr.refl _ _⟩
    case round =>
      obtain ⟨k, rfl, hk, hok, hF⟩ := hrel
      have HOK := Lib.hid hok
      have b2 := HB.out.fr hF (by simp)
      have HF := Lib.hid hF
      have c0 := b2.cell (o := 0) rfl
      have c1 := b2.cell (o := 1) rfl
      have c2 := b2.cell (o := 2) rfl
      obtain ⟨g, off, rfl, hc⟩ := (HA.out.fr0 (HF1.out.trans hF)).all (by omega)
      have HC := Lib.hid hc
      clear hok hF b2 hc
      by_cases hkn : k < h.length
      · obtain ⟨x, hx⟩ : ∃ x, h[k]? = some x := ⟨_, List.getElem?_eq_getElem hkn⟩
        have x1 := HC.out k x hx
        have HX := Lib.hid hx
        have k0 : (0 : Int) ≤ (k : Int) := by omega
        have k1 : (k : Int) < (h.length : Int) := by omega
        clear hx
        by_cases hx0 : x < 0
        · have d1 : decide (x < 0) = true := by simp [hx0]
          go_wp2_with fail
          go_quiet (fail)
          go_wp2_with fail
          go_ret
          exact ⟨false, rfl, ⟨fun h0 => by simp at h0, fun h0 => by have := h0.2.1 x (List.mem_of_getElem? HX.out); omega⟩, HF1.out.trans (HF.out.drewN _)⟩
        · have d1 : decide (x < 0) = false := by simp; omega
          by_cases hx1 : (h.length : Int) < x
          · have d2 : decide ((h.length : Int) < x) = true := by simp [hx1]
            go_wp2_with fail
            go_quiet (fail)
            go_wp2_with fail
            go_ret
            exact ⟨false, rfl, ⟨fun h0 => by simp at h0, fun h0 => by have := h0.2.1 x (List.mem_of_getElem? HX.out); omega⟩, HF1.out.trans (HF.out.drewN _)⟩
          · have d2 : decide ((h.length : Int) < x) = false := by simp; omega
            go_wp2_with fail
            go_quiet (fail)
            go_wp2_with fail
            go_roundw
            case rel =>
              refine ⟨k + 1, by go_num, by omega, fun y hy => ?_, HF.out.drewN _⟩
              rw [List.take_add_one, HX.out] at hy
              rcases List.mem_append.1 hy with h1 | h1
              · exact HOK.out y h1
              · simp at h1; subst h1; omega
            case measure => simp [intOf]; omega
      · obtain ⟨x, hx⟩ : ∃ x, h[T]? = some x := ⟨_, List.getElem?_eq_getElem hT⟩
        obtain ⟨y, hy⟩ : ∃ y, h[S]? = some y := ⟨_, List.getElem?_eq_getElem hS⟩
        have x1 := HC.out T x hx
        have x2 := HC.out S y hy
        have T0 : (0 : Int) ≤ (T : Int) := by omega
        have T1 : (T : Int) < (h.length : Int) := by omega
        have S0 : (0 : Int) ≤ (S : Int) := by omega
        have S1 : (S : Int) < (h.length : Int) := by omega
        have HX := Lib.hid hx
        have HY := Lib.hid hy
        have HALL : Hid (∀ x ∈ h, 0 ≤ x ∧ x ≤ (h.length : Int)) := Lib.hid (by have := HOK.out; rwa [List.take_of_length_le (by omega)] at this)
        clear hx hy
        by_cases hx0 : x = 0
        · subst hx0
          by_cases hy0 : y = (h.length : Int)
          · subst hy0
            have q1 : (((h.length : Int) : Int) == ((h.length : Int) : Int)) = true := by simp
            have q2 : (((h.length : Int) : Int) != ((h.length : Int) : Int)) = false := by simp
            have q3 : ((h.length : Int) == (h.length : Int)) = true := by simp
            have q4 : ((h.length : Int) != (h.length : Int)) = false := by simp
            go_wp2_with fail
            go_quiet (fail)
            go_wp2_with fail
            go_ret
            exact ⟨true, rfl, ⟨fun _ => ⟨rfl, HALL.out, HX.out, HY.out⟩, fun _ => rfl⟩, HF1.out.trans (HF.out.drewN _)⟩
          · have r1 : (y == (h.length : Int)) = false := by simp; omega
            go_wp2_with fail
            go_quiet (fail)
            go_wp2_with fail
            go_ret
            exact ⟨false, rfl, ⟨fun h0 => by simp at h0, fun h0 => by have h1 := h0.2.2.2; rw [HY.out] at h1; exact absurd (Option.some.inj h1) hy0⟩, HF1.out.trans (HF.out.drewN _)⟩
        · have r1 : (x == (0 : Int)) = false := by simp; omega
          go_wp2_with fail
          go_quiet (fail)
          go_wp2_with fail
          go_ret
          exact ⟨false, rfl, ⟨fun h0 => by simp at h0, fun h0 => by have h1 := h0.2.2.1; rw [HX.out] at h1; exact absurd (Option.some.inj h1) hx0⟩, HF1.out.trans (HF.out.drewN _)⟩
  · have q1 : ((h.length : Int) == (N : Int)) = false := by simp; omega
    have q2 : ((h.length : Int) != (N : Int)) = true := by simp; omega
    have q3 : (h.length == N) = false := by simp; omega
    have q4 : (h.length != N) = true := by simp; omega
    go_enter Try.func30, Try.ntmps30
    go_wp2_with fail
    go_ret
    exact ⟨false, rfl, ⟨fun h0 => by simp at h0, fun h0 => absurd h0.1 hlen⟩, (Fr.refl [] w).alloc _⟩
end Acq
