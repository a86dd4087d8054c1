/- label.Right, acequiaref06.Right: are they heights? -/
import Derived.Test.YtgffejcjacaihaaRes
set_option linter.unusedSimpArgs false
set_option linter.unnecessarySimpa false
set_option linter.unusedVariables false
namespace Acq
open Go Go.RowKit Go.Proofs

/-- Heights of a net. -/
def Hts (G : Net) (h : List Int) : Prop := h.length = G.N ∧ (∀ k ∈ h, 0 ≤ k ∧ k ≤ (G.N : Int)) ∧ h[G.T]? = some 0 ∧ h[G.S]? = some (G.N : Int)

theorem index_any {capd : Value} (A : Option Addr) (c : Nat) (h : List Int) (p : Int → Bool) (w : World) (hA : SlI w A h) (hl : h.length ≤ 9223372036854775807)
    (hp : ∀ x ∈ h, Calls Try.prog 37 #[.int .i64 x, capd] w fun e w' => e = .returned (.bool (p x)) ∧ w = w') :
    Calls Try.prog 47 #[.slice A h.length c, .func (.func 37) #[] #[capd]] w fun e w' => ∃ n : Int, e = .returned (.int .i64 n) ∧ (0 ≤ n ↔ h.any p = true) ∧ w = w' := by
  have HA := Lib.hid hA
  have HP := Lib.hid hp
  clear hA hp
  go_enter Try.func47, Try.ntmps47
  go_wp2_with fail
  go_loop [5, 8] (fun _ i => ∃ k : Nat, i = .int .i64 k ∧ k ≤ h.length ∧ ∀ x ∈ h.take k, p x = false) (fun _ i => h.length - (intOf i).toNat)
  case atStart => exact ⟨0, rfl, Nat.zero_le _, by simp⟩
  case round =>
    obtain ⟨k, rfl, hk, hno⟩ := hrel
    have HNO := Lib.hid hno
    clear hno
    by_cases hkn : k < h.length
    · obtain ⟨x, hx⟩ : ∃ x, h[k]? = some x := ⟨_, List.getElem?_eq_getElem hkn⟩
      obtain ⟨g, off, rfl, hc⟩ := HA.out.at hx
      have HX := Lib.hid hx
      have hcall := HP.out x (List.mem_of_getElem? hx)
      cases hpx : p x
      all_goals
        rw [hpx] at hcall
        have HCA := Lib.hid hcall
        have HPX := Lib.hid hpx
        clear hcall hpx hx
        go_wp2_with fail
        refine HCA.out.mono ?_
        rintro e w' ⟨rfl, rfl⟩
        clear HCA
        go_wp2_with fail
      · go_round
        case rel =>
          refine ⟨k + 1, by go_num, by omega, fun y hy => ?_⟩
          rw [List.take_add_one, HX.out] at hy
          rcases List.mem_append.1 hy with h1 | h1
          · exact HNO.out y h1
          · simp at h1; subst h1; exact HPX.out
        case measure => simp [intOf]; omega
      · go_ret
        exact ⟨k, rfl, ⟨fun _ => List.any_eq_true.2 ⟨x, List.mem_of_getElem? HX.out, HPX.out⟩, fun _ => by omega⟩, rfl⟩
    · go_wp2_with fail
      go_ret
      refine ⟨-1, rfl, ?_, rfl⟩
      have := HNO.out
      rw [List.take_of_length_le (by omega)] at this
      simp
      exact fun x hx => by simpa using this x hx

theorem contains_any {capd : Value} (A : Option Addr) (c : Nat) (h : List Int) (p : Int → Bool) (w : World) (hA : SlI w A h) (hl : h.length ≤ 9223372036854775807)
    (hp : ∀ x ∈ h, Calls Try.prog 37 #[.int .i64 x, capd] w fun e w' => e = .returned (.bool (p x)) ∧ w = w') :
    Calls Try.prog 38 #[.slice A h.length c, .func (.func 37) #[] #[capd]] w fun e w' => e = .returned (.bool (h.any p)) ∧ w = w' := by
  have HI := Lib.hid (index_any A c h p w hA hl hp)
  clear hA hp
  go_enter Try.func38, Try.ntmps38
  go_wp2_with fail
  refine HI.out.mono ?_
  rintro e w' ⟨n, rfl, hn, rfl⟩
  have HN := Lib.hid hn
  clear hn
  go_wp2_with fail
  go_ret
  refine ⟨?_, rfl⟩
  have := HN.out
  cases hb : h.any p
  · rw [hb] at this; simp at this; simp; omega
  · rw [hb] at this; simp at this; simp; omega

/-- A wrong height of a net of `N` vertices. -/
def wrongB (N : Nat) (x : Int) : Bool := decide (x < 0 ∨ (N : Int) < x)

theorem wrong_any (N : Nat) (nb : Nat) (x : Int) (w : World) (hc : w.cell? ⟨nb, 0, none⟩ = some (.int .i64 N)) :
    Calls Try.prog 37 #[.int .i64 x, .pointer (some ⟨nb, 0, none⟩)] w fun e w' => e = .returned (.bool (wrongB N x)) ∧ w = w' := by
  by_cases h0 : x < 0
  · go_enter Try.func37, Try.ntmps37
    go_wp2_with fail
    go_ret
    exact ⟨by simp [wrongB, h0], rfl⟩
  · go_enter Try.func37, Try.ntmps37
    go_wp2_with fail
    go_ret
    exact ⟨by simp [wrongB]; omega, rfl⟩

def RightOk (N S T : Nat) (h : List Int) (w : World) (e : Ending) (w' : World) : Prop := ∃ b : Bool, e = .returned (.bool b) ∧ (b = true ↔ h.length = N ∧ (∀ k ∈ h, 0 ≤ k ∧ k ≤ (N : Int)) ∧ h[T]? = some 0 ∧ h[S]? = some (N : Int)) ∧ Fr [] w w'

theorem any_wrong (N : Nat) (h : List Int) : h.any (wrongB N) = false ↔ ∀ k ∈ h, 0 ≤ k ∧ k ≤ (N : Int) := by
  simp only [List.any_eq_false, wrongB, decide_eq_true_eq]
  constructor
  · intro h1 k hk; have := h1 k hk; omega
  · intro h1 k hk; have := h1 k hk; omega

set_option maxHeartbeats 1000000 in
theorem right_core (N S T : Nat) (r3 r4 r5 r6 r7 r8 : Value) (A : Option Addr) (c : Nat) (h : List Int) (w : World) (hN : 0 < N) (hN2 : N ≤ 16) (hS : S < N) (hT : T < N) (hA : SlI w A h) (hl : h.length ≤ 9223372036854775807) :
    Calls Try.prog 25 #[.agg #[.int .i64 N, .int .i64 S, .int .i64 T, r3, r4, r5, r6, r7, r8], .slice A h.length c] w (RightOk N S T h w) := by
  have hb := Blk.new w [.int .i64 N, .int .i64 S, .int .i64 T, r3, r4, r5, r6, r7, r8] 29
  have c0 := hb.cell (o := 0) rfl
  have HCON : Hid (∀ n, Calls Try.prog 38 #[.slice A h.length c, .func (.func 37) #[] #[.pointer (some ⟨w.heap.size, 0, none⟩)]] ((w.alloc (.cells #[.int .i64 N, .int .i64 S, .int .i64 T, r3, r4, r5, r6, r7, r8] 29)).drewN n) fun e w' => e = .returned (.bool (h.any (wrongB N))) ∧ w' = (w.alloc (.cells #[.int .i64 N, .int .i64 S, .int .i64 T, r3, r4, r5, r6, r7, r8] 29)).drewN n) := Lib.hid fun n =>
    (contains_any A c h (wrongB N) _ (hA.fr0 (((Fr.refl [] w).alloc _).drewN n)) hl (fun x _ => wrong_any N _ x _ (by simp))).mono fun e w' ⟨h1, h2⟩ => ⟨h1, h2.symm⟩
  have HA := Lib.hid (hA.fr0 ((Fr.refl [] w).alloc (.cells #[.int .i64 N, .int .i64 S, .int .i64 T, r3, r4, r5, r6, r7, r8] 29)))
  have c1 := hb.cell (o := 1) rfl
  have c2 := hb.cell (o := 2) rfl
  clear hA hb
  by_cases hlen : h.length = N
  · subst hlen
    have q1 : (((h.length : Int) : Int) == ((h.length : Int) : Int)) = true := by simp
    have q2 : (((h.length : Int) : Int) != ((h.length : Int) : Int)) = false := by simp
    have q3 : ((h.length : Int) == (h.length : Int)) = true := by simp
    have q4 : ((h.length : Int) != (h.length : Int)) = false := by simp
    have q5 : decide (0 < (h.length : Int)) = true := by simp; omega
    have q6 : decide (0 < h.length) = true := by simp; omega
    cases hany : h.any (wrongB h.length)
    · obtain ⟨x, hx⟩ : ∃ x, h[T]? = some x := ⟨_, List.getElem?_eq_getElem hT⟩
      obtain ⟨y, hy⟩ : ∃ y, h[S]? = some y := ⟨_, List.getElem?_eq_getElem hS⟩
      obtain ⟨g, off, rfl, hc⟩ := HA.out.all (by omega)
      have x1 := hc T x hx
      have x2 := hc S y hy
      have T0 : (0 : Int) ≤ (T : Int) := by omega
      have T1 : (T : Int) < (h.length : Int) := by omega
      have S0 : (0 : Int) ≤ (S : Int) := by omega
      have S1 : (S : Int) < (h.length : Int) := by omega
      have HX := Lib.hid hx
      have HY := Lib.hid hy
      have HAN := Lib.hid hany
      rw [hany] at HCON
      clear hc hx hy hany
      by_cases hx0 : x = 0
      · subst hx0
        by_cases hy0 : y = (h.length : Int)
        · subst hy0
          go_enter Try.func25, Try.ntmps25
          go_wp2_with fail
          go_quiet ((go_at_call 38; exact Calls.quiet_of_same (HCON.out _)))
          go_wp2_with fail
          go_ret
          exact ⟨true, rfl, ⟨fun _ => ⟨rfl, (any_wrong _ _).1 HAN.out, HX.out, HY.out⟩, fun _ => rfl⟩, (((Fr.refl [] w).alloc _).drewN _)⟩
        · have r1 : (y == (h.length : Int)) = false := by simp; omega
          go_enter Try.func25, Try.ntmps25
          go_wp2_with fail
          go_quiet ((go_at_call 38; exact Calls.quiet_of_same (HCON.out _)))
          go_wp2_with fail
          go_ret
          exact ⟨false, rfl, ⟨fun h0 => by simp at h0, fun h0 => by have h1 := h0.2.2.2; rw [HY.out] at h1; exact absurd (Option.some.inj h1) hy0⟩, (((Fr.refl [] w).alloc _).drewN _)⟩
      · have r1 : (x == (0 : Int)) = false := by simp; omega
        go_enter Try.func25, Try.ntmps25
        go_wp2_with fail
        go_quiet ((go_at_call 38; exact Calls.quiet_of_same (HCON.out _)))
        go_wp2_with fail
        go_ret
        exact ⟨false, rfl, ⟨fun h0 => by simp at h0, fun h0 => by have h1 := h0.2.2.1; rw [HX.out] at h1; exact absurd (Option.some.inj h1) hx0⟩, (((Fr.refl [] w).alloc _).drewN _)⟩
    · have HAN := Lib.hid hany
      rw [hany] at HCON
      clear hany
      go_enter Try.func25, Try.ntmps25
      go_wp2_with fail
      go_quiet ((go_at_call 38; exact Calls.quiet_of_same (HCON.out _)))
      go_wp2_with fail
      go_ret
      exact ⟨false, rfl, ⟨fun h0 => by simp at h0, fun h0 => by have h1 := (any_wrong _ _).2 h0.2.1; rw [HAN.out] at h1; simp at h1⟩, (((Fr.refl [] w).alloc _).drewN _)⟩
  · have q1 : ((h.length : Int) == (N : Int)) = false := by simp; omega
    have q2 : ((h.length : Int) != (N : Int)) = true := by simp; omega
    have q3 : (h.length == N) = false := by simp; omega
    have q4 : (h.length != N) = true := by simp; omega
    go_enter Try.func25, Try.ntmps25
    go_wp2_with fail
    go_quiet ((go_at_call 38; exact Calls.quiet_of_same (HCON.out _)))
    go_wp2_with fail
    go_ret
    exact ⟨false, rfl, ⟨fun h0 => by simp at h0, fun h0 => absurd h0.1 hlen⟩, (((Fr.refl [] w).alloc _).drewN _)⟩

theorem right_any (G : Net) (hG : G.Ok) (AF AH AR AC AA AB : Option Addr) (cF cH cR cC cA cB : Nat) (A : Option Addr) (c : Nat) (h : List Int) (w : World) (hA : SlI w A h) (hl : h.length ≤ 9223372036854775807) :
    Calls Try.prog 25 #[.agg (csrCells G AF AH AR AC AA AB cF cH cR cC cA cB).toArray, .slice A h.length c] w (RightOk G.N G.S G.T h w) :=
  right_core G.N G.S G.T _ _ _ _ _ _ A c h w (by have := hG.n2; omega) hG.n16 hG.s hG.t hA hl
end Acq
