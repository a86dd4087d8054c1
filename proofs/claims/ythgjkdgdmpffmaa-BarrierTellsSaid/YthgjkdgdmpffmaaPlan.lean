/- The contracts of cells.Plan, cells.New, Bank.All. -/
import Derived.Test.YthgjkdgdmpffmaaCells
import Derived.Deep.QuietTactic
import Derived.BigQuiet
import Derived.Lib.Hide
set_option linter.unusedSimpArgs false
set_option linter.unusedVariables false
namespace Acq
open Go Go.RowKit Go.Proofs

/-- The least power of two that is not less than `v` (of at most `2 ^ fuel` times `n`). -/
def roomAux : Nat → Nat → Nat → Nat
  | 0, n, _ => n
  | f + 1, n, v => if n < v then roomAux f (2 * n) v else n

def roomOf (v : Nat) : Nat := roomAux 12 1 v

/-- A layout: what Plan was asked for, and the room that it found. -/
structure Lay where
  verts : Nat
  arcs : Nat
  workers : Nat
  room : Nat

def Lay.ex (l : Lay) : Nat := l.arcs
def Lay.h (l : Lay) : Nat := l.arcs + l.verts
def Lay.flag (l : Lay) : Nat := l.arcs + 2 * l.verts
def Lay.pending (l : Lay) : Nat := l.arcs + 3 * l.verts
def Lay.ask (l : Lay) : Nat := l.arcs + 3 * l.verts + 1
def Lay.count (l : Lay) : Nat := l.arcs + 3 * l.verts + 2
def Lay.sense (l : Lay) : Nat := l.arcs + 3 * l.verts + 3
def Lay.deques (l : Lay) : Nat := l.arcs + 3 * l.verts + 4
def Lay.size (l : Lay) : Nat := l.arcs + 3 * l.verts + 4 + l.workers * (l.room + 2)

def i64 (n : Nat) : Value := .int .i64 n

def Lay.cells (l : Lay) : List Value :=
  [i64 l.verts, i64 l.arcs, i64 l.workers, i64 l.room, i64 0, i64 l.ex, i64 l.h, i64 l.flag, i64 l.pending, i64 l.ask, i64 l.count, i64 l.sense, i64 l.deques, i64 l.size]

theorem room_any (v : Nat) (hv : v ≤ 4096) (w : World) :
    Calls Try.prog 32 #[.int .i64 v] w fun e w' => e = .returned (.int .i64 (roomOf v)) ∧ w = w' := by
  go_enter Try.func32, Try.ntmps32
  go_wp2
  go_loop [3] (fun n => ∃ j : Nat, j ≤ 12 ∧ roomAux (12 - j) (2 ^ j) v = roomOf v ∧ n = .int .i64 ((2 ^ j : Nat) : Int)) (fun n => 8192 - (intOf n).toNat)
  case atStart => exact ⟨0, by omega, rfl, rfl⟩
  case round =>
    obtain ⟨j, hj, hr, rfl⟩ := hrel
    have hp : 2 ^ j ≤ 2 ^ 12 := Nat.pow_le_pow_right (by omega) hj
    have hp0 : 0 < 2 ^ j := Nat.pow_pos (by omega)
    have hlt12 : 2 ^ j < v → j < 12 := fun h => by
      rcases Nat.lt_or_ge j 12 with h' | h'
      · exact h'
      · have : j = 12 := by omega
        subst this; omega
    have hs : (2 ^ (j + 1) : Nat) = 2 * 2 ^ j := by rw [Nat.pow_succ]; omega
    by_cases hlt : 2 ^ j < v
    · have hj' := hlt12 hlt
      have hr' : roomAux (12 - (j + 1)) (2 ^ (j + 1)) v = roomOf v := by
        rw [← hr, show 12 - j = (12 - (j + 1)) + 1 from by omega, roomAux, if_pos hlt, hs]
      have H : Hid (roomAux (12 - (j + 1)) (2 ^ (j + 1)) v = roomOf v ∧ (2 ^ (j + 1) : Nat) = 2 * 2 ^ j) := ⟨hr', hs⟩
      clear hr hr' hs hlt12
      generalize hq : (2 ^ j : Nat) = q at *
      have Hq : Hid (2 ^ j = q) := hq
      clear hq
      go_wp2
      go_round
      case rel => exact ⟨j + 1, by omega, H.out.1, by rw [H.out.2]; exact val_int (by omega)⟩
      case measure => simp [intOf]; omega
    · have hr' : roomOf v = 2 ^ j := by
        rw [← hr]
        cases h : 12 - j with
        | zero => rfl
        | succ k => rw [roomAux, if_neg hlt]
      have H : Hid (roomOf v = 2 ^ j) := hr'
      clear hr hr' hs hlt12
      generalize hq : (2 ^ j : Nat) = q at *
      go_wp2
      go_ret
      exact ⟨ret_int (by rw [H.out]), rfl⟩

theorem roomAux_spec : ∀ (f n v : Nat), 1 ≤ n → n ≤ roomAux f n v ∧ (n ≤ 4096 → v ≤ 4096 → n < v → roomAux f n v < 2 * v) ∧ (v ≤ n → roomAux f n v = n) ∧ (v ≤ n * 2 ^ f → v ≤ roomAux f n v)
  | 0, n, v, h => ⟨Nat.le_refl _, fun _ _ h => by simp only [roomAux]; omega, fun _ => rfl, fun h => by simpa [roomAux] using h⟩
  | f + 1, n, v, h => by
    obtain ⟨h1, h2, h3, h4⟩ := roomAux_spec f (2 * n) v (by omega)
    unfold roomAux
    refine ⟨?_, ?_, ?_, ?_⟩
    · split <;> omega
    · intro hn hv hlt
      rw [if_pos hlt]
      rcases Nat.lt_or_ge (2 * n) v with h' | h'
      · exact h2 (by omega) hv h'
      · rw [h3 h']; omega
    · intro hv
      rw [if_neg (by omega)]
    · intro hv
      split
      · exact h4 (by rw [show 2 * n * 2 ^ f = n * 2 ^ (f + 1) from by rw [Nat.pow_succ]; rw [Nat.mul_comm 2 n, Nat.mul_assoc, Nat.mul_comm 2]]; exact hv)
      · omega

theorem roomOf_le (v : Nat) (hv : v ≤ 4096) : 1 ≤ roomOf v ∧ roomOf v ≤ 8192 ∧ v ≤ roomOf v := by
  obtain ⟨h1, h2, h3, h4⟩ := roomAux_spec 12 1 v (Nat.le_refl _)
  refine ⟨h1, ?_, h4 (by omega)⟩
  unfold roomOf
  rcases Nat.lt_or_ge 1 v with h | h
  · have := h2 (by omega) hv h; omega
  · rw [h3 h]; omega

theorem room_at (v r : Nat) (hv : v ≤ 4096) (hr : roomOf v = r) (w : World) :
    Calls Try.prog 32 #[.int .i64 v] w fun e w' => e = .returned (.int .i64 r) ∧ w = w' := by
  subst hr; exact room_any v hv w

theorem more_any (s n : Int) (lb : Nat) (w : World) (hs : 0 ≤ s) (hn : 0 ≤ n) (hb : s + n ≤ 1000000) (t : Int) (ht : s + n = t) (hc : w.cell? ⟨lb, 13, none⟩ = some (.int .i64 s)) (hf : w.frozen? ⟨lb, 13, none⟩ = false) :
    Calls Try.prog 33 #[.int .i64 n, .pointer (some ⟨lb, 0, none⟩)] w fun e w' => e = .returned (.int .i64 s) ∧ w.setCell ⟨lb, 13, none⟩ (.int .i64 t) = w' := by
  subst ht
  go_enter Try.func33, Try.ntmps33
  go_wp2
  go_ret
  exact ⟨ret_int (by omega), rfl⟩

set_option maxHeartbeats 1000000 in
theorem Plan_any (v a k r : Nat) (hv : v ≤ 4096) (ha : a ≤ 32768) (hk : 1 ≤ k) (hk' : k ≤ 64) (hr : roomOf v = r) (w : World) :
    Calls Try.prog 20 #[.int .i64 v, .int .i64 a, .int .i64 k] w fun e w' => e = .returned (.tuple #[.agg (Lay.cells ⟨v, a, k, r⟩).toArray, .int .i64 0]) ∧ Fr [] w w' := by
  obtain ⟨hr1, hr2, _⟩ := roomOf_le v hv
  rw [hr] at hr1 hr2
  have d1 : decide ((v : Int) < 0) = false := by simp
  have d2 : decide ((4096 : Int) < v) = false := by simp; omega
  have d3 : decide ((a : Int) < 0) = false := by simp
  have d4 : decide ((32768 : Int) < a) = false := by simp; omega
  have d5 : decide ((k : Int) < 1) = false := by simp; omega
  have d6 : decide ((64 : Int) < k) = false := by simp; omega
  have hkr : (k : Int) * (r + 2) ≤ 64 * 8194 := by
    have : k * (r + 2) ≤ 64 * 8194 := Nat.mul_le_mul hk' (by omega)
    have e : ((k * (r + 2) : Nat) : Int) = (k : Int) * (r + 2) := by simp
    omega
  have hkr0 : 0 ≤ (k : Int) * (r + 2) := Int.mul_nonneg (by omega) (by omega)
  have H := Lib.hid hr
  clear hr
  go_enter Try.func20, Try.ntmps20
  have b1 := Blk.new w [.int .i64 0, .int .i64 0, .int .i64 0, .int .i64 0, .int .i64 0, .int .i64 0, .int .i64 0, .int .i64 0, .int .i64 0, .int .i64 0, .int .i64 0, .int .i64 0, .int .i64 0, .int .i64 0] 28
  have b2 := Blk.new (w.alloc (.cells #[.int .i64 0, .int .i64 0, .int .i64 0, .int .i64 0, .int .i64 0, .int .i64 0, .int .i64 0, .int .i64 0, .int .i64 0, .int .i64 0, .int .i64 0, .int .i64 0, .int .i64 0, .int .i64 0] 28)) [.int .i64 v, .int .i64 a, .int .i64 k, .int .i64 r, .int .i64 0, .int .i64 (a : Int), .int .i64 ((a : Int) + v), .int .i64 ((a : Int) + v + v), .int .i64 ((a : Int) + v + v + v), .int .i64 ((a : Int) + v + v + v + 1), .int .i64 ((a : Int) + v + v + v + 2), .int .i64 ((a : Int) + v + v + v + 3), .int .i64 ((a : Int) + v + v + v + 4), .int .i64 ((a : Int) + v + v + v + 4 + k * (r + 2))] 28
  rw [World.size_alloc] at b2
  go_wp2_with (first | (go_at_call 32; refine (room_at v r hv H.out _).mono ?_; rintro e w' ⟨rfl, rfl⟩) | (refine wl_build rfl (t := 28) rfl #[.int .i64 v, .int .i64 a, .int .i64 k, .int .i64 r, .int .i64 0, .int .i64 0, .int .i64 0, .int .i64 0, .int .i64 0, .int .i64 0, .int .i64 0, .int .i64 0, .int .i64 0, .int .i64 0] (by kernel_rfl) ?_) | (refine wl_store_new rfl rfl [.int .i64 v, .int .i64 a, .int .i64 k, .int .i64 r, .int .i64 0, .int .i64 0, .int .i64 0, .int .i64 0, .int .i64 0, .int .i64 0, .int .i64 0, .int .i64 0, .int .i64 0, .int .i64 0] (by simp) rfl rfl (by kernel_rfl) rfl rfl ?_))
  refine (more_any (0) a (w.heap.size + 1) _ (by omega) (by omega) (by omega) ((a : Int)) (by omega) (by simp) (by simp)).mono ?_
  rintro e w' ⟨rfl, rfl⟩
  go_wp2_with fail
  refine (more_any ((a : Int)) v (w.heap.size + 1) _ (by omega) (by omega) (by omega) ((a : Int) + v) (by omega) (by simp) (by simp)).mono ?_
  rintro e w' ⟨rfl, rfl⟩
  go_wp2_with fail
  refine (more_any ((a : Int) + v) v (w.heap.size + 1) _ (by omega) (by omega) (by omega) ((a : Int) + v + v) (by omega) (by simp) (by simp)).mono ?_
  rintro e w' ⟨rfl, rfl⟩
  go_wp2_with fail
  refine (more_any ((a : Int) + v + v) v (w.heap.size + 1) _ (by omega) (by omega) (by omega) ((a : Int) + v + v + v) (by omega) (by simp) (by simp)).mono ?_
  rintro e w' ⟨rfl, rfl⟩
  go_wp2_with fail
  refine (more_any ((a : Int) + v + v + v) 1 (w.heap.size + 1) _ (by omega) (by omega) (by omega) ((a : Int) + v + v + v + 1) (by omega) (by simp) (by simp)).mono ?_
  rintro e w' ⟨rfl, rfl⟩
  go_wp2_with fail
  refine (more_any ((a : Int) + v + v + v + 1) 1 (w.heap.size + 1) _ (by omega) (by omega) (by omega) ((a : Int) + v + v + v + 2) (by omega) (by simp) (by simp)).mono ?_
  rintro e w' ⟨rfl, rfl⟩
  go_wp2_with fail
  refine (more_any ((a : Int) + v + v + v + 2) 1 (w.heap.size + 1) _ (by omega) (by omega) (by omega) ((a : Int) + v + v + v + 3) (by omega) (by simp) (by simp)).mono ?_
  rintro e w' ⟨rfl, rfl⟩
  go_wp2_with fail
  refine (more_any ((a : Int) + v + v + v + 3) 1 (w.heap.size + 1) _ (by omega) (by omega) (by omega) ((a : Int) + v + v + v + 4) (by omega) (by simp) (by simp)).mono ?_
  rintro e w' ⟨rfl, rfl⟩
  go_wp2_with fail
  refine (more_any ((a : Int) + v + v + v + 4) ((k : Int) * (r + 2)) (w.heap.size + 1) _ (by omega) (by omega) (by omega) ((a : Int) + v + v + v + 4 + k * (r + 2)) (by omega) (by simp) (by simp)).mono ?_
  rintro e w' ⟨rfl, rfl⟩
  go_wp2_with (first | (refine wl_load rfl rfl rfl [.int .i64 v, .int .i64 a, .int .i64 k, .int .i64 r, .int .i64 0, .int .i64 (a : Int), .int .i64 ((a : Int) + v), .int .i64 ((a : Int) + v + v), .int .i64 ((a : Int) + v + v + v), .int .i64 ((a : Int) + v + v + v + 1), .int .i64 ((a : Int) + v + v + v + 2), .int .i64 ((a : Int) + v + v + v + 3), .int .i64 ((a : Int) + v + v + v + 4), .int .i64 ((a : Int) + v + v + v + 4 + k * (r + 2))] b2 Try.underlying28 rfl (by kernel_rfl) ?_) | (refine wl_store rfl rfl [.int .i64 v, .int .i64 a, .int .i64 k, .int .i64 r, .int .i64 0, .int .i64 (a : Int), .int .i64 ((a : Int) + v), .int .i64 ((a : Int) + v + v), .int .i64 ((a : Int) + v + v + v), .int .i64 ((a : Int) + v + v + v + 1), .int .i64 ((a : Int) + v + v + v + 2), .int .i64 ((a : Int) + v + v + v + 3), .int .i64 ((a : Int) + v + v + v + 4), .int .i64 ((a : Int) + v + v + v + 4 + k * (r + 2))] rfl rfl (b1.alloc _) (by kernel_rfl) rfl rfl ?_))
  refine ret_ct rfl rfl ((b1.alloc _).row [.int .i64 v, .int .i64 a, .int .i64 k, .int .i64 r, .int .i64 0, .int .i64 (a : Int), .int .i64 ((a : Int) + v), .int .i64 ((a : Int) + v + v), .int .i64 ((a : Int) + v + v + v), .int .i64 ((a : Int) + v + v + v + 1), .int .i64 ((a : Int) + v + v + v + 2), .int .i64 ((a : Int) + v + v + v + 3), .int .i64 ((a : Int) + v + v + v + 4), .int .i64 ((a : Int) + v + v + v + 4 + k * (r + 2))]) Try.underlying28 rfl (by kernel_rfl) rfl ⟨?_, ?_⟩
  · have e : ∀ (x : Int) (n : Nat), x = n → Value.int .i64 x = i64 n := fun x n h => val_int h
    refine congrArg (fun l : List Value => Ending.returned (.tuple #[.agg l.toArray, .int .i64 0])) ?_
    have ek : ((k * (r + 2) : Nat) : Int) = (k : Int) * (r + 2) := by simp
    simp only [Lay.cells, List.cons.injEq, and_true]
    refine ⟨rfl, rfl, rfl, rfl, rfl, rfl, e _ _ ?_, e _ _ ?_, e _ _ ?_, e _ _ ?_, e _ _ ?_, e _ _ ?_, e _ _ ?_, e _ _ ?_⟩ <;>
      simp only [Lay.h, Lay.flag, Lay.pending, Lay.ask, Lay.count, Lay.sense, Lay.deques, Lay.size] <;> omega
  · exact (((Fr.refl _ w).alloc _).alloc _).setRow (.inr (by simp)) _

end Acq
