/- The contracts of barrier.NewArrive, barrier.Ready, and of the law's own bank. -/
import Derived.Test.YthgjkdgdmpffmaaNew
set_option linter.unusedSimpArgs false
set_option linter.unusedVariables false
namespace Acq
open Go Go.RowKit Go.Proofs

theorem NewArrive_lit (x0 x1 x2 x3 x4 x5 x6 x7 x8 x9 x10 x11 x12 x13 : Int) (w : World) :
    Calls Try.prog 12 #[.agg #[.int .i64 x0, .int .i64 x1, .int .i64 x2, .int .i64 x3, .int .i64 x4, .int .i64 x5, .int .i64 x6, .int .i64 x7, .int .i64 x8, .int .i64 x9, .int .i64 x10, .int .i64 x11, .int .i64 x12, .int .i64 x13]] w fun e w' => e = .returned (.agg #[.int .i64 x0, .int .i64 x1, .int .i64 x2, .int .i64 x3, .int .i64 x4, .int .i64 x5, .int .i64 x6, .int .i64 x7, .int .i64 x8, .int .i64 x9, .int .i64 x10, .int .i64 x11, .int .i64 x12, .int .i64 x13, .int .u8 0, .int .i64 0, .bool false]) ∧ Fr [] w w' := by
  have b1 := Blk.new w [.int .i64 x0, .int .i64 x1, .int .i64 x2, .int .i64 x3, .int .i64 x4, .int .i64 x5, .int .i64 x6, .int .i64 x7, .int .i64 x8, .int .i64 x9, .int .i64 x10, .int .i64 x11, .int .i64 x12, .int .i64 x13] 28
  have b2 := Blk.new (w.alloc (.cells #[.int .i64 x0, .int .i64 x1, .int .i64 x2, .int .i64 x3, .int .i64 x4, .int .i64 x5, .int .i64 x6, .int .i64 x7, .int .i64 x8, .int .i64 x9, .int .i64 x10, .int .i64 x11, .int .i64 x12, .int .i64 x13] 28)) [.int .i64 0, .int .i64 0, .int .i64 0, .int .i64 0, .int .i64 0, .int .i64 0, .int .i64 0, .int .i64 0, .int .i64 0, .int .i64 0, .int .i64 0, .int .i64 0, .int .i64 0, .int .i64 0, .int .u8 0, .int .i64 0, .bool false] 46
  rw [World.size_alloc] at b2
  go_enter Try.func12, Try.ntmps12
  go_wp2_with (first | (refine wl_load rfl rfl rfl [.int .i64 x0, .int .i64 x1, .int .i64 x2, .int .i64 x3, .int .i64 x4, .int .i64 x5, .int .i64 x6, .int .i64 x7, .int .i64 x8, .int .i64 x9, .int .i64 x10, .int .i64 x11, .int .i64 x12, .int .i64 x13] (Blk.alloc b1 _) Try.underlying28 rfl (by kernel_rfl) ?_) | (refine wl_build rfl (t := 46) rfl #[.int .i64 x0, .int .i64 x1, .int .i64 x2, .int .i64 x3, .int .i64 x4, .int .i64 x5, .int .i64 x6, .int .i64 x7, .int .i64 x8, .int .i64 x9, .int .i64 x10, .int .i64 x11, .int .i64 x12, .int .i64 x13, .int .u8 0, .int .i64 0, .bool false] (by kernel_rfl) ?_) | (refine wl_store rfl rfl [.int .i64 x0, .int .i64 x1, .int .i64 x2, .int .i64 x3, .int .i64 x4, .int .i64 x5, .int .i64 x6, .int .i64 x7, .int .i64 x8, .int .i64 x9, .int .i64 x10, .int .i64 x11, .int .i64 x12, .int .i64 x13, .int .u8 0, .int .i64 0, .bool false] rfl rfl b2 (by kernel_rfl) rfl rfl ?_))
  refine ret_c rfl rfl (b2.row [.int .i64 x0, .int .i64 x1, .int .i64 x2, .int .i64 x3, .int .i64 x4, .int .i64 x5, .int .i64 x6, .int .i64 x7, .int .i64 x8, .int .i64 x9, .int .i64 x10, .int .i64 x11, .int .i64 x12, .int .i64 x13, .int .u8 0, .int .i64 0, .bool false]) Try.underlying46 rfl (by kernel_rfl) rfl ⟨rfl, ?_⟩
  exact ((((Fr.refl _ w).alloc _).alloc _).setRow (.inr (by simp)) _)

/-- A new Arrive's cells. -/
def Lay.arr (l : Lay) : List Value := l.cells ++ [.int .u8 0, .int .i64 0, .bool false]

theorem NewArrive_any (l : Lay) (w : World) :
    Calls Try.prog 12 #[.agg l.cells.toArray] w fun e w' => e = .returned (.agg l.arr.toArray) ∧ Fr [] w w' :=
  NewArrive_lit _ _ _ _ _ _ _ _ _ _ _ _ _ _ w

theorem Ready_any (l : Lay) (pb ab : Nat) (vals : List Int) (w : World) (hB : Bank w pb ab vals) (hl : l.sense < vals.length) :
    Calls Try.prog 22 #[.agg l.cells.toArray, .pointer (some ⟨pb, 0, none⟩)] w fun e w' => e = .returned (.tuple #[]) ∧
      Bank w' pb ab ((vals.set l.count l.workers).set l.sense 0) ∧ Fr [ab] w w' := by
  have h1 : l.count < vals.length := by unfold Lay.count; unfold Lay.sense at hl; omega
  have hlt := hB.lt
  simp only [Lay.cells, i64]
  generalize hcc : l.count = cc at *
  generalize hss : l.sense = ss at *
  generalize hkk : l.workers = kk at *
  clear hcc hss hkk
  go_enter Try.func22, Try.ntmps22
  go_wp2_with fail
  refine (store_bank (hB.alloc _) _ _ (by omega) (by simpa using h1)).mono ?_
  rintro e w' ⟨rfl, rfl⟩
  go_wp2_with fail
  refine (store_bank ((hB.set cc kk).alloc _) _ _ (by omega) (by simpa using hl)).mono ?_
  rintro e w' ⟨rfl, rfl⟩
  go_wp2_with fail
  go_returns
  refine ⟨rfl, ?_, ?_⟩
  · repeat (first | (with_reducible exact hB) | (with_reducible apply Bank.alloc) | (with_reducible apply Bank.redraw) | (with_reducible apply Bank.set))
  · repeat (first | (with_reducible exact Fr.refl _ _) | (with_reducible apply Fr.alloc) | (with_reducible apply Fr.redraw) | (with_reducible refine Fr.setCell ?_ (by simp) _))

/-- The law's bank: `n` workers, nobody has come. -/
def lay14 (n : Nat) : Lay := ⟨2, 1, n, 2⟩
def bank14 (n : Nat) : List Int := ((List.replicate (lay14 n).size (0 : Int)).set (lay14 n).count (n : Int)).set (lay14 n).sense 0

theorem bank_core (l : Lay) (n v a sz : Nat) (ls : List Value) (hls : ls = l.cells) (hsz : sz = l.size) (hl1 : sz ≤ 524288) (hss : l.sense < sz)
    (hplan : ∀ W, Calls Try.prog 20 #[.int .i64 2, .int .i64 1, .int .i64 n] W fun e w' => e = .returned (.tuple #[.agg ls.toArray, .int .i64 0]) ∧ Fr [] W w') (w : World) :
    Calls Try.prog 10 #[.int .i64 n] w fun e w' => ∃ pb ab, e = .returned (.tuple #[.agg ls.toArray, .pointer (some ⟨pb, 0, none⟩), .bool true]) ∧ Bank w' pb ab (((List.replicate sz (0 : Int)).set l.count (l.workers : Int)).set l.sense 0) ∧ w.heap.size ≤ pb ∧ w.heap.size ≤ ab ∧ Fr [] w w' := by
  have H1 : Hid (ls.all (·.oneCell') = true) := by unfold Hid; subst hls; rfl
  have h13 : ls[13]? = some (.int .i64 (sz : Int)) := by subst hls; subst hsz; rfl
  have H2 : Hid (ls.length = 14) := by unfold Hid; subst hls; rfl
  have H3 : Hid (∀ (pb ab : Nat) (W : World), Bank W pb ab (List.replicate sz (0 : Int)) → Calls Try.prog 22 #[.agg ls.toArray, .pointer (some ⟨pb, 0, none⟩)] W fun e w' => e = .returned (.tuple #[]) ∧
      Bank w' pb ab (((List.replicate sz (0 : Int)).set l.count l.workers).set l.sense 0) ∧ Fr [ab] W w') := fun pb ab W hB => by
    have := Ready_any l pb ab _ W hB (by simpa using hss)
    rw [hls]; exact this
  have H4 := Lib.hid hplan
  clear hplan hls hsz hss
  generalize hV : (((List.replicate sz (0 : Int)).set l.count (l.workers : Int)).set l.sense 0) = V at *
  clear hV
  have b0 := Blk.new w [.int .i64 0, .int .i64 0, .int .i64 0, .int .i64 0, .int .i64 0, .int .i64 0, .int .i64 0, .int .i64 0, .int .i64 0, .int .i64 0, .int .i64 0, .int .i64 0, .int .i64 0, .int .i64 0] 28
  go_enter Try.func10, Try.ntmps10
  go_wp2_with fail
  refine (H4.out _).mono ?_
  rintro e w1 ⟨rfl, hF1⟩
  have b1 := b0.fr hF1 (by simp)
  have hG1 := ((Fr.refl [] w).alloc _).trans hF1
  have hz1 := hG1.size
  clear hF1 b0
  go_wp2_with (first | (refine wl_store_new rfl rfl ls (by simp) rfl rfl (by rw [H2.out]; kernel_rfl) (by rw [H2.out]; rfl) H1.out ?_))
  refine (New_any sz (by omega) _).mono ?_
  rintro e w2 ⟨rfl, hB2, hF2⟩
  rw [World.size_alloc] at hB2
  have bl := (Blk.new w1 ls 28).fr hF2 (by simp)
  have b2 := (b1.alloc (.cells ls.toArray 28)).fr hF2 (by simp)
  have hG2 := (hG1.alloc (.cells ls.toArray 28)).trans hF2
  have hz2 : w1.heap.size + 1 ≤ w2.heap.size := by have := hF2.size; rwa [World.size_alloc] at this
  clear hF2 hG1 b1
  go_wp2_with (first | (refine wl_load rfl rfl rfl ls bl Try.underlying28 rfl (by rw [H2.out]; kernel_rfl) ?_))
  refine (H3.out _ _ _ hB2).mono ?_
  rintro e w3 ⟨rfl, hB3, hF3⟩
  have bl3 := bl.fr hF3 (by simp)
  have b3 := b2.fr hF3 (by simp; omega)
  have hG3 : Fr [] w w3 := ((hG2.more (S' := [w1.heap.size + 1]) (by simp)).trans hF3).less (by simp; omega)
  clear hF3 hG2 b2 bl hB2
  go_wp2_with (first | (refine wl_load rfl rfl rfl ls bl3 Try.underlying28 rfl (by rw [H2.out]; kernel_rfl) ?_) | (refine wl_store rfl rfl ls rfl rfl b3 (by rw [H2.out]; kernel_rfl) (by rw [H2.out]; rfl) H1.out ?_))
  refine ret_ctt rfl rfl (b3.row ls) Try.underlying28 rfl (by rw [H2.out]; kernel_rfl) rfl ⟨w1.heap.size + 1 + 1, w1.heap.size + 1, rfl, ?_, ?_, ?_, ?_⟩
  · exact hB3.otherRow (by omega) (by omega) _
  · omega
  · omega
  · exact hG3.setRow (.inr (Nat.le_refl _)) _

theorem bank_any (n : Nat) (h1 : 1 ≤ n) (h2 : n ≤ 64) (w : World) :
    Calls Try.prog 10 #[.int .i64 n] w fun e w' => ∃ pb ab, e = .returned (.tuple #[.agg (lay14 n).cells.toArray, .pointer (some ⟨pb, 0, none⟩), .bool true]) ∧ Bank w' pb ab (bank14 n) ∧ w.heap.size ≤ pb ∧ w.heap.size ≤ ab ∧ Fr [] w w' :=
  bank_core (lay14 n) n 2 1 _ _ rfl rfl (by simp only [Lay.size, lay14]; omega) (by simp only [Lay.size, Lay.sense, lay14]; omega) (fun W => Plan_any 2 1 n 2 (by omega) (by omega) h1 h2 (by decide) W) w

end Acq
