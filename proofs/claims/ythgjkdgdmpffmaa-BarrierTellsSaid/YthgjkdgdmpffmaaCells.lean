/- The contracts of package cells: what a load, a store, an addition, a compare-and-swap, Len do to a bank, at an index within. -/
import Derived.Test.YthgjkdgdmpffmaaMem
import Derived.Test.YthgjkdgdmpffmaaProg
import Derived.WalkSpells
import Derived.Handy
import Derived.Laws.LoneSync
namespace Acq
open Go Go.RowKit Go.Proofs

section
variable (w : World) (pb ab n : Nat) (i : Int)

theorem at_in (hb : w.cell? ⟨pb, 0, none⟩ = some (.slice (some ⟨ab, 0, none⟩) n n)) (h0 : 0 ≤ i) (h1 : i < n) :
    Calls Try.prog 18 #[.pointer (some ⟨pb, 0, none⟩), .int .i64 i] w fun e w' => e = .returned (.pointer (some ⟨ab, i.toNat, none⟩)) ∧ w = w' := by
  have h2 : decide ((n : Int) ≤ i) = false := by simpa using h1
  go_enter Try.func18, Try.ntmps18
  go_wp2
  go_ret
  exact ⟨rfl, rfl⟩

theorem load_in (x : Int) (hb : w.cell? ⟨pb, 0, none⟩ = some (.slice (some ⟨ab, 0, none⟩) n n)) (h0 : 0 ≤ i) (h1 : i < n) (hx : w.cell? ⟨ab, i.toNat, none⟩ = some (.int .i64 x)) :
    Calls Try.prog 9 #[.pointer (some ⟨pb, 0, none⟩), .int .i64 i] w fun e w' => e = .returned (.int .i64 x) ∧ w = w' := by
  have hl := run_call_load (P := Try.prog) Try.func31 (by kernel_rfl) (by kernel_rfl) (by kernel_rfl) .i64 (by kernel_rfl) hx
  go_enter Try.func9, Try.ntmps9
  go_wp2_with (first | (go_at_call 18; refine (at_in _ _ _ _ _ hb h0 h1).mono ?_; rintro e w' ⟨rfl, rfl⟩) | go_in)
  go_ret
  exact ⟨rfl, rfl⟩

theorem store_in (x : Value) (y : Int) (hb : w.cell? ⟨pb, 0, none⟩ = some (.slice (some ⟨ab, 0, none⟩) n n)) (h0 : 0 ≤ i) (h1 : i < n) (hx : w.cell? ⟨ab, i.toNat, none⟩ = some x) (hf : w.frozen? ⟨ab, i.toNat, none⟩ = false) :
    Calls Try.prog 34 #[.pointer (some ⟨pb, 0, none⟩), .int .i64 i, .int .i64 y] w fun e w' => e = .returned (.tuple #[]) ∧ w.setCell ⟨ab, i.toNat, none⟩ (.int .i64 y) = w' := by
  have hl := run_call_store (P := Try.prog) Try.func39 (by kernel_rfl) (by kernel_rfl) (by kernel_rfl) (by kernel_rfl) (k := .i64) (y := y) hx hf
  go_enter Try.func34, Try.ntmps34
  go_wp2_with (first | (go_at_call 18; refine (at_in _ _ _ _ _ hb h0 h1).mono ?_; rintro e w' ⟨rfl, rfl⟩) | go_in)
  go_end0
  exact ⟨rfl, rfl⟩

theorem add_in (x y : Int) (hb : w.cell? ⟨pb, 0, none⟩ = some (.slice (some ⟨ab, 0, none⟩) n n)) (h0 : 0 ≤ i) (h1 : i < n) (hx : w.cell? ⟨ab, i.toNat, none⟩ = some (.int .i64 x)) (hf : w.frozen? ⟨ab, i.toNat, none⟩ = false) :
    Calls Try.prog 36 #[.pointer (some ⟨pb, 0, none⟩), .int .i64 i, .int .i64 y] w fun e w' => e = .returned (.int .i64 (wrap64 (x + y))) ∧ w.setCell ⟨ab, i.toNat, none⟩ (.int .i64 (wrap64 (x + y))) = w' := by
  have hl := run_call_add (P := Try.prog) Try.func40 (by kernel_rfl) (by kernel_rfl) (by kernel_rfl) .i64 (by kernel_rfl) (y := y) (s := wrap64 (x + y)) hx hf (by simp [Op.intArith, IntKind.wrap_i64, wrap64])
  go_enter Try.func36, Try.ntmps36
  go_wp2_with (first | (go_at_call 18; refine (at_in _ _ _ _ _ hb h0 h1).mono ?_; rintro e w' ⟨rfl, rfl⟩) | go_in)
  go_ret
  exact ⟨rfl, rfl⟩

theorem len_in (hb : w.cell? ⟨pb, 0, none⟩ = some (.slice (some ⟨ab, 0, none⟩) n n)) :
    Calls Try.prog 30 #[.pointer (some ⟨pb, 0, none⟩)] w fun e w' => e = .returned (.int .i64 n) ∧ w = w' := by
  go_enter Try.func30, Try.ntmps30
  go_wp2
  go_ret
  exact ⟨rfl, rfl⟩
end

/-- `pb` is the place of a bank, whose cells lie in block `ab` and have `vals`. -/
def Bank (w : World) (pb ab : Nat) (vals : List Int) : Prop :=
  pb ≠ ab ∧ (∃ T, Blk w pb [.slice (some ⟨ab, 0, none⟩) vals.length vals.length] T) ∧ ∃ T, Blk w ab (vals.map (.int .i64)) T

section
variable {w w' : World} {pb ab : Nat} {vals : List Int}

theorem Bank.slice (h : Bank w pb ab vals) : w.cell? ⟨pb, 0, none⟩ = some (.slice (some ⟨ab, 0, none⟩) vals.length vals.length) := by
  obtain ⟨_, ⟨T, h⟩, _⟩ := h; exact h.cell rfl
theorem Bank.get (h : Bank w pb ab vals) {i : Nat} {x : Int} (hx : vals[i]? = some x) : w.cell? ⟨ab, i, none⟩ = some (.int .i64 x) := by
  obtain ⟨_, _, T, h⟩ := h; exact h.cell (by simp [hx])
theorem Bank.free (h : Bank w pb ab vals) (i : Nat) : w.frozen? ⟨ab, i, none⟩ = false := by
  obtain ⟨_, _, T, h⟩ := h; exact h.free _
theorem Bank.lt (h : Bank w pb ab vals) : pb < w.heap.size ∧ ab < w.heap.size := by
  obtain ⟨_, ⟨_, h⟩, T, h'⟩ := h; exact ⟨h.lt, h'.lt⟩
theorem Bank.alloc (h : Bank w pb ab vals) (o : Obj) : Bank (w.alloc o) pb ab vals := by
  obtain ⟨hn, ⟨T, h⟩, T', h'⟩ := h; exact ⟨hn, ⟨T, h.alloc o⟩, T', h'.alloc o⟩
theorem Bank.drew (h : Bank w pb ab vals) : Bank w.drew pb ab vals := h
theorem Bank.drewN (h : Bank w pb ab vals) (n : Nat) : Bank (w.drewN n) pb ab vals := h
theorem Bank.redraw (h : Bank w pb ab vals) (n : Nat) : Bank (Redraw w n) pb ab vals := h
theorem Bank.other (h : Bank w pb ab vals) {a : Addr} (hp : pb ≠ a.block) (ha : ab ≠ a.block) (v : Value) : Bank (w.setCell a v) pb ab vals := by
  obtain ⟨hn, ⟨T, h⟩, T', h'⟩ := h; exact ⟨hn, ⟨T, h.other hp v⟩, T', h'.other ha v⟩
theorem Bank.away (h : Bank w pb ab vals) {c o : Nat} (hp : pb ≠ c) (ha : ab ≠ c) (v : Value) : Bank (w.setCell ⟨c, o, none⟩ v) pb ab vals := h.other hp ha v
theorem Bank.set (h : Bank w pb ab vals) (i : Nat) (x : Int) : Bank (w.setCell ⟨ab, i, none⟩ (.int .i64 x)) pb ab (vals.set i x) := by
  obtain ⟨hn, ⟨T, h⟩, T', h'⟩ := h
  exact ⟨hn, ⟨T, by have := h.other (a := ⟨ab, i, none⟩) hn (.int .i64 x); simpa using this⟩, T', by have := h'.set i (.int .i64 x); rwa [List.map_set]⟩
theorem Bank.below {B : Nat} (h : Bank w pb ab vals) (hb : Below B w w') (h1 : pb < B) (h2 : ab < B) : Bank w' pb ab vals := by
  obtain ⟨hn, ⟨T, h⟩, T', h'⟩ := h; exact ⟨hn, ⟨T, h.below hb h1⟩, T', h'.below hb h2⟩

theorem Bank.otherRow (h : Bank w pb ab vals) {c : Nat} (hp : pb ≠ c) (ha : ab ≠ c) (cs : Array Value) : Bank (w.setRow c cs) pb ab vals := by
  obtain ⟨hn, ⟨T, h⟩, T', h'⟩ := h; exact ⟨hn, ⟨T, h.otherRow hp cs⟩, T', h'.otherRow ha cs⟩
theorem Bank.fr {S : List Nat} (h : Bank w pb ab vals) (k : Fr S w w') (hp : pb ∉ S) (ha : ab ∉ S) : Bank w' pb ab vals := by
  obtain ⟨hn, ⟨T, h⟩, T', h'⟩ := h; exact ⟨hn, ⟨T, h.fr k hp⟩, T', h'.fr k ha⟩

theorem load_bank (h : Bank w pb ab vals) (i : Int) (x : Int) (h0 : 0 ≤ i) (hx : vals[i.toNat]? = some x) :
    Calls Try.prog 9 #[.pointer (some ⟨pb, 0, none⟩), .int .i64 i] w fun e w' => e = .returned (.int .i64 x) ∧ w = w' :=
  load_in w pb ab vals.length i x h.slice h0 (by have := (List.getElem?_eq_some_iff.1 hx).1; omega) (h.get hx)

theorem store_bank (h : Bank w pb ab vals) (i : Int) (y : Int) (h0 : 0 ≤ i) (h1 : i.toNat < vals.length) :
    Calls Try.prog 34 #[.pointer (some ⟨pb, 0, none⟩), .int .i64 i, .int .i64 y] w fun e w' => e = .returned (.tuple #[]) ∧ w.setCell ⟨ab, i.toNat, none⟩ (.int .i64 y) = w' :=
  store_in w pb ab vals.length i _ y h.slice h0 (by omega) (h.get (List.getElem?_eq_getElem h1)) (h.free _)

theorem add_bank (h : Bank w pb ab vals) (i : Int) (x y s : Int) (h0 : 0 ≤ i) (hx : vals[i.toNat]? = some x) (hs : wrap64 (x + y) = s) :
    Calls Try.prog 36 #[.pointer (some ⟨pb, 0, none⟩), .int .i64 i, .int .i64 y] w fun e w' => e = .returned (.int .i64 s) ∧ w.setCell ⟨ab, i.toNat, none⟩ (.int .i64 s) = w' := by
  subst hs
  exact add_in w pb ab vals.length i x y h.slice h0 (by have := (List.getElem?_eq_some_iff.1 hx).1; omega) (h.get hx) (h.free _)
end
end Acq
