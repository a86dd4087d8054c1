/- The contracts of package barrier: what one step of an Arrive does, stage by stage. -/
import Derived.Test.YthgjkdgdmpffmaaCells
import Derived.Deep.QuietTactic
import Derived.BigQuiet
import Derived.StillTailTactics
set_option linter.unusedSimpArgs false
set_option linter.unusedVariables false
namespace Acq
open Go Go.RowKit Go.Proofs

/-- An Arrive's own three cells. -/
structure ArrS where
  nx : Int
  ow : Int
  lst : Bool

/-- The cells `xs` hold an Arrive from `oa` on: where Count and Sense are, how many workers; and its own three. -/
def ArrL (xs : List Value) (oa : Nat) (ci si : Nat) (wk : Int) (a : ArrS) : Prop :=
  xs[oa + 2]? = some (.int .i64 wk) ∧ xs[oa + 10]? = some (.int .i64 ci) ∧ xs[oa + 11]? = some (.int .i64 si) ∧
  xs[oa + 14]? = some (.int .u8 a.nx) ∧ xs[oa + 15]? = some (.int .i64 a.ow) ∧ xs[oa + 16]? = some (.bool a.lst)

def putArr (xs : List Value) (oa : Nat) (a : ArrS) : List Value :=
  ((xs.set (oa + 14) (.int .u8 a.nx)).set (oa + 15) (.int .i64 a.ow)).set (oa + 16) (.bool a.lst)

theorem putArr_len (xs : List Value) (oa : Nat) (a : ArrS) : (putArr xs oa a).length = xs.length := by simp [putArr]

theorem ArrL.put {xs : List Value} {oa ci si : Nat} {wk : Int} {a : ArrS} (h : ArrL xs oa ci si wk a) (b : ArrS) : ArrL (putArr xs oa b) oa ci si wk b := by
  obtain ⟨h1, h2, h3, h4, h5, h6⟩ := h
  have l := (List.getElem?_eq_some_iff.1 h6).1
  refine ⟨?_, ?_, ?_, ?_, ?_, ?_⟩ <;> simp [putArr, List.getElem?_set, h1, h2, h3] <;> omega

theorem ArrL.put_other {xs : List Value} {oa oa' ci si : Nat} {wk : Int} {a : ArrS} (h : ArrL xs oa ci si wk a) (b : ArrS) (ho : oa + 17 ≤ oa' ∨ oa' + 17 ≤ oa) : ArrL (putArr xs oa' b) oa ci si wk a := by
  have e : ∀ k, k < 17 → (putArr xs oa' b)[oa + k]? = xs[oa + k]? := by
    intro k hk
    simp only [putArr, List.getElem?_set, List.length_set]
    rw [if_neg (by omega), if_neg (by omega), if_neg (by omega)]
  obtain ⟨h1, h2, h3, h4, h5, h6⟩ := h
  exact ⟨by rw [e _ (by omega)]; exact h1, by rw [e _ (by omega)]; exact h2, by rw [e _ (by omega)]; exact h3, by rw [e _ (by omega)]; exact h4, by rw [e _ (by omega)]; exact h5, by rw [e _ (by omega)]; exact h6⟩

/-- What one step of an Arrive does to its own cells and the bank's. -/
def arrStep (ci si : Nat) (wk : Int) (a : ArrS) (vals : List Int) : ArrS × List Int :=
  if a.nx = 0 then (⟨1, if vals[si]? = some 0 then 1 else 0, a.lst⟩, vals)
  else if a.nx = 1 then (if vals[ci]? = some 1 then (⟨2, a.ow, true⟩, vals.set ci 0) else (⟨4, a.ow, false⟩, vals.set ci ((vals[ci]?.getD 0) - 1)))
  else if a.nx = 2 then (⟨3, a.ow, a.lst⟩, vals.set ci wk)
  else if a.nx = 3 then (⟨5, a.ow, a.lst⟩, vals.set si a.ow)
  else (⟨if vals[si]? = some a.ow then 5 else 4, a.ow, a.lst⟩, vals)

/-- What is so behind a step. -/
def StepPost (ca oa pb ab : Nat) (xs : List Value) (T : TypeId) (w : World) (r : ArrS × List Int) (e : Ending) (w' : World) : Prop :=
  e = .returned (.bool (decide (r.1.nx = 5))) ∧ Blk w' ca (putArr xs oa r.1) T ∧ Bank w' pb ab r.2 ∧ Fr [ca, ab] w w'

theorem list_set_self {α : Type} {xs : List α} {i : Nat} {v : α} (h : xs[i]? = some v) : xs.set i v = xs := by
  apply List.ext_getElem?
  intro j
  rw [List.getElem?_set]
  split
  · rename_i e; subst e
    rw [if_pos (List.getElem?_eq_some_iff.1 h).1, h]
  · rfl

/-- The cells of an Arrive that lies at `⟨ca, oa⟩`: where Count and Sense are, how many workers; what is next, its own sense, whether it is the last one. -/
structure ArrAt (w : World) (ca oa : Nat) (ci si wk nx ow : Int) (lst : Bool) : Prop where
  hk : w.cell? ⟨ca, oa + 2, none⟩ = some (.int .i64 wk)
  hc : w.cell? ⟨ca, oa + 10, none⟩ = some (.int .i64 ci)
  hs : w.cell? ⟨ca, oa + 11, none⟩ = some (.int .i64 si)
  hn : w.cell? ⟨ca, oa + 14, none⟩ = some (.int .u8 nx)
  ho : w.cell? ⟨ca, oa + 15, none⟩ = some (.int .i64 ow)
  hl : w.cell? ⟨ca, oa + 16, none⟩ = some (.bool lst)
  fn : w.frozen? ⟨ca, oa + 14, none⟩ = false
  fo : w.frozen? ⟨ca, oa + 15, none⟩ = false
  fl : w.frozen? ⟨ca, oa + 16, none⟩ = false

theorem ArrL.get {w : World} {ca oa : Nat} {xs : List Value} {T : TypeId} {ci si : Nat} {wk : Int} {a : ArrS} (h : ArrL xs oa ci si wk a) (hb : Blk w ca xs T) : ArrAt w ca oa ci si wk a.nx a.ow a.lst := by
  obtain ⟨h1, h2, h3, h4, h5, h6⟩ := h
  exact ⟨hb.cell h1, hb.cell h2, hb.cell h3, hb.cell h4, hb.cell h5, hb.cell h6, hb.free _, hb.free _, hb.free _⟩

section
variable {w : World} {ca oa pb ab : Nat} {vals : List Int} {ci si wk nx ow : Int} {lst : Bool}

theorem ArrAt.alloc (h : ArrAt w ca oa ci si wk nx ow lst) (hca : ca < w.heap.size) (o : Obj) : ArrAt (w.alloc o) ca oa ci si wk nx ow lst := by
  obtain ⟨h1, h2, h3, h4, h5, h6, h7, h8, h9⟩ := h
  have e : ∀ k, (w.alloc o).cell? ⟨ca, k, none⟩ = w.cell? ⟨ca, k, none⟩ := fun k => World.cell?_of_block (w := w) (Below.heap_alloc _ _ _ hca)
  have f : ∀ k, (w.alloc o).frozen? ⟨ca, k, none⟩ = w.frozen? ⟨ca, k, none⟩ := fun k => World.frozen?_of_block (w := w) (Below.heap_alloc _ _ _ hca)
  exact ⟨by rw [e]; exact h1, by rw [e]; exact h2, by rw [e]; exact h3, by rw [e]; exact h4, by rw [e]; exact h5, by rw [e]; exact h6, by rw [f]; exact h7, by rw [f]; exact h8, by rw [f]; exact h9⟩

theorem look_zero (hA : ArrAt w ca oa ci si wk nx ow lst)
    (hB : Bank w pb ab vals) (hp : pb ≠ ca) (ha : ab ≠ ca) (h0 : 0 ≤ si) (hx : vals[si.toNat]? = some 0) :
    Calls Try.prog 25 #[.pointer (some ⟨ca, oa, none⟩), .pointer (some ⟨pb, 0, none⟩)] w fun e w' => e = .returned (.int .u8 1) ∧ w.setCell ⟨ca, oa + 15, none⟩ (.int .i64 1) = w' := by
  obtain ⟨hk, hc, hs, hn, ho, hl, fn, fo, fl⟩ := hA
  go_enter Try.func25, Try.ntmps25
  go_wp2_with (go_at_call 9; refine (load_bank (hB.other hp ha _) _ 0 h0 hx).mono ?_; rintro e w' ⟨rfl, rfl⟩)
  go_ret
  exact ⟨rfl, rfl⟩

theorem look_one (hA : ArrAt w ca oa ci si wk nx ow lst)
    (hB : Bank w pb ab vals) (hp : pb ≠ ca) (ha : ab ≠ ca) (h0 : 0 ≤ si) (x : Int) (hx : vals[si.toNat]? = some x) (hne : x ≠ 0) :
    Calls Try.prog 25 #[.pointer (some ⟨ca, oa, none⟩), .pointer (some ⟨pb, 0, none⟩)] w fun e w' => e = .returned (.int .u8 1) ∧ (w.setCell ⟨ca, oa + 15, none⟩ (.int .i64 1)).setCell ⟨ca, oa + 15, none⟩ (.int .i64 0) = w' := by
  obtain ⟨hk, hc, hs, hn, ho, hl, fn, fo, fl⟩ := hA
  have hz : (x != 0) = true := by simp [hne]
  clear hne
  go_enter Try.func25, Try.ntmps25
  go_wp2_with (go_at_call 9; refine (load_bank (hB.other hp ha _) _ x h0 hx).mono ?_; rintro e w' ⟨rfl, rfl⟩)
  go_ret
  exact ⟨rfl, rfl⟩

theorem come_end (hA : ArrAt w ca oa ci si wk nx ow lst)
    (hB : Bank w pb ab vals) (ha : ab ≠ ca) (h0 : 0 ≤ ci) (hx : vals[ci.toNat]? = some 1) :
    Calls Try.prog 26 #[.pointer (some ⟨ca, oa, none⟩), .pointer (some ⟨pb, 0, none⟩)] w fun e w' => e = .returned (.int .u8 2) ∧ (w.setCell ⟨ab, ci.toNat, none⟩ (.int .i64 0)).setCell ⟨ca, oa + 16, none⟩ (.bool true) = w' := by
  obtain ⟨hk, hc, hs, hn, ho, hl, fn, fo, fl⟩ := hA
  go_enter Try.func26, Try.ntmps26
  go_wp2_with (go_at_call 36; refine (add_bank hB _ 1 (-1) 0 h0 hx (by simp [wrap64])).mono ?_; rintro e w' ⟨rfl, rfl⟩)
  go_ret
  exact ⟨rfl, rfl⟩

theorem come_more (hA : ArrAt w ca oa ci si wk nx ow lst)
    (hB : Bank w pb ab vals) (ha : ab ≠ ca) (h0 : 0 ≤ ci) (x : Int) (hx : vals[ci.toNat]? = some x) (hx0 : -9223372036854775807 ≤ x) (hx1 : x ≤ 9223372036854775807) (hne : x ≠ 1) :
    Calls Try.prog 26 #[.pointer (some ⟨ca, oa, none⟩), .pointer (some ⟨pb, 0, none⟩)] w fun e w' => e = .returned (.int .u8 4) ∧ (w.setCell ⟨ab, ci.toNat, none⟩ (.int .i64 (x - 1))).setCell ⟨ca, oa + 16, none⟩ (.bool false) = w' := by
  obtain ⟨hk, hc, hs, hn, ho, hl, fn, fo, fl⟩ := hA
  have hz : ((x - 1) == 0) = false := by simp; omega
  have hs : Hid (wrap64 (x + -1) = x - 1) := by unfold Hid wrap64; omega
  clear hx0 hx1 hne
  go_enter Try.func26, Try.ntmps26
  go_wp2_with (go_at_call 36; refine (add_bank hB _ x (-1) (x - 1) h0 hx hs.out).mono ?_; rintro e w' ⟨rfl, rfl⟩)
  go_ret
  exact ⟨rfl, rfl⟩

theorem reset_any (hA : ArrAt w ca oa ci si wk nx ow lst)
    (hB : Bank w pb ab vals) (h0 : 0 ≤ ci) (hx : ci.toNat < vals.length) :
    Calls Try.prog 27 #[.pointer (some ⟨ca, oa, none⟩), .pointer (some ⟨pb, 0, none⟩)] w fun e w' => e = .returned (.int .u8 3) ∧ Sim (w.setCell ⟨ab, ci.toNat, none⟩ (.int .i64 wk)) w' := by
  obtain ⟨hk, hc, hs, hn, ho, hl, fn, fo, fl⟩ := hA
  go_enter Try.func27, Try.ntmps27
  go_wp2
  go_still_tail 11, (by kernel_rfl)
  go_wp2_with (go_at_call 34; refine (store_bank hB.drew _ _ h0 hx).mono ?_; rintro e w' ⟨rfl, rfl⟩)
  go_ret
  exact ⟨rfl, rfl, rfl, rfl, rfl⟩

theorem turn_any (hA : ArrAt w ca oa ci si wk nx ow lst)
    (hB : Bank w pb ab vals) (h0 : 0 ≤ si) (hx : si.toNat < vals.length) :
    Calls Try.prog 28 #[.pointer (some ⟨ca, oa, none⟩), .pointer (some ⟨pb, 0, none⟩)] w fun e w' => e = .returned (.int .u8 5) ∧ Sim (w.setCell ⟨ab, si.toNat, none⟩ (.int .i64 ow)) w' := by
  obtain ⟨hk, hc, hs, hn, ho, hl, fn, fo, fl⟩ := hA
  go_enter Try.func28, Try.ntmps28
  go_wp2
  go_still_tail 10, (by kernel_rfl)
  go_wp2_with (go_at_call 34; refine (store_bank hB.drew _ _ h0 hx).mono ?_; rintro e w' ⟨rfl, rfl⟩)
  go_ret
  exact ⟨rfl, rfl, rfl, rfl, rfl⟩

theorem wait_yes (hA : ArrAt w ca oa ci si wk nx ow lst)
    (hB : Bank w pb ab vals) (h0 : 0 ≤ si) (hx : vals[si.toNat]? = some ow) :
    Calls Try.prog 29 #[.pointer (some ⟨ca, oa, none⟩), .pointer (some ⟨pb, 0, none⟩)] w fun e w' => e = .returned (.int .u8 5) ∧ Sim w w' := by
  obtain ⟨hk, hc, hs, hn, ho, hl, fn, fo, fl⟩ := hA
  go_enter Try.func29, Try.ntmps29
  go_wp2
  go_quiet ((go_at_call 9; exact Calls.quiet_of_same ((load_bank (hB.drewN _) _ ow h0 hx).mono fun _ _ h => ⟨h.1, h.2.symm⟩)))
  go_wp2
  go_ret
  exact ⟨rfl, rfl, rfl, rfl, rfl⟩

theorem wait_no (hA : ArrAt w ca oa ci si wk nx ow lst)
    (hB : Bank w pb ab vals) (h0 : 0 ≤ si) (x : Int) (hx : vals[si.toNat]? = some x) (hne : x ≠ ow) :
    Calls Try.prog 29 #[.pointer (some ⟨ca, oa, none⟩), .pointer (some ⟨pb, 0, none⟩)] w fun e w' => e = .returned (.int .u8 4) ∧ Sim w w' := by
  obtain ⟨hk, hc, hs, hn, ho, hl, fn, fo, fl⟩ := hA
  have hz : (x == ow) = false := by simp [hne]
  clear hne
  go_enter Try.func29, Try.ntmps29
  go_wp2
  go_quiet ((go_at_call 9; exact Calls.quiet_of_same ((load_bank (hB.drewN _) _ x h0 hx).mono fun _ _ h => ⟨h.1, h.2.symm⟩)))
  go_wp2
  go_ret
  exact ⟨rfl, rfl, rfl, rfl, rfl⟩

/-- The functions' row that a step makes. -/
def stages (ca oa : Nat) : Obj := .cells #[.func (.func 25) #[.pointer (some ⟨ca, oa, none⟩)] #[], .func (.func 26) #[.pointer (some ⟨ca, oa, none⟩)] #[], .func (.func 27) #[.pointer (some ⟨ca, oa, none⟩)] #[], .func (.func 28) #[.pointer (some ⟨ca, oa, none⟩)] #[], .func (.func 29) #[.pointer (some ⟨ca, oa, none⟩)] #[]] 66

end

section
variable {w : World} {ca oa pb ab ci si : Nat} {vals : List Int} {wk : Int} {xs : List Value} {T : TypeId}

theorem Step_look_zero {ow : Int} {lst : Bool} (hA : ArrL xs oa ci si wk ⟨0, ow, lst⟩) (hb : Blk w ca xs T) (hB : Bank w pb ab vals) (hp : pb ≠ ca) (ha : ab ≠ ca) (hx : vals[si]? = some 0) :
    Calls Try.prog 14 #[.pointer (some ⟨ca, oa, none⟩), .pointer (some ⟨pb, 0, none⟩)] w (StepPost ca oa pb ab xs T w (⟨1, 1, lst⟩, vals)) := by
  have hA1 := (hA.get hb).alloc hb.lt (stages ca oa)
  have hB1 := hB.alloc (stages ca oa)
  obtain ⟨hk, hc, hs, hn, ho, hl, fn, fo, fl⟩ := hA.get hb
  obtain ⟨_, _, _, l4, l5, l6⟩ := hA
  have hca := hb.lt
  go_enter Try.func14, Try.ntmps14
  go_wp2_with (go_at_call 25; refine (look_zero hA1 hB1 hp ha (by omega) (by simpa using hx)).mono ?_; rintro e w' ⟨rfl, rfl⟩)
  go_ret
  refine ⟨rfl, ?_, ?_, ?_⟩
  · apply Blk.cast
    · repeat (first | (with_reducible exact hb) | (with_reducible apply Blk.alloc) | (with_reducible apply Blk.redraw) | (with_reducible apply Blk.set) | (with_reducible apply Blk.away) | (with_reducible exact Ne.symm ha))
    · obtain ⟨k4, m4⟩ := List.getElem?_eq_some_iff.1 l4
      obtain ⟨k5, m5⟩ := List.getElem?_eq_some_iff.1 l5
      obtain ⟨k6, m6⟩ := List.getElem?_eq_some_iff.1 l6
      apply List.ext_getElem?
      intro j
      simp only [putArr, List.getElem?_set, List.length_set]
      by_cases e1 : oa + 14 = j
      · subst e1; simp [k4, m4]
      · by_cases e2 : oa + 15 = j
        · subst e2; simp [k5, m5]
        · by_cases e3 : oa + 16 = j
          · subst e3; simp [k6, m6]
          · simp [e1, e2, e3]
  · repeat (first | (with_reducible exact hB) | (with_reducible apply Bank.alloc) | (with_reducible apply Bank.redraw) | (with_reducible apply Bank.set) | (with_reducible apply Bank.away) | (with_reducible exact hp) | (with_reducible exact ha))
  · repeat (first | (with_reducible exact Fr.refl _ _) | (with_reducible apply Fr.alloc) | (with_reducible apply Fr.redraw) | (with_reducible refine Fr.setCell ?_ (by simp) _))

theorem Step_look_one {ow : Int} {lst : Bool} (hA : ArrL xs oa ci si wk ⟨0, ow, lst⟩) (hb : Blk w ca xs T) (hB : Bank w pb ab vals) (hp : pb ≠ ca) (ha : ab ≠ ca) (x : Int) (hx : vals[si]? = some x) (hne : x ≠ 0) :
    Calls Try.prog 14 #[.pointer (some ⟨ca, oa, none⟩), .pointer (some ⟨pb, 0, none⟩)] w (StepPost ca oa pb ab xs T w (⟨1, 0, lst⟩, vals)) := by
  have hA1 := (hA.get hb).alloc hb.lt (stages ca oa)
  have hB1 := hB.alloc (stages ca oa)
  obtain ⟨hk, hc, hs, hn, ho, hl, fn, fo, fl⟩ := hA.get hb
  obtain ⟨_, _, _, l4, l5, l6⟩ := hA
  have hca := hb.lt
  go_enter Try.func14, Try.ntmps14
  go_wp2_with (go_at_call 25; refine (look_one hA1 hB1 hp ha (by omega) x (by simpa using hx) hne).mono ?_; rintro e w' ⟨rfl, rfl⟩)
  go_ret
  refine ⟨rfl, ?_, ?_, ?_⟩
  · apply Blk.cast
    · repeat (first | (with_reducible exact hb) | (with_reducible apply Blk.alloc) | (with_reducible apply Blk.redraw) | (with_reducible apply Blk.set) | (with_reducible apply Blk.away) | (with_reducible exact Ne.symm ha))
    · obtain ⟨k4, m4⟩ := List.getElem?_eq_some_iff.1 l4
      obtain ⟨k5, m5⟩ := List.getElem?_eq_some_iff.1 l5
      obtain ⟨k6, m6⟩ := List.getElem?_eq_some_iff.1 l6
      apply List.ext_getElem?
      intro j
      simp only [putArr, List.getElem?_set, List.length_set]
      by_cases e1 : oa + 14 = j
      · subst e1; simp [k4, m4]
      · by_cases e2 : oa + 15 = j
        · subst e2; simp [k5, m5]
        · by_cases e3 : oa + 16 = j
          · subst e3; simp [k6, m6]
          · simp [e1, e2, e3]
  · repeat (first | (with_reducible exact hB) | (with_reducible apply Bank.alloc) | (with_reducible apply Bank.redraw) | (with_reducible apply Bank.set) | (with_reducible apply Bank.away) | (with_reducible exact hp) | (with_reducible exact ha))
  · repeat (first | (with_reducible exact Fr.refl _ _) | (with_reducible apply Fr.alloc) | (with_reducible apply Fr.redraw) | (with_reducible refine Fr.setCell ?_ (by simp) _))

theorem Step_come_end {ow : Int} {lst : Bool} (hA : ArrL xs oa ci si wk ⟨1, ow, lst⟩) (hb : Blk w ca xs T) (hB : Bank w pb ab vals) (hp : pb ≠ ca) (ha : ab ≠ ca) (hx : vals[ci]? = some 1) :
    Calls Try.prog 14 #[.pointer (some ⟨ca, oa, none⟩), .pointer (some ⟨pb, 0, none⟩)] w (StepPost ca oa pb ab xs T w (⟨2, ow, true⟩, vals.set ci 0)) := by
  have hA1 := (hA.get hb).alloc hb.lt (stages ca oa)
  have hB1 := hB.alloc (stages ca oa)
  obtain ⟨hk, hc, hs, hn, ho, hl, fn, fo, fl⟩ := hA.get hb
  obtain ⟨_, _, _, l4, l5, l6⟩ := hA
  have hca := hb.lt
  go_enter Try.func14, Try.ntmps14
  go_wp2_with (go_at_call 26; refine (come_end hA1 hB1 ha (by omega) (by simpa using hx)).mono ?_; rintro e w' ⟨rfl, rfl⟩)
  go_ret
  refine ⟨rfl, ?_, ?_, ?_⟩
  · apply Blk.cast
    · repeat (first | (with_reducible exact hb) | (with_reducible apply Blk.alloc) | (with_reducible apply Blk.redraw) | (with_reducible apply Blk.set) | (with_reducible apply Blk.away) | (with_reducible exact Ne.symm ha))
    · obtain ⟨k4, m4⟩ := List.getElem?_eq_some_iff.1 l4
      obtain ⟨k5, m5⟩ := List.getElem?_eq_some_iff.1 l5
      obtain ⟨k6, m6⟩ := List.getElem?_eq_some_iff.1 l6
      apply List.ext_getElem?
      intro j
      simp only [putArr, List.getElem?_set, List.length_set]
      by_cases e1 : oa + 14 = j
      · subst e1; simp [k4, m4]
      · by_cases e2 : oa + 15 = j
        · subst e2; simp [k5, m5]
        · by_cases e3 : oa + 16 = j
          · subst e3; simp [k6, m6]
          · simp [e1, e2, e3]
  · repeat (first | (with_reducible exact hB) | (with_reducible apply Bank.alloc) | (with_reducible apply Bank.redraw) | (with_reducible apply Bank.set) | (with_reducible apply Bank.away) | (with_reducible exact hp) | (with_reducible exact ha))
  · repeat (first | (with_reducible exact Fr.refl _ _) | (with_reducible apply Fr.alloc) | (with_reducible apply Fr.redraw) | (with_reducible refine Fr.setCell ?_ (by simp) _))

theorem Step_come_more {ow : Int} {lst : Bool} (hA : ArrL xs oa ci si wk ⟨1, ow, lst⟩) (hb : Blk w ca xs T) (hB : Bank w pb ab vals) (hp : pb ≠ ca) (ha : ab ≠ ca) (x : Int) (hx : vals[ci]? = some x) (hx0 : -9223372036854775807 ≤ x) (hx1 : x ≤ 9223372036854775807) (hne : x ≠ 1) :
    Calls Try.prog 14 #[.pointer (some ⟨ca, oa, none⟩), .pointer (some ⟨pb, 0, none⟩)] w (StepPost ca oa pb ab xs T w (⟨4, ow, false⟩, vals.set ci (x - 1))) := by
  have hA1 := (hA.get hb).alloc hb.lt (stages ca oa)
  have hB1 := hB.alloc (stages ca oa)
  obtain ⟨hk, hc, hs, hn, ho, hl, fn, fo, fl⟩ := hA.get hb
  obtain ⟨_, _, _, l4, l5, l6⟩ := hA
  have hca := hb.lt
  go_enter Try.func14, Try.ntmps14
  go_wp2_with (go_at_call 26; refine (come_more hA1 hB1 ha (by omega) x (by simpa using hx) hx0 hx1 hne).mono ?_; rintro e w' ⟨rfl, rfl⟩)
  go_ret
  refine ⟨rfl, ?_, ?_, ?_⟩
  · apply Blk.cast
    · repeat (first | (with_reducible exact hb) | (with_reducible apply Blk.alloc) | (with_reducible apply Blk.redraw) | (with_reducible apply Blk.set) | (with_reducible apply Blk.away) | (with_reducible exact Ne.symm ha))
    · obtain ⟨k4, m4⟩ := List.getElem?_eq_some_iff.1 l4
      obtain ⟨k5, m5⟩ := List.getElem?_eq_some_iff.1 l5
      obtain ⟨k6, m6⟩ := List.getElem?_eq_some_iff.1 l6
      apply List.ext_getElem?
      intro j
      simp only [putArr, List.getElem?_set, List.length_set]
      by_cases e1 : oa + 14 = j
      · subst e1; simp [k4, m4]
      · by_cases e2 : oa + 15 = j
        · subst e2; simp [k5, m5]
        · by_cases e3 : oa + 16 = j
          · subst e3; simp [k6, m6]
          · simp [e1, e2, e3]
  · repeat (first | (with_reducible exact hB) | (with_reducible apply Bank.alloc) | (with_reducible apply Bank.redraw) | (with_reducible apply Bank.set) | (with_reducible apply Bank.away) | (with_reducible exact hp) | (with_reducible exact ha))
  · repeat (first | (with_reducible exact Fr.refl _ _) | (with_reducible apply Fr.alloc) | (with_reducible apply Fr.redraw) | (with_reducible refine Fr.setCell ?_ (by simp) _))

theorem Step_reset {ow : Int} {lst : Bool} (hA : ArrL xs oa ci si wk ⟨2, ow, lst⟩) (hb : Blk w ca xs T) (hB : Bank w pb ab vals) (hp : pb ≠ ca) (ha : ab ≠ ca) (hx : ci < vals.length) :
    Calls Try.prog 14 #[.pointer (some ⟨ca, oa, none⟩), .pointer (some ⟨pb, 0, none⟩)] w (StepPost ca oa pb ab xs T w (⟨3, ow, lst⟩, vals.set ci wk)) := by
  have hA1 := (hA.get hb).alloc hb.lt (stages ca oa)
  have hB1 := hB.alloc (stages ca oa)
  obtain ⟨hk, hc, hs, hn, ho, hl, fn, fo, fl⟩ := hA.get hb
  obtain ⟨_, _, _, l4, l5, l6⟩ := hA
  have hca := hb.lt
  go_enter Try.func14, Try.ntmps14
  go_wp2_with (go_at_call 27; refine (reset_any hA1 hB1 (by omega) (by simpa using hx)).mono ?_; rintro e w' ⟨rfl, hS⟩; obtain ⟨k, rfl⟩ := hS.ex; clear hS)
  go_ret
  refine ⟨rfl, ?_, ?_, ?_⟩
  · apply Blk.cast
    · repeat (first | (with_reducible exact hb) | (with_reducible apply Blk.alloc) | (with_reducible apply Blk.redraw) | (with_reducible apply Blk.set) | (with_reducible apply Blk.away) | (with_reducible exact Ne.symm ha))
    · obtain ⟨k4, m4⟩ := List.getElem?_eq_some_iff.1 l4
      obtain ⟨k5, m5⟩ := List.getElem?_eq_some_iff.1 l5
      obtain ⟨k6, m6⟩ := List.getElem?_eq_some_iff.1 l6
      apply List.ext_getElem?
      intro j
      simp only [putArr, List.getElem?_set, List.length_set]
      by_cases e1 : oa + 14 = j
      · subst e1; simp [k4, m4]
      · by_cases e2 : oa + 15 = j
        · subst e2; simp [k5, m5]
        · by_cases e3 : oa + 16 = j
          · subst e3; simp [k6, m6]
          · simp [e1, e2, e3]
  · repeat (first | (with_reducible exact hB) | (with_reducible apply Bank.alloc) | (with_reducible apply Bank.redraw) | (with_reducible apply Bank.set) | (with_reducible apply Bank.away) | (with_reducible exact hp) | (with_reducible exact ha))
  · repeat (first | (with_reducible exact Fr.refl _ _) | (with_reducible apply Fr.alloc) | (with_reducible apply Fr.redraw) | (with_reducible refine Fr.setCell ?_ (by simp) _))

theorem Step_turn {ow : Int} {lst : Bool} (hA : ArrL xs oa ci si wk ⟨3, ow, lst⟩) (hb : Blk w ca xs T) (hB : Bank w pb ab vals) (hp : pb ≠ ca) (ha : ab ≠ ca) (hx : si < vals.length) :
    Calls Try.prog 14 #[.pointer (some ⟨ca, oa, none⟩), .pointer (some ⟨pb, 0, none⟩)] w (StepPost ca oa pb ab xs T w (⟨5, ow, lst⟩, vals.set si ow)) := by
  have hA1 := (hA.get hb).alloc hb.lt (stages ca oa)
  have hB1 := hB.alloc (stages ca oa)
  obtain ⟨hk, hc, hs, hn, ho, hl, fn, fo, fl⟩ := hA.get hb
  obtain ⟨_, _, _, l4, l5, l6⟩ := hA
  have hca := hb.lt
  go_enter Try.func14, Try.ntmps14
  go_wp2_with (go_at_call 28; refine (turn_any hA1 hB1 (by omega) (by simpa using hx)).mono ?_; rintro e w' ⟨rfl, hS⟩; obtain ⟨k, rfl⟩ := hS.ex; clear hS)
  go_ret
  refine ⟨rfl, ?_, ?_, ?_⟩
  · apply Blk.cast
    · repeat (first | (with_reducible exact hb) | (with_reducible apply Blk.alloc) | (with_reducible apply Blk.redraw) | (with_reducible apply Blk.set) | (with_reducible apply Blk.away) | (with_reducible exact Ne.symm ha))
    · obtain ⟨k4, m4⟩ := List.getElem?_eq_some_iff.1 l4
      obtain ⟨k5, m5⟩ := List.getElem?_eq_some_iff.1 l5
      obtain ⟨k6, m6⟩ := List.getElem?_eq_some_iff.1 l6
      apply List.ext_getElem?
      intro j
      simp only [putArr, List.getElem?_set, List.length_set]
      by_cases e1 : oa + 14 = j
      · subst e1; simp [k4, m4]
      · by_cases e2 : oa + 15 = j
        · subst e2; simp [k5, m5]
        · by_cases e3 : oa + 16 = j
          · subst e3; simp [k6, m6]
          · simp [e1, e2, e3]
  · repeat (first | (with_reducible exact hB) | (with_reducible apply Bank.alloc) | (with_reducible apply Bank.redraw) | (with_reducible apply Bank.set) | (with_reducible apply Bank.away) | (with_reducible exact hp) | (with_reducible exact ha))
  · repeat (first | (with_reducible exact Fr.refl _ _) | (with_reducible apply Fr.alloc) | (with_reducible apply Fr.redraw) | (with_reducible refine Fr.setCell ?_ (by simp) _))

theorem Step_wait_yes {ow : Int} {lst : Bool} (hA : ArrL xs oa ci si wk ⟨4, ow, lst⟩) (hb : Blk w ca xs T) (hB : Bank w pb ab vals) (hp : pb ≠ ca) (ha : ab ≠ ca) (hx : vals[si]? = some ow) :
    Calls Try.prog 14 #[.pointer (some ⟨ca, oa, none⟩), .pointer (some ⟨pb, 0, none⟩)] w (StepPost ca oa pb ab xs T w (⟨5, ow, lst⟩, vals)) := by
  have hA1 := (hA.get hb).alloc hb.lt (stages ca oa)
  have hB1 := hB.alloc (stages ca oa)
  obtain ⟨hk, hc, hs, hn, ho, hl, fn, fo, fl⟩ := hA.get hb
  obtain ⟨_, _, _, l4, l5, l6⟩ := hA
  have hca := hb.lt
  go_enter Try.func14, Try.ntmps14
  go_wp2_with (go_at_call 29; refine (wait_yes hA1 hB1 (by omega) (by simpa using hx)).mono ?_; rintro e w' ⟨rfl, hS⟩; obtain ⟨k, rfl⟩ := hS.ex; clear hS)
  go_ret
  refine ⟨rfl, ?_, ?_, ?_⟩
  · apply Blk.cast
    · repeat (first | (with_reducible exact hb) | (with_reducible apply Blk.alloc) | (with_reducible apply Blk.redraw) | (with_reducible apply Blk.set) | (with_reducible apply Blk.away) | (with_reducible exact Ne.symm ha))
    · obtain ⟨k4, m4⟩ := List.getElem?_eq_some_iff.1 l4
      obtain ⟨k5, m5⟩ := List.getElem?_eq_some_iff.1 l5
      obtain ⟨k6, m6⟩ := List.getElem?_eq_some_iff.1 l6
      apply List.ext_getElem?
      intro j
      simp only [putArr, List.getElem?_set, List.length_set]
      by_cases e1 : oa + 14 = j
      · subst e1; simp [k4, m4]
      · by_cases e2 : oa + 15 = j
        · subst e2; simp [k5, m5]
        · by_cases e3 : oa + 16 = j
          · subst e3; simp [k6, m6]
          · simp [e1, e2, e3]
  · repeat (first | (with_reducible exact hB) | (with_reducible apply Bank.alloc) | (with_reducible apply Bank.redraw) | (with_reducible apply Bank.set) | (with_reducible apply Bank.away) | (with_reducible exact hp) | (with_reducible exact ha))
  · repeat (first | (with_reducible exact Fr.refl _ _) | (with_reducible apply Fr.alloc) | (with_reducible apply Fr.redraw) | (with_reducible refine Fr.setCell ?_ (by simp) _))

theorem Step_wait_no {ow : Int} {lst : Bool} (hA : ArrL xs oa ci si wk ⟨4, ow, lst⟩) (hb : Blk w ca xs T) (hB : Bank w pb ab vals) (hp : pb ≠ ca) (ha : ab ≠ ca) (x : Int) (hx : vals[si]? = some x) (hne : x ≠ ow) :
    Calls Try.prog 14 #[.pointer (some ⟨ca, oa, none⟩), .pointer (some ⟨pb, 0, none⟩)] w (StepPost ca oa pb ab xs T w (⟨4, ow, lst⟩, vals)) := by
  have hA1 := (hA.get hb).alloc hb.lt (stages ca oa)
  have hB1 := hB.alloc (stages ca oa)
  obtain ⟨hk, hc, hs, hn, ho, hl, fn, fo, fl⟩ := hA.get hb
  obtain ⟨_, _, _, l4, l5, l6⟩ := hA
  have hca := hb.lt
  go_enter Try.func14, Try.ntmps14
  go_wp2_with (go_at_call 29; refine (wait_no hA1 hB1 (by omega) x (by simpa using hx) hne).mono ?_; rintro e w' ⟨rfl, hS⟩; obtain ⟨k, rfl⟩ := hS.ex; clear hS)
  go_ret
  refine ⟨rfl, ?_, ?_, ?_⟩
  · apply Blk.cast
    · repeat (first | (with_reducible exact hb) | (with_reducible apply Blk.alloc) | (with_reducible apply Blk.redraw) | (with_reducible apply Blk.set) | (with_reducible apply Blk.away) | (with_reducible exact Ne.symm ha))
    · obtain ⟨k4, m4⟩ := List.getElem?_eq_some_iff.1 l4
      obtain ⟨k5, m5⟩ := List.getElem?_eq_some_iff.1 l5
      obtain ⟨k6, m6⟩ := List.getElem?_eq_some_iff.1 l6
      apply List.ext_getElem?
      intro j
      simp only [putArr, List.getElem?_set, List.length_set]
      by_cases e1 : oa + 14 = j
      · subst e1; simp [k4, m4]
      · by_cases e2 : oa + 15 = j
        · subst e2; simp [k5, m5]
        · by_cases e3 : oa + 16 = j
          · subst e3; simp [k6, m6]
          · simp [e1, e2, e3]
  · repeat (first | (with_reducible exact hB) | (with_reducible apply Bank.alloc) | (with_reducible apply Bank.redraw) | (with_reducible apply Bank.set) | (with_reducible apply Bank.away) | (with_reducible exact hp) | (with_reducible exact ha))
  · repeat (first | (with_reducible exact Fr.refl _ _) | (with_reducible apply Fr.alloc) | (with_reducible apply Fr.redraw) | (with_reducible refine Fr.setCell ?_ (by simp) _))

theorem Last_any {a : ArrS} (hA : ArrL xs oa ci si wk a) (hb : Blk w ca xs T) :
    Calls Try.prog 15 #[.pointer (some ⟨ca, oa, none⟩)] w fun e w' => e = .returned (.bool a.lst) ∧ w = w' := by
  obtain ⟨hk, hc, hs, hn, ho, hl, fn, fo, fl⟩ := hA.get hb
  go_enter Try.func15, Try.ntmps15
  go_wp2
  go_ret
  exact ⟨rfl, rfl⟩

end
end Acq
