/- Nets and the rows that are made of them, in memory. -/
import Derived.Test.YtgffejcjacaihaaMid
import Derived.Test.YtgffejcjacaihaaRow
import Derived.Test.YtgffejcjacaihaaRegion
import Derived.Test.YtgffejcjacaihaaCsr
import Derived.Test.YtgffejcjacaihaaLists
import Derived.Test.YtgffejcjacaihaaProg
import Derived.WalkSpells
import Derived.Handy
import Derived.Deep.QuietTactic
import Derived.Deep.AppendLies
import Derived.BigQuiet
import Derived.Lib.Hide
set_option linter.unusedSimpArgs false
set_option linter.unnecessarySimpa false
set_option linter.unusedVariables false
namespace Acq
open Go Go.RowKit Go.Proofs

/-- A slice that reads as these cells, `sz` to an element. -/
def Sl (w : World) (A : Option Addr) (n sz : Nat) (cs : List Value) : Prop := cs.length = n * sz ∧ (0 < n → ∃ g off, A = some ⟨g, off, none⟩ ∧ w.rangeAt g off cs)

section
variable {w w' : World} {A : Option Addr} {n sz : Nat} {cs : List Value} {S : List Nat}

theorem rangeAt_fr {g o : Nat} (h : w.rangeAt g o cs) (k : Fr S w w') (hg : g ∉ S) : w'.rangeAt g o cs := fun j v hv => k.cell (h j v hv) hg

theorem Sl.fr (h : Sl w A n sz cs) (k : Fr S w w') (hS : ∀ g off sp, A = some ⟨g, off, sp⟩ → g ∉ S) : Sl w' A n sz cs :=
  ⟨h.1, fun hn => by
    obtain ⟨g, off, rfl, hr⟩ := h.2 hn
    exact ⟨g, off, rfl, rangeAt_fr hr k (hS _ _ _ rfl)⟩⟩

theorem Sl.fr0 (h : Sl w A n sz cs) (k : Fr [] w w') : Sl w' A n sz cs := h.fr k (by simp)

theorem Sl.nil (w : World) (A : Option Addr) (sz : Nat) : Sl w A 0 sz [] := ⟨by simp, fun h => by omega⟩

theorem Sl.at1 (h : Sl w A n 1 cs) {i : Nat} {v : Value} (hv : cs[i]? = some v) : ∃ g off, A = some ⟨g, off, none⟩ ∧ w.cell? ⟨g, off + i, none⟩ = some v := by
  have hi := (List.getElem?_eq_some_iff.1 hv).1
  have := h.1
  obtain ⟨g, off, rfl, hr⟩ := h.2 (by omega)
  exact ⟨g, off, rfl, hr i v hv⟩

theorem Sl.of_own {base : Nat} {e : TypeId} {v : Value} (h : w.ownsRow base e sz v n cs) (hs : 0 < sz) : ∃ c, n ≤ c ∧ v = .slice (v.ownBlock.map fun g => ⟨g, 0, none⟩) n c ∧ Sl w (v.ownBlock.map fun g => ⟨g, 0, none⟩) n sz cs := by
  rcases h.2 with ⟨rfl, rfl⟩ | ⟨g, cap, cur, rfl, hb, hg, hc, hm, hz, ht⟩
  · have : cs = [] := List.eq_nil_of_length_eq_zero (by have := h.1; simpa using this)
    subst this
    exact ⟨0, Nat.le_refl _, rfl, Sl.nil _ _ _⟩
  · refine ⟨cap, hc, rfl, h.1, fun hn => ⟨g, 0, rfl, fun j v hv => ?_⟩⟩
    have hj := (List.getElem?_eq_some_iff.1 hv).1
    rw [← ht, List.getElem?_take_of_lt (by have := h.1; omega)] at hv
    rw [Nat.zero_add]
    simp [World.cell?, hg, ← hv]
end

def ints (xs : List Int) : List Value := xs.map (Value.int .i64)
def bools (xs : List Bool) : List Value := xs.map Value.bool
theorem ints_len (xs : List Int) : (ints xs).length = xs.length := by simp [ints]
theorem bools_len (xs : List Bool) : (bools xs).length = xs.length := by simp [bools]
theorem ints_app (xs ys : List Int) : ints (xs ++ ys) = ints xs ++ ints ys := by simp [ints]
theorem ints_get {xs : List Int} {i : Nat} {x : Int} (h : xs[i]? = some x) : (ints xs)[i]? = some (.int .i64 x) := by simp [ints, h]
theorem bools_get {xs : List Bool} {i : Nat} {x : Bool} (h : xs[i]? = some x) : (bools xs)[i]? = some (.bool x) := by simp [bools, h]

/-- A slice of whole numbers. -/
def SlI (w : World) (A : Option Addr) (xs : List Int) : Prop := Sl w A xs.length 1 (ints xs)
def SlB (w : World) (A : Option Addr) (xs : List Bool) : Prop := Sl w A xs.length 1 (bools xs)

section
variable {w w' : World} {A : Option Addr} {xs : List Int}
theorem SlI.at (h : SlI w A xs) {i : Nat} {x : Int} (hx : xs[i]? = some x) : ∃ g off, A = some ⟨g, off, none⟩ ∧ w.cell? ⟨g, off + i, none⟩ = some (.int .i64 x) := Sl.at1 h (ints_get hx)
theorem SlB.at {xs : List Bool} (h : SlB w A xs) {i : Nat} {x : Bool} (hx : xs[i]? = some x) : ∃ g off, A = some ⟨g, off, none⟩ ∧ w.cell? ⟨g, off + i, none⟩ = some (.bool x) := Sl.at1 h (bools_get hx)
theorem SlI.fr0 (h : SlI w A xs) (k : Fr [] w w') : SlI w' A xs := Sl.fr0 h k
theorem SlB.fr0 {xs : List Bool} (h : SlB w A xs) (k : Fr [] w w') : SlB w' A xs := Sl.fr0 h k

theorem SlI.of_row {len cap : Nat} (h : IsRow .i64 w A len cap xs) : len = xs.length ∧ len ≤ cap ∧ cap ≤ maxLen ∧ SlI w A xs ∧ ∀ x ∈ xs, -9223372036854775808 ≤ x ∧ x ≤ 9223372036854775807 := by
  cases A with
  | none =>
    obtain ⟨rfl, rfl, rfl⟩ := h
    exact ⟨rfl, Nat.le_refl _, by unfold maxLen; omega, Sl.nil _ _ _, by simp⟩
  | some a =>
    obtain ⟨h1, h2, rfl, h4⟩ := h
    refine ⟨rfl, h1, h2, ⟨by simp [ints], fun hn => ?_⟩, fun x hx => ?_⟩
    · have h0 := (h4 0 hn).1
      have hs : a.spot = none := by
        simp only [Addr.add, if_pos] at h0
        unfold World.cell? at h0
        split at h0
        · split at h0
          · simp at h0
          · rename_i h5; cases h6 : a.spot <;> simp_all
        · simp at h0
      obtain ⟨g, off, sp⟩ := a
      simp only at hs
      subst hs
      refine ⟨g, off, rfl, fun j v hv => ?_⟩
      rw [ints, List.getElem?_map] at hv
      obtain ⟨x, hx, rfl⟩ := Option.map_eq_some_iff.1 hv
      have hj := (List.getElem?_eq_some_iff.1 hx).1
      have := (h4 j hj).1
      rw [Addr.add_mid, List.getD_eq_getElem?_getD, hx] at this
      exact this
    · obtain ⟨i, hi⟩ := List.mem_iff_getElem?.1 hx
      have hj := (List.getElem?_eq_some_iff.1 hi).1
      have := (h4 i hj).2
      rw [List.getD_eq_getElem?_getD, hi] at this
      have h5 : IntKind.i64.min = -9223372036854775808 := by decide
      simpa [Lit.wf, h5] using this
end

/-! Nets. -/
structure Net where
  N : Nat
  S : Nat
  T : Nat
  ar : List A3

structure Net.Ok (G : Net) : Prop where
  n2 : 2 ≤ G.N
  n16 : G.N ≤ 16
  s : G.S < G.N
  t : G.T < G.N
  st : G.S ≠ G.T
  many : G.ar.length ≤ 40
  ends : ∀ a ∈ G.ar, a.fr < G.N ∧ a.to < G.N ∧ 0 ≤ a.cap ∧ a.cap < 1125899906842624

def arcCells (a : A3) : List Value := [.int .i64 a.fr, .int .i64 a.to, .int .i64 a.cap]

/-- Rows of things of several cells each. -/
def cat {α : Type} (f : α → List Value) : List α → List Value
  | [] => []
  | a :: r => f a ++ cat f r

section
variable {α : Type} {f : α → List Value} {z : Nat}
theorem cat_len (hz : ∀ a, (f a).length = z) : ∀ l : List α, (cat f l).length = l.length * z
  | [] => by simp [cat]
  | a :: r => by rw [cat, List.length_append, cat_len hz r, hz, List.length_cons, Nat.succ_mul, Nat.add_comm]

theorem cat_app : ∀ l r : List α, cat f (l ++ r) = cat f l ++ cat f r
  | [], _ => rfl
  | a :: l, r => by rw [List.cons_append, cat, cat, cat_app l r, List.append_assoc]

theorem cat_get (hz : ∀ a, (f a).length = z) : ∀ {l : List α} {k : Nat} {a : α}, l[k]? = some a → ∀ j v, (f a)[j]? = some v → (cat f l)[k * z + j]? = some v
  | [], k, a, h => by simp at h
  | b :: r, 0, a, h => by
    simp at h; subst h
    intro j v hv
    rw [cat, List.getElem?_append_left (by have := (List.getElem?_eq_some_iff.1 hv).1; omega)]
    simpa using hv
  | b :: r, k + 1, a, h => by
    rw [List.getElem?_cons_succ] at h
    intro j v hv
    rw [cat, List.getElem?_append_right (by rw [hz, Nat.succ_mul]; omega)]
    have := cat_get hz h j v hv
    rw [show (k + 1) * z + j - (f b).length = k * z + j by rw [hz, Nat.succ_mul]; omega]
    exact this

/-- A slice of such things. -/
theorem Sl.el {w : World} {A : Option Addr} {l : List α} (hz : ∀ a, (f a).length = z) (h : Sl w A l.length z (cat f l)) {k : Nat} {a : α} (ha : l[k]? = some a) : ∃ g off, A = some ⟨g, off, none⟩ ∧ w.rangeAt g (off + k * z) (f a) := by
  have hk := (List.getElem?_eq_some_iff.1 ha).1
  obtain ⟨g, off, rfl, hr⟩ := h.2 (by omega)
  refine ⟨g, off, rfl, fun j v hv => ?_⟩
  have := hr _ _ (cat_get hz ha j v hv)
  rwa [← Nat.add_assoc] at this
end

abbrev R3 := Int × Int × Int
def rawCells (a : R3) : List Value := [.int .i64 a.1, .int .i64 a.2.1, .int .i64 a.2.2]
theorem rawCells_len (a : R3) : (rawCells a).length = 3 := rfl
theorem arcCells_len (a : A3) : (arcCells a).length = 3 := rfl

/-- A net's arcs in memory. -/
def ArcsV (w : World) (A : Option Addr) (l : List A3) : Prop := Sl w A l.length 3 (cat arcCells l)

/-! What acequiaref02.Make makes of a net. -/
def Net.E (G : Net) : List Ent := allTo G.ar G.N
def natI (l : List Nat) : List Int := l.map fun n : Nat => (n : Int)
def Net.first (G : Net) : List Int := natI (firstTo G.ar (G.N + 1))
def Net.head (G : Net) : List Int := G.E.map fun e => (e.hd : Int)
def Net.rev (G : Net) : List Int := natI (revTo G.E G.E.length)
def Net.cap (G : Net) : List Int := G.E.map (·.cap)
def Net.arc (G : Net) : List Int := G.E.map fun e => (e.arc : Int)
def Net.back (G : Net) : List Bool := G.E.map (·.back)

/-- The cells of a row (api.Csr). -/
def csrCells (G : Net) (AF AH AR AC AA AB : Option Addr) (cF cH cR cC cA cB : Nat) : List Value :=
  [.int .i64 G.N, .int .i64 G.S, .int .i64 G.T, .slice AF (G.N + 1) cF, .slice AH G.E.length cH, .slice AR G.E.length cR, .slice AC G.E.length cC, .slice AA G.E.length cA, .slice AB G.E.length cB]

structure CsrV (w : World) (G : Net) (AF AH AR AC AA AB : Option Addr) : Prop where
  F : SlI w AF G.first
  H : SlI w AH G.head
  R : SlI w AR G.rev
  C : SlI w AC G.cap
  A : SlI w AA G.arc
  B : SlB w AB G.back

theorem CsrV.fr0 {w w' : World} {G : Net} {AF AH AR AC AA AB : Option Addr} (h : CsrV w G AF AH AR AC AA AB) (k : Fr [] w w') : CsrV w' G AF AH AR AC AA AB :=
  ⟨h.F.fr0 k, h.H.fr0 k, h.R.fr0 k, h.C.fr0 k, h.A.fr0 k, h.B.fr0 k⟩

/-- A slice whose block lies from `lo` on, below `hi`. -/
def In (lo hi : Nat) (A : Option Addr) : Prop := ∀ g off sp, A = some ⟨g, off, sp⟩ → lo ≤ g ∧ g < hi

structure CsrIn (lo hi : Nat) (AF AH AR AC AA AB : Option Addr) : Prop where
  F : In lo hi AF
  H : In lo hi AH
  R : In lo hi AR
  C : In lo hi AC
  A : In lo hi AA
  B : In lo hi AB

theorem In.wide {lo hi lo' hi' : Nat} {A : Option Addr} (h : In lo hi A) (h1 : lo' ≤ lo) (h2 : hi ≤ hi') : In lo' hi' A := fun g off sp e => by
  have := h g off sp e; omega

theorem CsrIn.wide {lo hi lo' hi' : Nat} {AF AH AR AC AA AB : Option Addr} (h : CsrIn lo hi AF AH AR AC AA AB) (h1 : lo' ≤ lo) (h2 : hi ≤ hi') : CsrIn lo' hi' AF AH AR AC AA AB :=
  ⟨h.F.wide h1 h2, h.H.wide h1 h2, h.R.wide h1 h2, h.C.wide h1 h2, h.A.wide h1 h2, h.B.wide h1 h2⟩

theorem CsrV.fr {w w' : World} {G : Net} {AF AH AR AC AA AB : Option Addr} {lo hi : Nat} {S : List Nat} (h : CsrV w G AF AH AR AC AA AB) (k : Fr S w w') (hI : CsrIn lo hi AF AH AR AC AA AB) (hS : ∀ x ∈ S, x < lo ∨ hi ≤ x) : CsrV w' G AF AH AR AC AA AB := by
  have key : ∀ {A : Option Addr}, In lo hi A → ∀ g off sp, A = some ⟨g, off, sp⟩ → g ∉ S := fun hA g off sp e hm => by
    have := hA g off sp e; have := hS g hm; omega
  exact ⟨Sl.fr h.F k (key hI.F), Sl.fr h.H k (key hI.H), Sl.fr h.R k (key hI.R), Sl.fr h.C k (key hI.C), Sl.fr h.A k (key hI.A), Sl.fr h.B k (key hI.B)⟩

theorem infoInt : (Try.prog.info? 3).map (fun i => (i.zero, i.size, i.bytes)) = some (some (.int .i64 0), 1, 8) := by kernel_rfl
theorem infoLng : (Try.prog.info? 2).map (fun i => (i.zero, i.size, i.bytes)) = some (some (.int .i64 0), 1, 8) := by kernel_rfl
theorem infoBol : (Try.prog.info? 4).map (fun i => (i.zero, i.size, i.bytes)) = some (some (.bool false), 1, 1) := by kernel_rfl
theorem infoArc : (Try.prog.info? 53).map (fun i => (i.zero, i.size, i.bytes)) = some (some (.agg #[.int .i64 0, .int .i64 0, .int .i64 0]), 3, 24) := by kernel_rfl

/-! acequialow.Among. -/
theorem tmod_among (x n : Int) (hn : 0 < n) : (x.tmod n + n).tmod n = x % n ∧ -n < x.tmod n ∧ x.tmod n < n := by
  have h1 := Int.tmod_eq_emod (a := x) (b := n)
  have h2 := Int.emod_nonneg x (by omega : n ≠ 0)
  have h3 := Int.emod_lt_of_pos x hn
  have h4 : (n.natAbs : Int) = n := by omega
  by_cases hc : 0 ≤ x ∨ n ∣ x
  · rw [if_pos hc] at h1
    have e : x.tmod n = x % n := by omega
    refine ⟨?_, by omega, by omega⟩
    rw [e, Int.tmod_eq_emod_of_nonneg (by omega), Int.add_emod_right, Int.emod_emod_of_dvd _ (Int.dvd_refl n)]
  · rw [if_neg hc, h4] at h1
    refine ⟨?_, by omega, by omega⟩
    rw [h1, show x % n - n + n = x % n by omega, Int.tmod_eq_emod_of_nonneg h2, Int.emod_emod_of_dvd _ (Int.dvd_refl n)]

theorem among_any (x n : Int) (hn : 0 < n) (hn2 : n ≤ 4294967296) (h1 : -9223372036854775808 ≤ x) (h2 : x ≤ 9223372036854775807) (w : World) :
    Calls Try.prog 23 #[.int .i64 x, .int .i64 n] w fun e w' => e = .returned (.int .i64 (x % n)) ∧ w = w' := by
  obtain ⟨_, e2, e3⟩ := tmod_among x n hn
  have hn0 : ¬ n < 1 := by omega
  have hn1 : (n == 0) = false := by simp; omega
  go_enter Try.func23, Try.ntmps23
  go_wp2_with fail
  go_ret
  refine ⟨ret_int ?_, rfl⟩
  rfl
end Acq
