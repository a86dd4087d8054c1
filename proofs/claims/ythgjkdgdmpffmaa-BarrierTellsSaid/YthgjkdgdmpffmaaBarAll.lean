/- The walk of BarrierAll. -/
import Derived.Test.YthgjkdgdmpffmaaRep
import Derived.Test.YthgjkdgdmpffmaaAwake
import Derived.Test.YthgjkdgdmpffmaaMem2
import Derived.Test.YthgjkdgdmpffmaaRow
import Derived.Deep.CutBlock
import Derived.Deep.DeepMust
set_option maxRecDepth 100000
set_option linter.unusedSimpArgs false
set_option linter.unusedVariables false
namespace Acq
open Go Go.RowKit Go.Proofs Bar

theorem crowded_any (n : Nat) (h1 : 1 ≤ n) (h2 : n ≤ 64) (w : World) : Calls Try.prog 6 #[.int .i64 n] w (CrowdedPost n (lay14 n).cells (bank14 n) w) :=
  crowded_core n _ _ _ _ _ _ _ _ _ _ _ _ _ _ h1 h2 (bank14 n) w (fun W => bank_any n h1 h2 W)

/-- The crowd in memory, somewhere from base on, and away from some blocks. -/
def Crowd (X : Nat → Prop) (n : Nat) (a : Abs) (base pc : Nat) (w : World) : Prop := ∃ pb ab nb bb db, Rep X n a w base pc pb ab nb bb db ∧ ∀ q ∈ [pc, pb, ab, nb, bb, db], ¬ X q

def NoX : Nat → Prop := fun _ => False

theorem arrs_len (k : Nat) (l : Lay) : (arrs k l.cells).length = k * 17 := by
  induction k with
  | zero => rfl
  | succ k ih => rw [arrs_succ, List.length_append, ih]; simp [Lay.cells]; omega

def abs0 (n : Nat) : Abs := ⟨0, List.replicate n .idle⟩

theorem abs0_ok (n : Nat) (h : 1 ≤ n) : (abs0 n).ok n := by
  refine ⟨by simp [abs0], fun _ hm => ?_, .inl ⟨fun i => ?_, 0, .idle, ?_, by simp⟩⟩
  · have := List.eq_of_mem_replicate hm; simp at this
  · simp only [abs0, List.getElem?_replicate]; split <;> simp
  · simp only [abs0, List.getElem?_replicate]; rw [if_pos (by omega)]

theorem abs0_count (n : Nat) : (abs0 n).count n = n := by
  have hm : St.turn ∉ (abs0 n).sts := fun hm => by have := List.eq_of_mem_replicate hm; simp at this
  rw [Abs.count, if_neg hm]
  have : (abs0 n).sts.countP St.here = 0 := by
    rw [List.countP_eq_zero]
    intro x hx
    rw [List.eq_of_mem_replicate hx]; simp [St.here]
  omega

section
variable {X : Nat → Prop} {n : Nat} {a : Abs} {w w' : World} {base pc : Nat}

theorem _root_.Acq.CrowdedPost.begin (h1 : 1 ≤ n) {e : Ending} (h : CrowdedPost n (lay14 n).cells (bank14 n) w e w') : ∃ pc, e = .returned (.tuple #[.pointer (some ⟨pc, 0, none⟩), .bool true]) ∧ Crowd NoX n (abs0 n) w.heap.size pc w' ∧ Below w.heap.size w w' := by
  obtain ⟨pc, pb, ab, nb, bb, db, A, rfl, hC, hA, hF⟩ := h
  refine ⟨pc, rfl, ⟨pb, ab, nb, bb, db, ⟨A, .slice none 0 0, ?_, ?_, ?_, fun _ _ h => h⟩, fun _ _ h => h⟩, hF.below (by simp) (Nat.le_refl _)⟩
  · have e1 : valsOf n ((abs0 n).count n) (abs0 n).g = bank14 n := by rw [abs0_count]; rfl
    have e2 : (abs0 n).sts.map (beganOf (abs0 n).g) = List.replicate n 0 := by simp [abs0, beganOf]
    have e3 : (abs0 n).sts.map (doneOf (abs0 n).g) = List.replicate n 0 := by simp [abs0, doneOf]
    rw [e1, e2, e3]; exact hC
  · have := congrArg List.length hA
    rw [arrs_len, List.length_take] at this; omega
  · intro i s hs hne
    have := List.mem_of_getElem? hs
    exact absurd (List.eq_of_mem_replicate this) hne

theorem Crowd.step (h : Crowd X n a base pc w) (hXs : ∀ q, X q → q < w.heap.size) (hok : a.ok n) (hn : n ≤ 64) (i : Nat) (hi : i < n) (hg : a.g < 900000) :
    Calls Try.prog 7 #[.pointer (some ⟨pc, 0, none⟩), .int .i64 i] w (fun e w' => e = .returned (.bool true) ∧ Crowd X n (a.step n i) base pc w' ∧ BelowX base X w w') := by
  obtain ⟨pb, ab, nb, bb, db, h, hX6⟩ := h
  refine (step_rep X hXs hX6 h hok hn i hi hg).mono ?_
  rintro e w' ⟨h1, h2, h3⟩
  exact ⟨h1, ⟨pb, ab, nb, bb, db, h2, hX6⟩, h3⟩

theorem Crowd.done (h : Crowd X n a base pc w) (hok : a.ok n) : ∃ db, w.cell? ⟨pc, 17, none⟩ = some (.slice (some ⟨db, 0, none⟩) n n) ∧ base ≤ db ∧ db < w.heap.size ∧ ∀ i, i < n → w.cell? ⟨db, i, none⟩ = some (.int .i64 (a.done i)) := by
  obtain ⟨pb, ab, nb, bb, db, ⟨A, lv, hC, _⟩, _⟩ := h
  obtain ⟨capn, hc⟩ := hC.crowd
  refine ⟨db, hc.cell (o := 17) rfl, hC.ge db (by simp), hC.don.lt, fun i hi => hC.don.cell ?_⟩
  have hl := hok.len
  have hs : a.sts[i]? = some a.sts[i] := List.getElem?_eq_getElem (by omega)
  simp only [List.getElem?_map, hs, Option.map_some, i64, Abs.done]
  cases h : a.sts[i] <;> simp [doneOf, h]

theorem Crowd.lasts (h : Crowd X n a base pc w) : ∃ lv, w.cell? ⟨pc, 18, none⟩ = some lv ∧ w.ownsRow base 3 1 lv a.g (List.replicate a.g (i64 1)) := by
  obtain ⟨pb, ab, nb, bb, db, ⟨A, lv, hC, _⟩, _⟩ := h
  obtain ⟨capn, hc⟩ := hC.crowd
  have := hC.las
  rw [List.length_replicate, List.map_replicate] at this
  exact ⟨lv, hc.cell (o := 18) rfl, this⟩

theorem Crowd.fr0 (h : Crowd X n a base pc w) (hF : Fr [] w w') : Crowd X n a base pc w' := by
  obtain ⟨pb, ab, nb, bb, db, ⟨A, lv, hC, h2⟩, h3⟩ := h
  exact ⟨pb, ab, nb, bb, db, ⟨A, lv, hC.fr0 hF, h2⟩, h3⟩

theorem Crowd.drewN (h : Crowd X n a base pc w) (m : Nat) : Crowd X n a base pc (w.drewN m) := h.fr0 ((Fr.refl _ _).drewN m)

/-- A block that is new stands aside. -/
theorem Crowd.beside (h : Crowd NoX n a base pc w) (hF : Fr [] w w') (g : Nat) (hg : w.heap.size ≤ g) : Crowd (fun q => q = g) n a base pc w' := by
  obtain ⟨pb, ab, nb, bb, db, ⟨A, lv, hC, h1, h2, _⟩, _⟩ := h
  refine ⟨pb, ab, nb, bb, db, ⟨A, lv, hC.fr0 hF, h1, h2, ?_⟩, ?_⟩
  · intro q hq e
    have := (hC.las.lt q hq).2
    omega
  · intro q hq e
    obtain ⟨_, hCq⟩ := hC.crowd
    have : q < w.heap.size := by
      simp only [List.mem_cons, List.not_mem_nil, or_false] at hq
      rcases hq with rfl | rfl | rfl | rfl | rfl | rfl
      · exact hCq.lt
      · exact hC.bank.lt.1
      · exact hC.bank.lt.2
      · exact hC.now.lt
      · exact hC.beg.lt
      · exact hC.don.lt
    omega

end

theorem near (a : Abs) (i j : Nat) : a.done i ≤ a.done j + 1 := by have := done_le a i; have := done_le a j; omega

theorem step_le (a : Abs) (n i : Nat) : (a.step n i).g ≤ a.g + 1 := by
  unfold Abs.step
  split <;> (try split) <;> simp

theorem round_le (n : Nat) (a : Abs) : ∀ k, (a.round n k).g ≤ a.g + k
  | 0 => Nat.le_refl _
  | k + 1 => by have := round_le n a k; have := step_le (a.round n k) n k; show ((a.round n k).step n k).g ≤ _; omega

theorem rounds_le (n : Nat) (a : Abs) : ∀ k, (a.rounds n k).g ≤ a.g + k * n
  | 0 => by show a.g ≤ a.g + 0 * n; omega
  | k + 1 => by
    have := rounds_le n a k; have := round_le n (a.rounds n k) n
    show ((a.rounds n k).round n n).g ≤ _
    rw [Nat.succ_mul]; omega

theorem own_empty (w : World) (e : TypeId) : (w.alloc (.cells #[] e)).ownsRow w.heap.size e 1 (.slice (some ⟨w.heap.size, 0, none⟩) 0 0) 0 [] :=
  ⟨rfl, .inr ⟨w.heap.size, 0, #[], rfl, Nat.le_refl _, heap_alloc_new _ _, Nat.le_refl _, by simp [maxLen], rfl, rfl⟩⟩

/-- What is read of a slice of bytes. -/
def Bytes (w : World) (A : Option Addr) (len : Nat) : Prop := ∀ k, k < len → ∃ b o x, A = some ⟨b, o, none⟩ ∧ b < w.heap.size ∧ w.cell? ⟨b, o + k, none⟩ = some (.int .u8 x) ∧ 0 ≤ x ∧ x ≤ 255

theorem all_any (a0 : Int) (h0 : 0 ≤ a0) (h1 : a0 ≤ 255) (A : Option Addr) (len cap : Nat) (hl : len ≤ cap) (hA : A = none → len = 0 ∧ cap = 0) (w : World) (hr : Bytes w A len) :
    Calls Try.prog 3 #[.int .u8 a0, .slice A len cap] w fun e w' => e = .returned (.bool true) ∧ Below w.heap.size w w' := by
  obtain ⟨n, hn, hn1, hn2⟩ : ∃ n : Nat, (n : Int) = 1 + a0 % 12 ∧ 1 ≤ n ∧ n ≤ 12 := ⟨(1 + a0 % 12).toNat, by omega, by omega, by omega⟩
  have HN : Hid (1 + a0 % 12 = (n : Int)) := Lib.hid hn.symm
  clear hn
  have HR := Lib.hid hr
  have HA := Lib.hid hA
  clear hr hA
  go_enter Try.func3, Try.ntmps3
  go_wp2_with fail
  rw [HN.out]
  refine (crowded_any n hn1 (by omega) _).mono ?_
  intro e w1 hP
  obtain ⟨pc, rfl, hC1, hB1⟩ := CrowdedPost.begin hn1 hP
  clear hP
  go_upto_region 5 with (fail)
  go_cut [34, 35, 36] (fun s34 s35 s36 wx => ∃ (m c' : Nat), s34 = .slice A m c' ∧ s35 = .int .i64 m ∧ s36 = .int .i64 0 ∧ m ≤ 600 ∧ m ≤ len ∧ wx = w1)
  case first =>
    go_wp2_with fail
    all_goals
      go_meet
    · exact ⟨600, cap, rfl, by rfl, rfl, by omega, by omega, rfl⟩
    · exact ⟨len, cap, rfl, rfl, rfl, by omega, by omega, rfl⟩
  case rest =>
    obtain ⟨m, c', rfl, rfl, rfl, hm, hml, rfl⟩ := hcut
    go_upto_block 0 with (fail)
    go_cut [] (fun wx => ∃ a, Crowd NoX n a w.heap.size pc wx ∧ a.ok n ∧ a.g ≤ 600 ∧ Below w.heap.size w wx)
    case first =>
      go_wp2_with fail
      go_loopw [36] (fun i wr => ∃ (k : Nat) (a : Abs), k ≤ m ∧ i = .int .i64 k ∧ Crowd NoX n a w.heap.size pc wr ∧ a.ok n ∧ a.g ≤ k ∧ Below w.heap.size w wr) (fun i _ => m - (intOf i).toNat)
      case atStart => exact ⟨0, abs0 n, Nat.zero_le _, rfl, hC1, abs0_ok n hn1, Nat.le_refl _, hB1⟩
      case round =>
        obtain ⟨k, a, hk, rfl, hC, hok, hg, hB⟩ := hrel
        by_cases hkm : k < m
        · obtain ⟨b, o, x, rfl, hb, hx, hx0, hx1⟩ := HR.out k (by omega)
          have hxr : wr.cell? ⟨b, o + k, none⟩ = some (.int .u8 x) := (hB.cell (p := ⟨b, o + k, none⟩) hb).trans hx
          obtain ⟨i, hxi, hin⟩ : ∃ i : Nat, x % (n : Int) = (i : Int) ∧ i < n := ⟨(x % (n : Int)).toNat, by rw [Int.toNat_of_nonneg (Int.emod_nonneg _ (by omega))], by have := Int.emod_lt_of_pos x (show (0 : Int) < (n : Int) by omega); omega⟩
          have HC := Lib.hid hC
          have HB := Lib.hid hB
          have HO := Lib.hid hok
          clear hC hB hok hx
          go_wp2_with fail
          refine (HC.out.step (fun _ h => h.elim) HO.out (by omega) i hin (by omega)).mono ?_
          rintro e w2 ⟨rfl, hC2, hB2⟩
          have hok2 := step_ok HO.out hin
          have hgs := step_le a n i
          generalize a.step n i = a2 at hC2 hok2 hgs
          have hB3 : Below w.heap.size w w2 := HB.out.trans hB2.below
          have HO2 := Lib.hid hok2
          clear hok2 hB2
          go_wp2_with fail
          go_loopw [10, 48] (fun _ j wq => ∃ j' : Nat, j' ≤ n ∧ j = .int .i64 j' ∧ Crowd NoX n a2 w.heap.size pc wq ∧ Below w.heap.size w wq) (fun _ j _ => n - (intOf j).toNat)
          case atStart => exact ⟨0, Nat.zero_le _, rfl, hC2, hB3⟩
          case round =>
            obtain ⟨j, hj, rfl, hC4, hB4⟩ := hrel
            by_cases hjn : j < n
            · obtain ⟨db, c17, _, _, hd⟩ := hC4.done HO2.out
              have cj := hd j hjn
              have ci := hd i hin
              have n1 := near a2 j i
              have n2 := near a2 i j
              have n3 := (done_le a2 i).1
              have n4 := (done_le a2 j).1
              generalize a2.done j = dj at cj n1 n2 n4
              generalize a2.done i = di at ci n1 n2 n3
              have t1 : decide ((di : Int) + 1 < (dj : Int)) = false := by simp; omega
              have t2 : decide ((dj : Int) + 1 < (di : Int)) = false := by simp; omega
              have hi0 : 0 ≤ (i : Int) := by omega
              have hi1 : (i : Int) < (n : Int) := by omega
              have HC4 := Lib.hid hC4
              have HB4 := Lib.hid hB4
              clear hd hC4 hB4 n1 n2 hC2 hB3
              go_wp2_with fail
              go_quiet (fail)
              go_wp2_with fail
              go_roundw
              case rel => exact ⟨j + 1, by omega, by go_num, HC4.out.drewN _, Acq.Below.drewN HB4.out _⟩
              case measure => simp [intOf]; omega
            · have HC4 := Lib.hid hC4
              have HB4 := Lib.hid hB4
              clear hC4 hB4 hC2 hB3
              go_wp2_with fail
              go_roundw
              case rel => exact ⟨k + 1, a2, by omega, by go_num, HC4.out, HO2.out, by omega, HB4.out⟩
              case measure => simp [intOf]; omega
        · have HC := Lib.hid hC
          have HB := Lib.hid hB
          have HO := Lib.hid hok
          clear hC hB hok
          go_wp2_with fail
          go_meet
          exact ⟨a, HC.out, HO.out, by omega, HB.out⟩
    case rest =>
      obtain ⟨a, hC, hok, hg, hB⟩ := hcut
      clear hB1 hC1
      obtain ⟨db, c17, hdb, hdl, hd⟩ := hC.done hok
      obtain ⟨i0, hi0, hz0, hz1, hz2⟩ := info_parts infoIntZ
      have HI := Lib.hid (And.intro hi0 (And.intro hz0 (And.intro hz1 hz2)))
      have HC := Lib.hid hC
      have HB := Lib.hid hB
      have HO := Lib.hid hok
      have HD := Lib.hid hd
      clear hi0 hz0 hz1 hz2 hC hB hok hd
      have hlD : ((List.range n).map fun i => i64 (a.done i)).length = n := by simp
      have hnews : ∀ (j : Nat) u, ((List.range n).map fun i => i64 (a.done i))[j]? = some u → (wc.alloc (.cells #[] 3)).cell? (Addr.add ⟨db, 0, none⟩ j) = some u := by
        intro j u hu
        simp only [List.getElem?_map, List.getElem?_range] at hu
        rw [Addr.add_mid, Nat.zero_add]
        have hj : j < n := by
          rcases Nat.lt_or_ge j n with h | h
          · exact h
          · rw [List.getElem?_eq_none (by simpa using h)] at hu; simp at hu
        rw [List.getElem?_range hj] at hu
        simp at hu; subst hu
        exact (World.cell?_of_block (w := wc) (Below.heap_alloc _ _ _ hdl)).trans (HD.out j hj)
      have h1c : ∀ u ∈ (List.range n).map (fun i => i64 (a.done i)), u.oneCell' = true := by
        intro u hu
        obtain ⟨i, _, rfl⟩ := List.mem_map.1 hu
        rfl
      have HNW := Lib.hid hnews
      have HLD := Lib.hid hlD
      have H1C := Lib.hid h1c
      clear hnews hlD h1c
      generalize hDe : (List.range n).map (fun i => i64 (a.done i)) = D at HNW HLD H1C
      have HDE := Lib.hid hDe
      clear hDe
      have hpl : pc < wc.heap.size := World.block_lt_of_cell? wc ⟨pc, 17, none⟩ c17
      have c17a : (wc.alloc (.cells #[] 3)).cell? ⟨pc, 17, none⟩ = some (.slice (some ⟨db, 0, none⟩) n n) := (World.cell?_of_block (w := wc) (Below.heap_alloc _ _ _ hpl)).trans c17
      go_wp2_with (first
        | (at_builtin
           go_must (refine wpList_append_own_at _ rfl _ _ 31 rfl wc.heap.size 3 i0 (.int .i64 0) 1 8 Try.underlying31 HI.out.1 HI.out.2.1 HI.out.2.2.1 HI.out.2.2.2 rfl (by decide) (.slice (some ⟨wc.heap.size, 0, none⟩) 0 0) 0 [] rfl (own_empty wc _) ⟨db, 0, none⟩ n n D rfl (by rw [HLD.out]; omega) HNW.out H1C.out (by unfold maxLen; omega) (by omega) (by rw [World.size_alloc]; omega) ?_)
           intro v2 w2 hown hgrow _ hat)
        | go_in)
      have hF2 : Fr [] wc w2 := by
        refine (((Fr.refl [wc.heap.size] wc).alloc (.cells #[] 3)).trans (Fr.of_grown hgrow (by simp [Value.ownBlock]))).less (by simp)
      rw [Nat.zero_add, List.nil_append] at hown
      obtain ⟨q, capq, rfl, hq0, hq1⟩ := hown.form (by omega)
      have hC2 := HC.out.beside hF2 q hq0
      have hB2 : Below w.heap.size w w2 := HB.out.trans (hF2.below (by simp) HB.out.size)
      have hwas : ∀ i, i < n → w2.cell? ⟨q, i, none⟩ = some (.int .i64 (a.done i)) := by
        intro i hi
        have := hown.cells rfl i (.int .i64 (a.done i)) (by rw [← HDE.out]; simp [hi, i64])
        rwa [Addr.add_mid, Nat.zero_add] at this
      have HWAS := Lib.hid hwas
      have HC2 := Lib.hid hC2
      have HB2 := Lib.hid hB2
      clear hwas hC2 hB2 hown hgrow hat c17 hF2
      clear c17a
      go_wp2_with fail
      go_loopw [99] (fun r wr => ∃ r' : Nat, r' ≤ 10 ∧ r = .int .i64 r' ∧ Crowd (fun z => z = q) n (a.rounds n r') w.heap.size pc wr ∧ BelowX w.heap.size (fun z => z = q) w2 wr) (fun r _ => 10 - (intOf r).toNat)
      case atStart => exact ⟨0, Nat.zero_le _, rfl, HC2.out, BelowX.refl _ _ _⟩
      case round =>
        obtain ⟨r, hr, rfl, hC3, hB3⟩ := hrel
        have HC3 := Lib.hid hC3
        have HB3 := Lib.hid hB3
        clear hC3 hB3
        have hgr := rounds_le n a r
        have hmul : r * n ≤ 120 := Nat.le_trans (Nat.mul_le_mul hr hn2) (by omega)
        by_cases hr10 : r < 10
        · have hokr := rounds_ok HO.out r
          have HOR := Lib.hid hokr
          have hr10' : decide ((r : Int) < 10) = true := by simp; omega
          clear hokr
          obtain ⟨wo, rfl⟩ : ∃ wo : World, wo = wr := ⟨_, rfl⟩
          go_wp2_with fail
          go_loopw [12, 102] (fun _ i wr => ∃ i' : Nat, i' ≤ n ∧ i = .int .i64 i' ∧ Crowd (fun z => z = q) n ((a.rounds n r).round n i') w.heap.size pc wr ∧ BelowX w.heap.size (fun z => z = q) w2 wr) (fun _ i _ => n - (intOf i).toNat)
          case atStart => exact ⟨0, Nat.zero_le _, rfl, HC3.out, HB3.out⟩
          case round =>
            obtain ⟨i, hi, rfl, hC4, hB4⟩ := hrel
            have HC4 := Lib.hid hC4
            have HB4 := Lib.hid hB4
            clear hC4 hB4
            have hgi := round_le n (a.rounds n r) i
            by_cases hin : i < n
            · go_wp2_with fail
              refine (HC4.out.step (fun z hz => by subst hz; exact Nat.lt_of_lt_of_le hq1 HB4.out.below.size) (round_ok HOR.out i (by omega)) (by omega) i hin (by omega)).mono ?_
              rintro e w5 ⟨rfl, hC5, hB5⟩
              have HC5 := Lib.hid hC5
              have HB5 := Lib.hid hB5
              clear hC5 hB5
              go_wp2_with fail
              go_roundw
              case rel => exact ⟨i + 1, by omega, by go_num, HC5.out, HB4.out.trans HB5.out⟩
              case measure => simp [intOf]; omega
            · obtain rfl : i = n := by omega
              go_wp2_with fail
              go_roundw
              case rel => exact ⟨r + 1, by omega, by go_num, HC4.out, HB4.out⟩
              case measure => simp [intOf]; omega
        · obtain rfl : r = 10 := by omega
          rw [show ((10 : Nat) : Int) = 10 from rfl]
          have hok10 := rounds_ok HO.out 10
          have hten : ∀ i, a.done i < (a.rounds n 10).done i := fun i => ten_done HO.out i
          have hten2 := ten HO.out
          have HC10 : Hid (Crowd (fun z => z = q) n (a.rounds n 10) w.heap.size pc wr) := HC3
          generalize a.rounds n 10 = a10 at HC10 hok10 hten hten2 hgr
          have hwasr : ∀ i, i < n → wr.cell? ⟨q, i, none⟩ = some (.int .i64 (a.done i)) := fun i hi => (World.cell?_of_block (w := w2) (a := ⟨q, i, none⟩) (HB3.out.keep q rfl)).trans (HWAS.out i hi)
          have HWR := Lib.hid hwasr
          have HO10 := Lib.hid hok10
          have HT := Lib.hid hten
          have HB10 : Hid (Below w.heap.size w wr) := Lib.hid (HB2.out.trans HB3.out.below)
          obtain ⟨db', d17, _, hdl', hd'⟩ := HC10.out.done hok10
          have HD' := Lib.hid hd'
          clear hwasr hok10 hten hd' HC3
          obtain ⟨wo, rfl⟩ : ∃ wo : World, wo = wr := ⟨_, rfl⟩
          go_wp2_with fail
          go_loopw [13, 112] (fun _ i wr => ∃ i' : Nat, i' ≤ n ∧ i = .int .i64 i' ∧ Fr [] wo wr) (fun _ i _ => n - (intOf i).toNat)
          case atStart => exact ⟨0, Nat.zero_le _, rfl, Fr.refl _ _⟩
          case round =>
            obtain ⟨i, hi, rfl, hF7⟩ := hrel
            have d17r := hF7.cell (p := ⟨pc, 17, none⟩) d17 (by simp)
            by_cases hin : i < n
            · have c1 := hF7.cell (p := ⟨db', i, none⟩) (HD'.out i hin) (by simp)
              have c2 := hF7.cell (p := ⟨q, i, none⟩) (HWR.out i hin) (by simp)
              have HF7 := Lib.hid hF7
              clear hF7
              have t1 : decide ((a10.done i : Int) ≤ (a.done i : Int)) = false := by have := HT.out i; simp; omega
              have t2 : decide (a10.done i ≤ a.done i) = false := by have := HT.out i; simp; omega
              have hi0 : 0 ≤ (i : Int) := by omega
              have hi1 : (i : Int) < (n : Int) := by omega
              go_wp2_with fail
              go_quiet (fail)
              go_wp2_with fail
              go_roundw
              case rel => exact ⟨i + 1, by omega, by go_num, HF7.out.drewN _⟩
              case measure => simp [intOf]; omega
            · have d00 := hF7.cell (p := ⟨db', 0, none⟩) (HD'.out 0 (by omega)) (by simp)
              have HF7 := Lib.hid hF7
              clear hF7
              have hz10 := (done_le a10 0).1
              generalize hdz : a10.done 0 = z0 at d00 hz10
              have HDZ := Lib.hid hdz
              clear hdz
              have hn0 : (0 : Int) < (n : Int) := by omega
              obtain ⟨wo2, rfl⟩ : ∃ wo2 : World, wo2 = wr := ⟨_, rfl⟩
              go_wp2_with fail
              go_loopw [14, 16, 139] (fun l _ i wr => ∃ (z i' : Nat), z ≤ 900000 ∧ l = .int .i64 z ∧ i' ≤ n ∧ i = .int .i64 i' ∧ wr = wo2) (fun _ _ i _ => n - (intOf i).toNat)
              case atStart => exact ⟨z0, 0, by omega, rfl, Nat.zero_le _, rfl, rfl⟩
              case round =>
                obtain ⟨z, i, hz, rfl, hi2, rfl, rfl⟩ := hrel
                by_cases hin : i < n
                · have c1 := HF7.out.cell (p := ⟨db', i, none⟩) (HD'.out i hin) (by simp)
                  have hzi := (done_le a10 i).1
                  generalize hdz : a10.done i = zi at c1 hzi
                  clear hdz
                  go_wp2_with fail
                  go_roundw
                  case rel =>
                    by_cases hzz : zi < z
                    · exact ⟨zi, i + 1, by omega, by simp [hzz], by omega, by go_num, trivial⟩
                    · exact ⟨z, i + 1, by omega, by simp [hzz], by omega, by go_num, trivial⟩
                  case measure => simp [intOf]; omega
                · obtain ⟨lv, d18, hlas⟩ := HC10.out.lasts
                  have d18r := HF7.out.cell (p := ⟨pc, 18, none⟩) d18 (by simp)
                  obtain ⟨p, capp, rfl, hp0, hp1⟩ := hlas.form (by omega)
                  have hone : ∀ k, k < a10.g → wo.cell? ⟨p, k, none⟩ = some (.int .i64 1) := by
                    intro k hk
                    have := hlas.cells rfl k (.int .i64 1) (by simp [hk, i64])
                    rwa [Addr.add_mid, Nat.zero_add] at this
                  have HONE := Lib.hid hone
                  have hgm : a10.g ≤ 900000 := by omega
                  clear hone hlas d18 d00
                  generalize a10.g = G at d18r HONE hgm
                  go_wp2_with fail
                  go_loopw [17, 18, 152] (fun _ _ i wr' => ∃ i' : Nat, i' ≤ G ∧ i = .int .i64 i' ∧ wr' = wr) (fun _ _ i _ => G - (intOf i).toNat)
                  case atStart => exact ⟨0, Nat.zero_le _, rfl, rfl⟩
                  case round =>
                    obtain ⟨k, hk, rfl, rfl⟩ := hrel
                    by_cases hkG : k < G
                    · have c1 := HF7.out.cell (p := ⟨p, k, none⟩) (HONE.out k hkG) (by simp)
                      by_cases hkz : k < z
                      · have u1 : decide ((k : Int) < (z : Int)) = true := by simp; omega
                        have u2 : decide (k < z) = true := by simp; omega
                        go_wp2_with fail
                        go_roundw
                        case rel => exact ⟨k + 1, by omega, by go_num, trivial⟩
                        case measure => simp [intOf]; omega
                      · have u1 : decide ((k : Int) < (z : Int)) = false := by simp; omega
                        have u2 : decide (k < z) = false := by simp; omega
                        go_wp2_with fail
                        go_roundw
                        case rel => exact ⟨k + 1, by omega, by go_num, trivial⟩
                        case measure => simp [intOf]; omega
                    · go_wp2_with fail
                      refine (awake_any _).mono ?_
                      rintro e w8 ⟨rfl, hB8⟩
                      have hB9 := HB10.out.trans (HF7.out.below (by simp) HB10.out.size)
                      have hB10 : Below w.heap.size w w8 := hB9.trans ⟨hB8.os, hB8.tape, hB8.output, hB8.size, fun q hq => hB8.block q (Nat.lt_of_lt_of_le hq hB9.size)⟩
                      go_wp2_with fail
                      go_ret
                      exact ⟨rfl, hB10⟩

/-- What a row hands over is a slice of bytes. -/
theorem bytes_of {w : World} {a : Option Addr} {len cap : Nat} {zs : List Int} (h : IsRow .u8 w a len cap zs) : Bytes w a len ∧ (a = none → len = 0 ∧ cap = 0) ∧ len ≤ cap := by
  cases a with
  | none => obtain ⟨h1, h2, h3⟩ := h; subst h1; subst h2; exact ⟨fun k hk => by omega, fun _ => ⟨rfl, rfl⟩, Nat.le_refl _⟩
  | some x =>
    obtain ⟨h1, _, _, h4⟩ := h
    refine ⟨fun k hk => ?_, fun h => (by cases h), h1⟩
    obtain ⟨b, o, sp⟩ := x
    have h0 := (h4 0 (by omega)).1
    obtain rfl : sp = none := by simpa [Addr.add] using World.cell?_spot h0
    obtain ⟨h5, h6⟩ := h4 k hk
    rw [Addr.add_mid] at h5
    have h7 : (0 : Int) ≤ zs.getD k 0 ∧ zs.getD k 0 ≤ 255 := by
      simpa [Lit.wf, IntKind.min, IntKind.max, IntKind.signed, IntKind.bits] using h6
    exact ⟨b, o, _, rfl, World.block_lt_of_cell? w ⟨b, o + k, none⟩ h5, h5, h7.1, h7.2⟩

theorem all_walk (a0 : Int) (a1 : Option Addr) (len1 cap1 : Nat) (z1 : List Int) (w : World) (w0 : (Lit.int .u8 a0).wf = true) (w1 : IsRow .u8 w a1 len1 cap1 z1) :
    Calls Try.prog 3 #[.int .u8 a0, .slice a1 len1 cap1] w fun e w' => e = .returned (.bool true) ∧ Below w.heap.size w w' := by
  have h7 : (0 : Int) ≤ a0 ∧ a0 ≤ 255 := by simpa [Lit.wf, IntKind.min, IntKind.max, IntKind.signed, IntKind.bits] using w0
  obtain ⟨h1, h2, h3⟩ := bytes_of w1
  exact all_any a0 h7.1 h7.2 a1 len1 cap1 h3 h2 w h1
end Acq
