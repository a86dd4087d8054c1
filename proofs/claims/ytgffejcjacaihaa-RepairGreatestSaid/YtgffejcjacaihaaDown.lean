/- label.may, picked, down, Steep, Flat, Valid: the open arcs that go down by so much. -/
import Derived.Test.YtgffejcjacaihaaTail
import Derived.Test.YtgffejcjacaihaaHeights
set_option linter.unusedSimpArgs false
set_option linter.unnecessarySimpa false
set_option linter.unusedVariables false
namespace Acq
open Go Go.RowKit Go.Proofs Acq.Low

/-- Those below `k` that are picked. -/
def pickTo (p : Nat → Bool) : Nat → List Int
  | 0 => []
  | k + 1 => pickTo p k ++ (if p k then [(k : Int)] else [])

theorem pickTo_len (p : Nat → Bool) : ∀ k, (pickTo p k).length ≤ k
  | 0 => Nat.le_refl _
  | k + 1 => by
    rw [pickTo, List.length_append]
    have := pickTo_len p k
    split <;> simp <;> omega

theorem mem_pickTo {p : Nat → Bool} {x : Int} : ∀ {k : Nat}, x ∈ pickTo p k ↔ ∃ a : Nat, a < k ∧ p a = true ∧ x = a
  | 0 => by simp [pickTo]
  | k + 1 => by
    rw [pickTo, List.mem_append, mem_pickTo]
    constructor
    · rintro (⟨a, h1, h2, h3⟩ | h)
      · exact ⟨a, by omega, h2, h3⟩
      · by_cases hp : p k = true
        · rw [if_pos hp] at h; simp at h; exact ⟨k, by omega, hp, h⟩
        · rw [if_neg hp] at h; simp at h
    · rintro ⟨a, h1, h2, h3⟩
      by_cases ha : a < k
      · exact .inl ⟨a, ha, h2, h3⟩
      · obtain rfl : a = k := by omega
        right; rw [if_pos h2, h3]; simp

/-- An open arc, not out of S, that goes down so. -/
def downB (G : Net) (res h : List Int) (q : Int → Bool) (a : Nat) : Bool :=
  match G.E[a]? with
  | some e => decide (e.tl ≠ G.S) && decide (0 < res.getD a 0) && q (fn h e.tl - fn h e.hd)
  | none => false

theorem downB_of {G : Net} {res h : List Int} {q : Int → Bool} {a : Nat} : downB G res h q a = true ↔ ∃ e, G.E[a]? = some e ∧ e.tl ≠ G.S ∧ 0 < res.getD a 0 ∧ q (fn h e.tl - fn h e.hd) = true := by
  unfold downB
  cases he : G.E[a]? with
  | none => simp
  | some e => simp [and_assoc]

def steepQ (x : Int) : Bool := decide (1 < x)
def flatQ (x : Int) : Bool := x == 1

theorem steep_none {G : Net} {res h : List Int} : pickTo (downB G res h steepQ) G.E.length = [] ↔ Valid (Open G res) (fn h) := by
  constructor
  · rintro hp u v ⟨hu, a, e, he, rfl, rfl, hr⟩
    refine Classical.byContradiction fun hno => ?_
    have : (a : Int) ∈ pickTo (downB G res h steepQ) G.E.length := mem_pickTo.2 ⟨a, (List.getElem?_eq_some_iff.1 he).1, downB_of.2 ⟨e, he, hu, hr, by simp [steepQ]; omega⟩, rfl⟩
    rw [hp] at this
    simp at this
  · intro hv
    refine List.eq_nil_iff_forall_not_mem.2 fun x hx => ?_
    obtain ⟨a, _, h2, _⟩ := mem_pickTo.1 hx
    obtain ⟨e, he, h3, h4, h5⟩ := downB_of.1 h2
    have := hv e.tl e.hd ⟨h3, a, e, he, rfl, rfl, h4⟩
    simp [steepQ] at h5
    omega

theorem best_hts {G : Net} {res h out : List Int} (hS : G.S < G.N) (hh : Hts G h) (hl : out.length = G.N) (hb : ∀ x ∈ out, 0 ≤ x ∧ x ≤ (G.N : Int)) (hB : Best (Open G res) (fn h) (fn out)) (hT : G.T < G.N) : Hts G out := by
  obtain ⟨t, ht⟩ : ∃ t, out[G.T]? = some t := ⟨_, List.getElem?_eq_getElem (by omega)⟩
  obtain ⟨s, hs⟩ : ∃ s, out[G.S]? = some s := ⟨_, List.getElem?_eq_getElem (by omega)⟩
  have b1 := hb t (List.mem_of_getElem? ht)
  have b2 := hb s (List.mem_of_getElem? hs)
  have h1 := hB.le G.T
  rw [fn_get ht, fn_get hh.2.2.1] at h1
  have h2 := hB.most (Acq.Low.upd (fn out) G.S G.N) (fun u v e => by
      have hu : u ≠ G.S := e.1
      have := hB.valid u v e
      simp only [Acq.Low.upd, if_neg hu]
      split
      · rename_i hv; subst hv; rw [fn_get hs] at this; omega
      · exact this) (fun v => by
      simp only [Acq.Low.upd]
      split
      · rename_i hv; subst hv; rw [fn_get hh.2.2.2]; omega
      · exact hB.le v) G.S
  simp only [Acq.Low.upd, if_pos, fn_get hs] at h2
  refine ⟨hl, hb, ?_, ?_⟩
  · rw [ht]; congr 1; omega
  · rw [hs]; congr 1; omega

theorem may_yes (G : Net) (hG : G.Ok) (AF AH AR AC AA AB : Option Addr) (cF cH cR cC cA cB : Nat) (res h : List Int) (A B : Option Addr) (c d : Nat) (w : World) (hB : SlI w B h) (hr : res.length = G.E.length) (hh : Hts G h) :
    Calls Try.prog 31 #[.agg (csrCells G AF AH AR AC AA AB cF cH cR cC cA cB).toArray, .slice A res.length c, .slice B h.length d] w fun e w' => e = .returned (.bool true) ∧ Fr [] w w' := by
  have hn := hG.n16
  have HR : Hid (∀ W, Fr [] w W → Calls Try.prog 25 #[.agg (csrCells G AF AH AR AC AA AB cF cH cR cC cA cB).toArray, .slice B h.length d] W fun e w' => e = .returned (.bool true) ∧ Fr [] W w') := Lib.hid fun W hW =>
    (right_any G hG AF AH AR AC AA AB cF cH cR cC cA cB B d h W (hB.fr0 hW) (by rw [hh.1]; omega)).mono fun e w' ⟨b, h1, h2, h3⟩ => ⟨by rw [h1, h2.2 hh], h3⟩
  have HCL := Lib.hid (fun W => csrlen_any (.int .i64 G.N) (.int .i64 G.S) (.int .i64 G.T) (.slice AF (G.N + 1) cF) (.slice AR G.E.length cR) (.slice AC G.E.length cC) (.slice AA G.E.length cA) (.slice AB G.E.length cB) AH G.E.length cH W)
  have hb := Blk.new w (csrCells G AF AH AR AC AA AB cF cH cR cC cA cB) 29
  have HB := Lib.hid hb
  clear hB hb hh
  rw [hr]
  clear hr
  unfold csrCells at *
  have q1 : (((G.E.length : Int) : Int) == ((G.E.length : Int) : Int)) = true := by simp
  have q2 : (((G.E.length : Int) : Int) != ((G.E.length : Int) : Int)) = false := by simp
  have q3 : ((G.E.length : Int) == (G.E.length : Int)) = true := by simp
  have q4 : ((G.E.length : Int) != (G.E.length : Int)) = false := by simp
  go_enter Try.func31, Try.ntmps31
  go_wp2_with (refine wl_load rfl rfl rfl _ HB.out Try.underlying29 rfl (by kernel_rfl) ?_)
  refine (HCL.out _).mono ?_
  rintro en w1 ⟨rfl, hF⟩
  have HB1 := HB.out.fr hF (by simp)
  have HF := Lib.hid (((Fr.refl [] w).alloc _).trans hF)
  have c0 := HB1.cell (o := 0) rfl
  have c1 := HB1.cell (o := 1) rfl
  have c2 := HB1.cell (o := 2) rfl
  have c3 := HB1.cell (o := 3) rfl
  have c4 := HB1.cell (o := 4) rfl
  have c5 := HB1.cell (o := 5) rfl
  have c6 := HB1.cell (o := 6) rfl
  have c7 := HB1.cell (o := 7) rfl
  have c8 := HB1.cell (o := 8) rfl
  clear hF HB1 HB HCL
  go_wp2_with fail
  refine (HR.out _ HF.out).mono ?_
  rintro en w2 ⟨rfl, hF2⟩
  have HF2 := Lib.hid (HF.out.trans hF2)
  clear hF2
  go_wp2_with fail
  go_ret
  exact ⟨rfl, HF2.out⟩

set_option maxHeartbeats 1000000 in
theorem picked_any {x1 x2 x3 x4 : Value} (n : Nat) (p : Nat → Bool) (w : World) (hn : n ≤ 2000)
    (hp : ∀ W i, Fr [] w W → i < n → Calls Try.prog 42 #[.int .i64 (i : Nat), x1, x2, x3, x4] W fun e w' => e = .returned (.tuple #[.int .i64 (i : Nat), .bool (p i)]) ∧ Fr [] W w') :
    Calls Try.prog 41 #[.int .i64 n, .func (.func 42) #[] #[x1, x2, x3, x4]] w fun e w' => ∃ A c, e = .returned (.slice A (pickTo p n).length c) ∧ SlI w' A (pickTo p n) ∧ Fr [] w w' := by
  have HP := Lib.hid hp
  obtain ⟨ii, hi0, hi1, hi2, hi3⟩ := info_parts infoInt
  have HII := Lib.hid (And.intro hi0 (And.intro hi1 (And.intro hi2 hi3)))
  clear hp hi0 hi1 hi2 hi3
  go_enter Try.func41, Try.ntmps41
  go_wp2_with fail
  go_loopw [5, 6, 7, 8, 10, 13] (fun sv _ _ _ si _ wr => ∃ (k : Nat) (v' : Value), v' = sv ∧ si = .int .i64 k ∧ k ≤ n ∧ wr.ownsRow w.heap.size 3 1 v' (ints (pickTo p k)).length (ints (pickTo p k)) ∧ Fr [] w wr) (fun _ _ _ _ si _ _ => n - (intOf si).toNat)
  case atStart => exact ⟨0, _, rfl, rfl, Nat.zero_le _, World.ownsRow_nil _ _ _ _, Fr.refl _ _⟩
  case round =>
    obtain ⟨k, vv, rfl, rfl, hk, hO, hF⟩ := hrel
    have HO := Lib.hid hO
    have HFX := Lib.hid hF
    clear hO hF
    by_cases hkn : k < n
    · have hc := HP.out wr k HFX.out hkn
      have KT : Hid (pickTo p (k + 1) = pickTo p k ++ (if p k then [(k : Int)] else [])) := Lib.hid (by rw [pickTo])
      have HLN : Hid ((ints (pickTo p k)).length ≤ 2000) := Lib.hid (by rw [ints_len]; have := pickTo_len p k; omega)
      cases hpk : p k
      all_goals
        rw [hpk] at hc KT
        have HCA := Lib.hid hc
        clear hc hpk
        go_wp2_with fail
        refine HCA.out.mono ?_
        rintro e w3 ⟨rfl, hF3⟩
        have HO3 := Lib.hid (ownsRow_fr HO.out hF3 (by simp))
        have HF3 := Lib.hid (HFX.out.trans hF3)
        clear HCA hF3
      · go_wp2_with fail
        go_roundw
        case rel =>
          refine ⟨k + 1, _, rfl, by go_num, by omega, ?_, HF3.out⟩
          rw [KT.out]
          simp only [Bool.false_eq_true, if_false, List.append_nil]
          exact HO3.out
        case measure => simp [intOf]; omega
      · go_wp2_with (at_builtin; refine wpList_append_lies _ rfl _ _ 26 rfl w.heap.size 3 ii _ 1 8 Try.underlying26 HII.out.1 HII.out.2.1 HII.out.2.2.1 HII.out.2.2.2 rfl (by decide) vv _ _ rfl (ownsRow_fr HO3.out ((Fr.refl [] w3).alloc _) (by simp)) ⟨w3.heap.size, 0, none⟩ 1 1 [.int .i64 k] rfl rfl (World.news_of_block (heap_alloc_new _ _)) (by simp [Value.oneCell']) (by decide) (by have := HLN.out; unfold maxLen; omega) (by have := HLN.out; omega) (by rw [World.size_alloc]; have := HF3.out.size; simp; omega) (w3.heap.size + 1) (by simp) ?_; intro gg cap_ w4 hown4 hgr4 hat4 hlt4; have HO4 := Lib.hid hown4; have HG4 := Lib.hid hgr4; clear hown4 hgr4 hat4 hlt4)
        go_roundw
        case rel =>
          refine ⟨k + 1, _, rfl, by go_num, by omega, ?_, ?_⟩
          · rw [KT.out, if_pos trivial, ints_app]
            simpa [ints] using HO4.out
          · have hge := own_ge HO3.out
            exact (((HF3.out.alloc _).more (S' := vv.ownBlock.toList) (by simp)).trans (Fr.of_grown HG4.out (fun k hk => by simpa using hk))).less (fun x hx _ => hge x (by simpa using hx))
        case measure => simp [intOf]; omega
    · have hkk : k = n := by omega
      subst hkk
      obtain ⟨c2, hc2, hve, hsl⟩ := Sl.of_own HO.out (by decide)
      go_wp2_with fail
      go_ret
      refine ⟨vv.ownBlock.map fun g => ⟨g, 0, none⟩, c2, ?_, ?_, HFX.out⟩
      · rw [ints_len] at hve
        rw [← hve]
        rfl
      · unfold SlI
        rw [ints_len] at hsl
        exact hsl

theorem steepQ_any (x : Int) (w : World) : Calls Try.prog 33 #[.int .i64 x] w fun e w' => e = .returned (.bool (steepQ x)) ∧ w' = w := by
  go_enter Try.func33, Try.ntmps33
  go_wp2_with fail
  go_ret
  exact ⟨by simp [steepQ], rfl⟩

theorem flatQ_any (x : Int) (w : World) : Calls Try.prog 35 #[.int .i64 x] w fun e w' => e = .returned (.bool (flatQ x)) ∧ w' = w := by
  go_enter Try.func35, Try.ntmps35
  go_wp2_with fail
  go_ret
  exact ⟨by simp [flatQ], rfl⟩
set_option maxHeartbeats 2000000 in
set_option maxRecDepth 100000 in
theorem down_steep (G : Net) (hG : G.Ok) (AF AH AR AC AA AB : Option Addr) (cF cH cR cC cA cB : Nat) (res h : List Int) (A B : Option Addr) (c d : Nat) (w : World) (n0 n1 n2 n3 : Nat) (a : Nat) (ha : a < G.E.length) (hV : CsrV w G AF AH AR AC AA AB) (hA : SlI w A res) (hB : SlI w B h) (hr : res.length = G.E.length) (hh : Hts G h)
    (b0 : Blk w n0 (csrCells G AF AH AR AC AA AB cF cH cR cC cA cB) 29) (b1 : w.cell? ⟨n1, 0, none⟩ = some (.slice A res.length c)) (b2 : w.cell? ⟨n2, 0, none⟩ = some (.slice B h.length d)) (b3 : w.cell? ⟨n3, 0, none⟩ = some (.func (.func 33) #[] #[])) :
    Calls Try.prog 42 #[.int .i64 (a : Nat), .pointer (some ⟨n0, 0, none⟩), .pointer (some ⟨n1, 0, none⟩), .pointer (some ⟨n3, 0, none⟩), .pointer (some ⟨n2, 0, none⟩)] w fun e w' => e = .returned (.tuple #[.int .i64 (a : Nat), .bool (downB G res h steepQ a)]) ∧ Fr [] w w' := by
  obtain ⟨e, he⟩ : ∃ e, G.E[a]? = some e := ⟨_, List.getElem?_eq_getElem ha⟩
  have hEl := E_len hG
  have hN := hG.n16
  have htl : e.tl < G.N := (mem_allTo.1 (List.mem_of_getElem? he)).1
  have ho := (tl_iff he htl).1 rfl
  obtain ⟨e', _, he', _, hhd, _, hhd2, _⟩ := at_entry hG htl ho.1 ho.2
  obtain rfl : e = e' := by rw [he] at he'; exact Option.some.inj he'
  obtain ⟨r, hrr⟩ : ∃ r, res[a]? = some r := ⟨_, List.getElem?_eq_getElem (by omega)⟩
  obtain ⟨hu, hhu⟩ : ∃ r, h[e.tl]? = some r := ⟨_, List.getElem?_eq_getElem (by rw [hh.1]; exact htl)⟩
  obtain ⟨hv, hhv⟩ : ∃ r, h[e.hd]? = some r := ⟨_, List.getElem?_eq_getElem (by rw [hh.1]; exact hhd)⟩
  have bu := hh.2.1 hu (List.mem_of_getElem? hhu)
  have bv := hh.2.1 hv (List.mem_of_getElem? hhv)
  have HD : Hid (downB G res h steepQ a = (decide (e.tl ≠ G.S) && decide (0 < r) && steepQ (hu - hv))) := Lib.hid (by
    unfold downB
    rw [he]
    simp only [fn_get hhu, fn_get hhv, List.getD_eq_getElem?_getD, hrr, Option.getD_some])
  have HT := Lib.hid (tail_any G hG AF AH AR AC AA AB cF cH cR cC cA cB a e w hV he)
  obtain ⟨gh, oh, rfl, y0⟩ := hV.H.at hhd2
  obtain ⟨ga, oa, rfl, y1⟩ := hA.at hrr
  obtain ⟨gb, ob, rfl, y2⟩ := hB.at hhu
  obtain ⟨gb', ob', hbb, y3⟩ := hB.at hhv
  simp only [Option.some.injEq, Addr.mk.injEq, and_true] at hbb
  obtain ⟨rfl, rfl⟩ := hbb
  obtain ⟨H1, H2⟩ := csr_one G AF (some ⟨gh, oh, none⟩) AR AC AA AB cF cH cR cC cA cB
  have e1 := b0.cell (o := 1) rfl
  have e4 := b0.cell (o := 4) rfl
  have hlen := hh.1
  rw [hr] at b1
  rw [hlen] at b2
  have HY := Lib.hid (And.intro y0 (And.intro y1 (And.intro y2 (And.intro y3 (And.intro b1 (And.intro b2 (And.intro b3 (And.intro e1 e4))))))))
  have HB0 := Lib.hid b0
  obtain ⟨cs, hcs⟩ : ∃ cs, cs = csrCells G AF (some ⟨gh, oh, none⟩) AR AC AA AB cF cH cR cC cA cB := ⟨_, rfl⟩
  rw [← hcs] at HT HB0 H2
  have H2' := Lib.hid H2
  clear y0 y1 y2 y3 b1 b2 b3 e1 e4 b0 he he' ho hhd2 hrr hhu hhv hV hA hB hh hr hlen H1 H2 hcs
  have k0 : (0 : Int) ≤ (a : Int) := by omega
  have k1 : (a : Int) < (G.E.length : Int) := by omega
  have k2 : (0 : Int) ≤ (e.tl : Int) := by omega
  have k3 : (e.tl : Int) < (G.N : Int) := by omega
  have k4 : (0 : Int) ≤ (e.hd : Int) := by omega
  have k5 : (e.hd : Int) < (G.N : Int) := by omega
  have nw : IntKind.i64.wrap (hu - hv) = hu - hv := IntWalk.i64_in _ (by omega)
  rw [HD.out]
  go_enter Try.func42, Try.ntmps42
  go_wp2_with (refine wl_load rfl rfl rfl cs HB0.out Try.underlying29 rfl (by rw [H2'.out]; kernel_rfl) ?_)
  refine HT.out.mono ?_
  rintro en w1 ⟨rfl, hF⟩
  have HF := Lib.hid hF
  obtain ⟨y0, y1, y2, y3, b1, b2, b3, e1, e4⟩ := HY.out
  have z0 := hF.cell y0 (by simp)
  have z1 := hF.cell y1 (by simp)
  have z2 := hF.cell y2 (by simp)
  have z3 := hF.cell y3 (by simp)
  have z4 := hF.cell b1 (by simp)
  have z5 := hF.cell b2 (by simp)
  have z6 := hF.cell b3 (by simp)
  have z7 := hF.cell e1 (by simp)
  have z8 := hF.cell e4 (by simp)
  have HQ := Lib.hid (fun n => steepQ_any (hu - hv) (w1.drewN n))
  clear hF y0 y1 y2 y3 b1 b2 b3 e1 e4 HY HB0 HT HD H2'
  by_cases c1 : e.tl = G.S
  · have q1 : ((e.tl : Int) == (G.S : Int)) = true := by simp [c1]
    have q2 : ((e.tl : Int) != (G.S : Int)) = false := by simp [c1]
    have q3 : (e.tl == G.S) = true := by simp [c1]
    have q4 : (e.tl != G.S) = false := by simp [c1]
    have HW : Hid ((decide (e.tl ≠ G.S) && decide (0 < r) && steepQ (hu - hv)) = false) := Lib.hid (by simp [c1])
    clear c1
    go_wp2_with fail
    go_quiet (fail)
    go_wp2_with fail
    go_ret2
    exact ⟨by rw [HW.out]; rfl, HF.out.drewN _⟩
  · have q1 : ((e.tl : Int) == (G.S : Int)) = false := by simp; omega
    have q2 : ((e.tl : Int) != (G.S : Int)) = true := by simp; omega
    have q3 : (e.tl == G.S) = false := by simp; omega
    have q4 : (e.tl != G.S) = true := by simp; omega
    by_cases c2 : 0 < r
    · have q6 : decide (0 < r) = true := by simp [c2]
      have HW : Hid ((decide (e.tl ≠ G.S) && decide (0 < r) && steepQ (hu - hv)) = steepQ (hu - hv)) := Lib.hid (by simp [c1, c2])
      clear c1 c2
      go_wp2_with fail
      go_quiet ((go_at_call 33; exact Calls.quiet_of_same (HQ.out _)))
      go_wp2_with fail
      go_ret2
      exact ⟨by rw [HW.out]; rfl, HF.out.drewN _⟩
    · have q6 : decide (0 < r) = false := by simp; omega
      have HW : Hid ((decide (e.tl ≠ G.S) && decide (0 < r) && steepQ (hu - hv)) = false) := Lib.hid (by simp [c1, c2])
      clear c1 c2
      go_wp2_with fail
      go_quiet (fail)
      go_wp2_with fail
      go_ret2
      exact ⟨by rw [HW.out]; rfl, HF.out.drewN _⟩
set_option maxHeartbeats 2000000 in
set_option maxRecDepth 100000 in
theorem down_flat (G : Net) (hG : G.Ok) (AF AH AR AC AA AB : Option Addr) (cF cH cR cC cA cB : Nat) (res h : List Int) (A B : Option Addr) (c d : Nat) (w : World) (n0 n1 n2 n3 : Nat) (a : Nat) (ha : a < G.E.length) (hV : CsrV w G AF AH AR AC AA AB) (hA : SlI w A res) (hB : SlI w B h) (hr : res.length = G.E.length) (hh : Hts G h)
    (b0 : Blk w n0 (csrCells G AF AH AR AC AA AB cF cH cR cC cA cB) 29) (b1 : w.cell? ⟨n1, 0, none⟩ = some (.slice A res.length c)) (b2 : w.cell? ⟨n2, 0, none⟩ = some (.slice B h.length d)) (b3 : w.cell? ⟨n3, 0, none⟩ = some (.func (.func 35) #[] #[])) :
    Calls Try.prog 42 #[.int .i64 (a : Nat), .pointer (some ⟨n0, 0, none⟩), .pointer (some ⟨n1, 0, none⟩), .pointer (some ⟨n3, 0, none⟩), .pointer (some ⟨n2, 0, none⟩)] w fun e w' => e = .returned (.tuple #[.int .i64 (a : Nat), .bool (downB G res h flatQ a)]) ∧ Fr [] w w' := by
  obtain ⟨e, he⟩ : ∃ e, G.E[a]? = some e := ⟨_, List.getElem?_eq_getElem ha⟩
  have hEl := E_len hG
  have hN := hG.n16
  have htl : e.tl < G.N := (mem_allTo.1 (List.mem_of_getElem? he)).1
  have ho := (tl_iff he htl).1 rfl
  obtain ⟨e', _, he', _, hhd, _, hhd2, _⟩ := at_entry hG htl ho.1 ho.2
  obtain rfl : e = e' := by rw [he] at he'; exact Option.some.inj he'
  obtain ⟨r, hrr⟩ : ∃ r, res[a]? = some r := ⟨_, List.getElem?_eq_getElem (by omega)⟩
  obtain ⟨hu, hhu⟩ : ∃ r, h[e.tl]? = some r := ⟨_, List.getElem?_eq_getElem (by rw [hh.1]; exact htl)⟩
  obtain ⟨hv, hhv⟩ : ∃ r, h[e.hd]? = some r := ⟨_, List.getElem?_eq_getElem (by rw [hh.1]; exact hhd)⟩
  have bu := hh.2.1 hu (List.mem_of_getElem? hhu)
  have bv := hh.2.1 hv (List.mem_of_getElem? hhv)
  have HD : Hid (downB G res h flatQ a = (decide (e.tl ≠ G.S) && decide (0 < r) && flatQ (hu - hv))) := Lib.hid (by
    unfold downB
    rw [he]
    simp only [fn_get hhu, fn_get hhv, List.getD_eq_getElem?_getD, hrr, Option.getD_some])
  have HT := Lib.hid (tail_any G hG AF AH AR AC AA AB cF cH cR cC cA cB a e w hV he)
  obtain ⟨gh, oh, rfl, y0⟩ := hV.H.at hhd2
  obtain ⟨ga, oa, rfl, y1⟩ := hA.at hrr
  obtain ⟨gb, ob, rfl, y2⟩ := hB.at hhu
  obtain ⟨gb', ob', hbb, y3⟩ := hB.at hhv
  simp only [Option.some.injEq, Addr.mk.injEq, and_true] at hbb
  obtain ⟨rfl, rfl⟩ := hbb
  obtain ⟨H1, H2⟩ := csr_one G AF (some ⟨gh, oh, none⟩) AR AC AA AB cF cH cR cC cA cB
  have e1 := b0.cell (o := 1) rfl
  have e4 := b0.cell (o := 4) rfl
  have hlen := hh.1
  rw [hr] at b1
  rw [hlen] at b2
  have HY := Lib.hid (And.intro y0 (And.intro y1 (And.intro y2 (And.intro y3 (And.intro b1 (And.intro b2 (And.intro b3 (And.intro e1 e4))))))))
  have HB0 := Lib.hid b0
  obtain ⟨cs, hcs⟩ : ∃ cs, cs = csrCells G AF (some ⟨gh, oh, none⟩) AR AC AA AB cF cH cR cC cA cB := ⟨_, rfl⟩
  rw [← hcs] at HT HB0 H2
  have H2' := Lib.hid H2
  clear y0 y1 y2 y3 b1 b2 b3 e1 e4 b0 he he' ho hhd2 hrr hhu hhv hV hA hB hh hr hlen H1 H2 hcs
  have k0 : (0 : Int) ≤ (a : Int) := by omega
  have k1 : (a : Int) < (G.E.length : Int) := by omega
  have k2 : (0 : Int) ≤ (e.tl : Int) := by omega
  have k3 : (e.tl : Int) < (G.N : Int) := by omega
  have k4 : (0 : Int) ≤ (e.hd : Int) := by omega
  have k5 : (e.hd : Int) < (G.N : Int) := by omega
  have nw : IntKind.i64.wrap (hu - hv) = hu - hv := IntWalk.i64_in _ (by omega)
  rw [HD.out]
  go_enter Try.func42, Try.ntmps42
  go_wp2_with (refine wl_load rfl rfl rfl cs HB0.out Try.underlying29 rfl (by rw [H2'.out]; kernel_rfl) ?_)
  refine HT.out.mono ?_
  rintro en w1 ⟨rfl, hF⟩
  have HF := Lib.hid hF
  obtain ⟨y0, y1, y2, y3, b1, b2, b3, e1, e4⟩ := HY.out
  have z0 := hF.cell y0 (by simp)
  have z1 := hF.cell y1 (by simp)
  have z2 := hF.cell y2 (by simp)
  have z3 := hF.cell y3 (by simp)
  have z4 := hF.cell b1 (by simp)
  have z5 := hF.cell b2 (by simp)
  have z6 := hF.cell b3 (by simp)
  have z7 := hF.cell e1 (by simp)
  have z8 := hF.cell e4 (by simp)
  have HQ := Lib.hid (fun n => flatQ_any (hu - hv) (w1.drewN n))
  clear hF y0 y1 y2 y3 b1 b2 b3 e1 e4 HY HB0 HT HD H2'
  by_cases c1 : e.tl = G.S
  · have q1 : ((e.tl : Int) == (G.S : Int)) = true := by simp [c1]
    have q2 : ((e.tl : Int) != (G.S : Int)) = false := by simp [c1]
    have q3 : (e.tl == G.S) = true := by simp [c1]
    have q4 : (e.tl != G.S) = false := by simp [c1]
    have HW : Hid ((decide (e.tl ≠ G.S) && decide (0 < r) && flatQ (hu - hv)) = false) := Lib.hid (by simp [c1])
    clear c1
    go_wp2_with fail
    go_quiet (fail)
    go_wp2_with fail
    go_ret2
    exact ⟨by rw [HW.out]; rfl, HF.out.drewN _⟩
  · have q1 : ((e.tl : Int) == (G.S : Int)) = false := by simp; omega
    have q2 : ((e.tl : Int) != (G.S : Int)) = true := by simp; omega
    have q3 : (e.tl == G.S) = false := by simp; omega
    have q4 : (e.tl != G.S) = true := by simp; omega
    by_cases c2 : 0 < r
    · have q6 : decide (0 < r) = true := by simp [c2]
      have HW : Hid ((decide (e.tl ≠ G.S) && decide (0 < r) && flatQ (hu - hv)) = flatQ (hu - hv)) := Lib.hid (by simp [c1, c2])
      clear c1 c2
      go_wp2_with fail
      go_quiet ((go_at_call 35; exact Calls.quiet_of_same (HQ.out _)))
      go_wp2_with fail
      go_ret2
      exact ⟨by rw [HW.out]; rfl, HF.out.drewN _⟩
    · have q6 : decide (0 < r) = false := by simp; omega
      have HW : Hid ((decide (e.tl ≠ G.S) && decide (0 < r) && flatQ (hu - hv)) = false) := Lib.hid (by simp [c1, c2])
      clear c1 c2
      go_wp2_with fail
      go_quiet (fail)
      go_wp2_with fail
      go_ret2
      exact ⟨by rw [HW.out]; rfl, HF.out.drewN _⟩
end Acq
