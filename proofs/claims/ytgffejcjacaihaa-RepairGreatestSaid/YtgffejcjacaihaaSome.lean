/- acequialow.Some: whatever net comes in, a right one comes out. -/
import Derived.Test.YtgffejcjacaihaaNet
import Derived.Deep.CutBlock
import Derived.Deep.DeepMust
import Derived.Deep.DeepCutAuto
import Derived.Outline
import Derived.IntWalk
set_option linter.unusedSimpArgs false
set_option linter.unnecessarySimpa false
set_option linter.unusedVariables false
namespace Acq
open Go Go.RowKit Go.Proofs

def In64 (x : Int) : Prop := -9223372036854775808 ≤ x ∧ x ≤ 9223372036854775807

/-- A right net in memory. -/
structure NetV (w : World) (G : Net) (A : Option Addr) (c : Nat) : Prop where
  arcs : ArcsV w A G.ar
  cap : G.ar.length ≤ c

def netCells (G : Net) (A : Option Addr) (c : Nat) : List Value := [.int .i64 G.N, .int .i64 G.S, .int .i64 G.T, .slice A G.ar.length c]

def SomeNet (B : Nat) (w : World) (e : Ending) (w' : World) : Prop := ∃ G A c, e = .returned (.agg (netCells G A c).toArray) ∧ G.Ok ∧ NetV w' G A c ∧ Fr [] w w'

theorem own_ge {w : World} {base n size : Nat} {e : TypeId} {v : Value} {xs : List Value} (h : w.ownsRow base e size v n xs) : ∀ g, v.ownBlock = some g → base ≤ g := fun g hg => (h.lt g hg).1

set_option maxRecDepth 100000 in
set_option maxHeartbeats 2000000 in
theorem some_any (N S T : Int) (A : Option Addr) (c : Nat) (l : List R3) (verts arcs : Nat) (w : World) (hN : In64 N) (hS : In64 S) (hT : In64 T) (hl : ∀ a ∈ l, In64 a.1 ∧ In64 a.2.1 ∧ In64 a.2.2) (hc : l.length ≤ c) (hcm : c ≤ maxLen)
    (hA : Sl w A l.length 3 (cat rawCells l)) (hv : 2 ≤ verts) (hv2 : verts ≤ 16) (ha : arcs ≤ 40) :
    Calls Try.prog 8 #[.agg #[.int .i64 N, .int .i64 S, .int .i64 T, .slice A l.length c], .int .i64 verts, .int .i64 arcs] w (SomeNet w.heap.size w) := by
  have HA := Lib.hid hA
  have HL := Lib.hid hl
  clear hA hl
  obtain ⟨hN1, hN2⟩ := hN
  obtain ⟨hS1, hS2⟩ := hS
  obtain ⟨hT1, hT2⟩ := hT
  unfold maxLen at hcm
  have hNv : 0 ≤ N % ((verts : Int) - 1) ∧ N % ((verts : Int) - 1) < (verts : Int) - 1 := ⟨Int.emod_nonneg _ (by omega), Int.emod_lt_of_pos _ (by omega)⟩
  obtain ⟨n, hn, hn2, hn3⟩ : ∃ n : Nat, 2 + N % ((verts : Int) - 1) = (n : Int) ∧ 2 ≤ n ∧ n ≤ 16 := ⟨(2 + N % ((verts : Int) - 1)).toNat, by omega, by omega, by omega⟩
  have HNV := Lib.hid hNv
  have HN := Lib.hid hn
  clear hNv hn
  go_enter Try.func8, Try.ntmps8
  go_upto_region 2 with (first | (go_at_call 23; refine (among_any _ _ (by omega) (by omega) (by omega) (by omega) _).mono ?_; rintro e w' ⟨rfl, rfl⟩; have h0 := HNV.out))
  rw [HN.out]
  clear HN HNV hN1 hN2
  obtain ⟨s, hs, hs2⟩ : ∃ s : Nat, S % (n : Int) = (s : Int) ∧ s < n := ⟨(S % (n : Int)).toNat, by have := Int.emod_nonneg S (by omega : (n : Int) ≠ 0); omega, by have := Int.emod_nonneg S (by omega : (n : Int) ≠ 0); have := Int.emod_lt_of_pos S (by omega : 0 < (n : Int)); omega⟩
  obtain ⟨t, ht, ht2⟩ : ∃ t : Nat, T % (n : Int) = (t : Int) ∧ t < n := ⟨(T % (n : Int)).toNat, by have := Int.emod_nonneg T (by omega : (n : Int) ≠ 0); omega, by have := Int.emod_nonneg T (by omega : (n : Int) ≠ 0); have := Int.emod_lt_of_pos T (by omega : 0 < (n : Int)); omega⟩
  have HSS : Hid (∀ W : World, Calls Try.prog 23 #[.int .i64 S, .int .i64 n] W fun e w' => e = .returned (.int .i64 s) ∧ W = w') := fun W => by rw [← hs]; exact among_any S n (by omega) (by omega) hS1 hS2 W
  have HTT : Hid (∀ W : World, Calls Try.prog 23 #[.int .i64 T, .int .i64 n] W fun e w' => e = .returned (.int .i64 t) ∧ W = w') := fun W => by rw [← ht]; exact among_any T n (by omega) (by omega) hT1 hT2 W
  clear hs ht hS1 hS2 hT1 hT2
  go_upto_region 3 with (go_at_call 23; refine (HSS.out _).mono ?_; rintro e w' ⟨rfl, rfl⟩)
  go_upto_region 4 with (go_at_call 23; refine (HTT.out _).mono ?_; rintro e w' ⟨rfl, rfl⟩)
  have HB := Lib.hid (Blk.new w [.int .i64 N, .int .i64 S, .int .i64 T, .slice A l.length c] 24)
  go_upto_if 34 with (fail)
  go_cut [] (fun wx => ∃ t' : Nat, t' < n ∧ s ≠ t' ∧ Blk wx w.heap.size [.int .i64 N, .int .i64 S, .int .i64 T, .slice A l.length c] 24 ∧ Blk wx (w.heap.size + 1) [.int .i64 0, .int .i64 0, .int .i64 0, .slice none 0 0] 24 ∧ Blk wx (w.heap.size + 1 + 1) [.int .i64 n, .int .i64 s, .int .i64 t', .slice none 0 0] 24 ∧ Fr [] w wx ∧ w.heap.size + 3 ≤ wx.heap.size)
  case first =>
    by_cases hst : s = t
    · obtain ⟨u, hu, hu2, hu3⟩ : ∃ u : Nat, ((s : Int) + 1) % (n : Int) = (u : Int) ∧ u < n ∧ s ≠ u := by
        refine ⟨(s + 1) % n, by rw [Int.natCast_emod]; rfl, Nat.mod_lt _ (by omega), ?_⟩
        rcases Nat.lt_or_ge (s + 1) n with h | h
        · rw [Nat.mod_eq_of_lt h]; omega
        · rw [show s + 1 = n by omega, Nat.mod_self]; omega
      have HU := Lib.hid hu
      clear hu
      subst hst
      have q1 : (((s : Int) : Int) == ((s : Int) : Int)) = true := by simp
      have q2 : (((s : Int) : Int) != ((s : Int) : Int)) = false := by simp
      have q3 : ((s : Int) == (s : Int)) = true := by simp
      have q4 : ((s : Int) != (s : Int)) = false := by simp
      go_wp2_with fail
      rw [HU.out]
      go_meet
      refine ⟨u, hu2, hu3, ((Blk.new _ _ _).alloc _).alloc _, (Blk.new_at _ _ (by simp)).alloc _, Blk.new_at _ _ (by simp), (((Fr.refl _ _).alloc _).alloc _).alloc _, by simp⟩
    · have q1 : ((s : Int) == (t : Int)) = false := by simp; omega
      have q2 : ((s : Int) != (t : Int)) = true := by simp; omega
      have q3 : (s == t) = false := by simp; omega
      have q4 : (s != t) = true := by simp; omega
      go_wp2_with fail
      go_meet
      refine ⟨t, ht2, hst, ((Blk.new _ _ _).alloc _).alloc _, (Blk.new_at _ _ (by simp)).alloc _, Blk.new_at _ _ (by simp), (((Fr.refl _ _).alloc _).alloc _).alloc _, by simp⟩
  case rest =>
    clear HB HSS HTT hn2 ht2
    obtain ⟨t', ht', hst', hB0, hB1, hB2, hF, hz⟩ := hcut
    obtain ⟨wo, rfl⟩ : ∃ wo : World, wo = wc := ⟨_, rfl⟩
    obtain ⟨m, hm⟩ : ∃ m, m = min l.length arcs := ⟨_, rfl⟩
    have hm1 : m ≤ l.length := by omega
    have hm2 : m ≤ 40 := by omega
    have HM : Hid ((if arcs < l.length then (arcs : Int) else (l.length : Int)) = (m : Int)) := Lib.hid (by split <;> omega)
    have d3 := hB0.cell (o := 3) rfl
    have HB0 := Lib.hid hB0
    have HB1 := Lib.hid hB1
    have HB2 := Lib.hid hB2
    have HF := Lib.hid hF
    have HZ := Lib.hid hz
    clear hB0 hB1 hB2 hF hm hz
    go_upto_block 0 with (fail)
    rw [HM.out, show max (m : Int) 0 = m by omega, Int.toNat_natCast]
    clear HM
    go_wp2_with fail
    go_loopw [9, 10, 51] (fun _ _ i wr => ∃ (k : Nat) (xs : List A3) (v : Value), i = .int .i64 k ∧ k ≤ m ∧ xs.length = k ∧ (∀ a ∈ xs, a.fr < n ∧ a.to < n ∧ 0 ≤ a.cap ∧ a.cap < 1125899906842624) ∧ Blk wr (w.heap.size + 1 + 1) [.int .i64 n, .int .i64 s, .int .i64 t', v] 24 ∧ wr.ownsRow wo.heap.size 53 3 v xs.length (cat arcCells xs) ∧ Fr [w.heap.size + 1 + 1] wo wr) (fun _ _ i _ => m - (intOf i).toNat)
    case atStart => exact ⟨0, [], .slice none 0 0, rfl, Nat.zero_le _, rfl, by simp, HB2.out, World.ownsRow_nil _ _ _ _, Fr.refl _ _⟩
    case round =>
      obtain ⟨k, xs, v, rfl, hk, hlen, hok, hB, hown, hFc⟩ := hrel
      have HB := Lib.hid hB
      have HO := Lib.hid hown
      have HK := Lib.hid hlen
      have HOK := Lib.hid hok
      have HFC := Lib.hid hFc
      have HFW : Hid (Fr [] w wr) := Lib.hid (((HF.out.more (by simp)).trans hFc).less (by simp; omega))
      have b0 := HB0.out.fr hFc (by simp; omega)
      have b1 := HB1.out.fr hFc (by simp)
      clear hB hown hlen hok hFc
      by_cases hkm : k < m
      · obtain ⟨a, ha⟩ : ∃ a, l[k]? = some a := ⟨_, List.getElem?_eq_getElem (by omega)⟩
        obtain ⟨g, off, rfl, hr⟩ := Sl.el rawCells_len HA.out ha
        have hr1 := rangeAt_fr hr HFW.out (by simp)
        obtain ⟨⟨a1, a2⟩, ⟨a3, a4⟩, ⟨a5, a6⟩⟩ := HL.out a (List.mem_of_getElem? ha)
        clear ha hr
        obtain ⟨x, y, z⟩ := a
        simp only at a1 a2 a3 a4 a5 a6
        have HR : Hid (wr.rangeAt g (off + k * 3) [.int .i64 x, .int .i64 y, .int .i64 z]) := Lib.hid hr1
        clear hr1
        have hx : ∃ x' : Nat, x % (n : Int) = (x' : Int) ∧ x' < n := ⟨(x % (n : Int)).toNat, by have := Int.emod_nonneg x (by omega : (n : Int) ≠ 0); omega, by have := Int.emod_nonneg x (by omega : (n : Int) ≠ 0); have := Int.emod_lt_of_pos x (by omega : 0 < (n : Int)); omega⟩
        obtain ⟨x', hx, hx2⟩ := hx
        have hy : ∃ x' : Nat, y % (n : Int) = (x' : Int) ∧ x' < n := ⟨(y % (n : Int)).toNat, by have := Int.emod_nonneg y (by omega : (n : Int) ≠ 0); omega, by have := Int.emod_nonneg y (by omega : (n : Int) ≠ 0); have := Int.emod_lt_of_pos y (by omega : 0 < (n : Int)); omega⟩
        obtain ⟨y', hy, hy2⟩ := hy
        have HXX : Hid (∀ W : World, Calls Try.prog 23 #[.int .i64 x, .int .i64 n] W fun e w' => e = .returned (.int .i64 x') ∧ W = w') := fun W => by rw [← hx]; exact among_any x n (by omega) (by omega) a1 a2 W
        have HYY : Hid (∀ W : World, Calls Try.prog 23 #[.int .i64 y, .int .i64 n] W fun e w' => e = .returned (.int .i64 y') ∧ W = w') := fun W => by rw [← hy]; exact among_any y n (by omega) (by omega) a3 a4 W
        clear hx hy
        go_upto_if 58 with (refine wpList_load_mid rfl _ _ rfl g (off + k * 3) rfl _ _ HR.out Try.underlying53 rfl (by kernel_rfl) ?_)
        go_cut [10] (fun s10 wx => ∃ q : Int, s10 = .int .i64 q ∧ 0 ≤ q ∧ q ≤ 9223372036854775807 ∧ Blk wx wr.heap.size [.int .i64 x, .int .i64 y, .int .i64 z] 53 ∧ Fr [] wr wx)
        case first =>
          by_cases hz0 : z < 0
          all_goals
            go_wp2_with fail
            go_meet
            exact ⟨_, rfl, by omega, by omega, Blk.new _ _ _, (Fr.refl _ _).alloc _⟩
        case rest =>
          obtain ⟨q, rfl, hq0, hq1, hB3, hFq⟩ := hcut
          obtain ⟨r, hr, hr0, hr1⟩ : ∃ r : Int, q % 1125899906842624 = r ∧ 0 ≤ r ∧ r < 1125899906842624 := ⟨_, rfl, Int.emod_nonneg _ (by omega), Int.emod_lt_of_pos _ (by omega)⟩
          have hb2 := HB.out.fr hFq (by simp)
          have HO2 := Lib.hid (ownsRow_fr HO.out hFq (by simp))
          have HB3 := Lib.hid hB3
          have HB2' := Lib.hid hb2
          have HFQ := Lib.hid hFq
          obtain ⟨i0, hi0, hz0, hz1, hz2⟩ := info_parts infoArc
          have HI := Lib.hid (And.intro hi0 (And.intro hz0 (And.intro hz1 hz2)))
          clear hi0 hz0 hz1 hz2 hb2 hFq hB3 b0 b1
          go_upto_region 12 with (fail)
          have hrt : q.tmod 1125899906842624 = r := by rw [Int.tmod_eq_emod_of_nonneg hq0]; exact hr
          have hrw : IntKind.i64.wrap r = r := IntWalk.i64_in _ (by omega)
          have hrz : wrap64 r = r := by unfold wrap64; omega
          refine wr_begin [16] (fun W => Blk W (w.heap.size + 1 + 1) [.int .i64 n, .int .i64 s, .int .i64 t', v] 24 ∧ Blk W wr.heap.size [.int .i64 x, .int .i64 y, .int .i64 z] 53) (by kernel_rfl) (by exact ⟨HB2'.out.drew, HB3.out.drew⟩) ?_
          refine wr_pure 0 _ rfl (by kernel_rfl) (by kernel_rfl) (by kernel_rfl) (fun _ _ _ h => h) (by kernel_rfl) (by rfl) (fun _ => by go_simp; try with_reducible rfl) ?_
          try simp only [Act.put, List.setIfInBounds_toArray, List.set_cons_zero, List.set_cons_succ]
          refine wr_read 1 _ rfl (by kernel_rfl) (by kernel_rfl) (by kernel_rfl) (fun _ _ _ h => h) (by kernel_rfl) (by kernel_rfl) (by rfl) (fun _ hF => by have hF1 := hF.1.cell (o := 3) rfl; clear hF; go_simp; try with_reducible rfl) ?_
          try simp only [Act.put, List.setIfInBounds_toArray, List.set_cons_zero, List.set_cons_succ]
          refine wr_pure 2 _ rfl (by kernel_rfl) (by kernel_rfl) (by kernel_rfl) (fun _ _ _ h => h) (by kernel_rfl) (by rfl) (fun _ => by go_simp; try with_reducible rfl) ?_
          try simp only [Act.put, List.setIfInBounds_toArray, List.set_cons_zero, List.set_cons_succ]
          refine wr_read 3 _ rfl (by kernel_rfl) (by kernel_rfl) (by kernel_rfl) (fun _ _ _ h => h) (by kernel_rfl) (by kernel_rfl) (by rfl) (fun _ hF => by have hF1 := hF.2.cell (o := 0) rfl; clear hF; go_simp; try with_reducible rfl) ?_
          try simp only [Act.put, List.setIfInBounds_toArray, List.set_cons_zero, List.set_cons_succ]
          refine wr_pure 4 _ rfl (by kernel_rfl) (by kernel_rfl) (by kernel_rfl) (fun _ _ _ h => h) (by kernel_rfl) (by rfl) (fun _ => by go_simp; try with_reducible rfl) ?_
          try simp only [Act.put, List.setIfInBounds_toArray, List.set_cons_zero, List.set_cons_succ]
          refine wr_read 5 _ rfl (by kernel_rfl) (by kernel_rfl) (by kernel_rfl) (fun _ _ _ h => h) (by kernel_rfl) (by kernel_rfl) (by rfl) (fun _ hF => by have hF1 := hF.1.cell (o := 0) rfl; clear hF; go_simp; try with_reducible rfl) ?_
          try simp only [Act.put, List.setIfInBounds_toArray, List.set_cons_zero, List.set_cons_succ]
          refine wr_pure 7 _ rfl (by kernel_rfl) (by kernel_rfl) (by kernel_rfl) (fun _ _ _ h => h) (by kernel_rfl) (by rfl) (fun _ => by go_simp; try with_reducible rfl) ?_
          try simp only [Act.put, List.setIfInBounds_toArray, List.set_cons_zero, List.set_cons_succ]
          refine wr_read 8 _ rfl (by kernel_rfl) (by kernel_rfl) (by kernel_rfl) (fun _ _ _ h => h) (by kernel_rfl) (by kernel_rfl) (by rfl) (fun _ hF => by have hF1 := hF.2.cell (o := 1) rfl; clear hF; go_simp; try with_reducible rfl) ?_
          try simp only [Act.put, List.setIfInBounds_toArray, List.set_cons_zero, List.set_cons_succ]
          refine wr_pure 9 _ rfl (by kernel_rfl) (by kernel_rfl) (by kernel_rfl) (fun _ _ _ h => h) (by kernel_rfl) (by rfl) (fun _ => by go_simp; try with_reducible rfl) ?_
          try simp only [Act.put, List.setIfInBounds_toArray, List.set_cons_zero, List.set_cons_succ]
          refine wr_read 10 _ rfl (by kernel_rfl) (by kernel_rfl) (by kernel_rfl) (fun _ _ _ h => h) (by kernel_rfl) (by kernel_rfl) (by rfl) (fun _ hF => by have hF1 := hF.1.cell (o := 0) rfl; clear hF; go_simp; try with_reducible rfl) ?_
          try simp only [Act.put, List.setIfInBounds_toArray, List.set_cons_zero, List.set_cons_succ]
          refine wr_pure 12 _ rfl (by kernel_rfl) (by kernel_rfl) (by kernel_rfl) (fun _ _ _ h => h) (by kernel_rfl) (by rfl) (fun _ => by go_simp; try with_reducible rfl) ?_
          try simp only [Act.put, List.setIfInBounds_toArray, List.set_cons_zero, List.set_cons_succ]
          refine wr_pure 13 _ rfl (by kernel_rfl) (by kernel_rfl) (by kernel_rfl) (fun _ _ _ h => h) (by kernel_rfl) (by rfl) (fun _ => by go_simp; try with_reducible rfl) ?_
          try simp only [Act.put, List.setIfInBounds_toArray, List.set_cons_zero, List.set_cons_succ]
          refine wr_do 6 rfl (by kernel_rfl) (by rfl) (fun K hK => ?_)
          refine wp_call (f := 23) (args := #[.int .i64 x, .int .i64 n]) (by kernel_rfl) (HXX.out _) ?_
          rintro e w5 ⟨rfl, rfl⟩
          refine ⟨_, rfl, hK _ _ ⟨fun _ => ⟨HB2'.out.drew, HB3.out.drew⟩, ?_⟩⟩
          try simp only [Act.put, List.setIfInBounds_toArray, List.set_cons_zero, List.set_cons_succ]
          refine wr_do 11 rfl (by kernel_rfl) (by rfl) (fun K hK => ?_)
          refine wp_call (f := 23) (args := #[.int .i64 y, .int .i64 n]) (by kernel_rfl) (HYY.out _) ?_
          rintro e w5 ⟨rfl, rfl⟩
          refine ⟨_, rfl, hK _ _ ⟨fun _ => ⟨HB2'.out.drew, HB3.out.drew⟩, ?_⟩⟩
          try simp only [Act.put, List.setIfInBounds_toArray, List.set_cons_zero, List.set_cons_succ]
          refine wr_pure 14 _ rfl (by kernel_rfl) (by kernel_rfl) (by kernel_rfl) (fun _ _ _ h => h) (by kernel_rfl) (by rfl) (fun _ => by go_simp; try with_reducible rfl) ?_
          try simp only [Act.put, List.setIfInBounds_toArray, List.set_cons_zero, List.set_cons_succ]
          refine wr_do 15 rfl (by kernel_rfl) (by rfl) (fun K hK => ?_)
          refine wp_run (v := .slice (some ⟨wc.drew.heap.size, 0, none⟩) 1 1) (w' := wc.drew.alloc (.cells #[.int .i64 x', .int .i64 y', .int .i64 r] 53)) (by kernel_rfl) (hK _ _ ⟨fun _ => ⟨HB2'.out.drew.alloc _, HB3.out.drew.alloc _⟩, ?_⟩)
          try simp only [Act.put, List.setIfInBounds_toArray, List.set_cons_zero, List.set_cons_succ]
          refine wr_do 16 rfl (by kernel_rfl) (by rfl) (fun K hK => ?_)
          have hown3 : (wc.drew.alloc (.cells #[.int .i64 x', .int .i64 y', .int .i64 r] 53)).ownsRow wo.heap.size 53 3 v xs.length (cat arcCells xs) := ownsRow_fr HO2.out ((Fr.drew (Fr.refl [] wc)).alloc _) (by simp)
          refine wp_append_lies _ _ _ _ rfl wo.heap.size 53 i0 _ 3 24 Try.underlying22 HI.out.1 HI.out.2.1 HI.out.2.2.1 HI.out.2.2.2 rfl (by omega) v xs.length _ rfl hown3 ⟨wc.heap.size, 0, none⟩ 1 1 [.int .i64 x', .int .i64 y', .int .i64 r] rfl rfl (World.news_of_block (heap_alloc_new wc.drew _)) (by simp [Value.oneCell']) (by omega) (by have := HK.out; unfold maxLen; omega) (by have := HK.out; omega) (by have := HFQ.out.size; have := HFC.out.size; have := HZ.out; rw [World.size_alloc]; show _ ≤ wc.heap.size + 1; omega) (wc.heap.size + 1) (by simp) ?_
          intro gg cap w4 hown4 hgr4 hat4 hlt4
          have hgF : Fr v.ownBlock.toList (wc.drew.alloc (.cells #[.int .i64 x', .int .i64 y', .int .i64 r] 53)) w4 := Fr.of_grown hgr4 (by simp)
          have hvb := own_ge HO.out
          have hb4 : Blk w4 (w.heap.size + 1 + 1) [.int .i64 n, .int .i64 s, .int .i64 t', v] 24 := (HB2'.out.drew.alloc (.cells #[.int .i64 x', .int .i64 y', .int .i64 r] 53)).fr hgF (fun hm => by have := hvb _ (by simpa using hm); have := HZ.out; omega)
          have c4 := hb4.cell (o := 3) rfl
          have f4 := hb4.free 3
          have hgb : wo.heap.size ≤ gg := by
            rcases hat4 with h | h
            · exact hvb _ h
            · have := HFQ.out.size; have := HFC.out.size; have := HZ.out; omega
          have hG4 : Fr v.ownBlock.toList wr w4 := (((HFQ.out.drew).alloc (.cells #[.int .i64 x', .int .i64 y', .int .i64 r] 53)).more (by simp)).trans hgF
          have HO4 := Lib.hid hown4
          have HB4 := Lib.hid hb4
          have HG4 := Lib.hid hG4
          have HVB := Lib.hid hvb
          clear hown4 hb4 hG4 hgF hgr4 hat4 hown3 hvb
          refine hK _ _ ⟨Still.off 16 (by kernel_rfl) (by kernel_rfl), ?_⟩
          try simp only [Act.put, List.setIfInBounds_toArray, List.set_cons_zero, List.set_cons_succ]
          refine wr_pure 17 _ rfl (by kernel_rfl) (by kernel_rfl) (by kernel_rfl) (fun _ _ _ h => h) (by kernel_rfl) (by rfl) (fun _ => by go_simp; try with_reducible rfl) ?_
          try simp only [Act.put, List.setIfInBounds_toArray, List.set_cons_zero, List.set_cons_succ]
          refine wr_do 18 rfl (by kernel_rfl) (by rfl) (fun K hK => ?_)
          go_wp2_with fail
          refine ⟨Still.off 16 (by kernel_rfl) (by kernel_rfl), ?_⟩
          try simp only [Act.put, List.setIfInBounds_toArray, List.set_cons_zero, List.set_cons_succ]
          refine wr_done (by kernel_rfl) ?_ _
          go_wp2_with fail
          go_roundw
          case rel =>
            have hset : Fr [w.heap.size + 1 + 1] w4 (w4.setCell ⟨w.heap.size + 1 + 1, 3, none⟩ (.slice (some ⟨gg, 0, none⟩) (xs.length + 1) cap)) := (Fr.refl _ _).setCell (by simp) _
            refine ⟨k + 1, xs ++ [⟨x', y', r⟩], .slice (some ⟨gg, 0, none⟩) (xs.length + 1) cap, by go_num, by omega, by rw [List.length_append, HK.out]; rfl, ?_, HB4.out.set 3 _, ?_, ?_⟩
            · intro a ha
              rcases List.mem_append.1 ha with h | h
              · exact HOK.out a h
              · rw [List.mem_singleton] at h
                subst h
                exact ⟨hx2, hy2, hr0, hr1⟩
            · have := ownsRow_fr HO4.out hset (by have := HZ.out; simp [Value.ownBlock]; omega)
              rw [cat_app, List.length_append]
              simpa [cat, arcCells] using this
            · refine ((HFC.out.more (S' := (w.heap.size + 1 + 1) :: v.ownBlock.toList) (by simp)).trans ((HG4.out.more (fun x hx => List.mem_cons_of_mem _ hx)).trans (hset.more (by simp)))).less fun x hx hn => ?_
              rcases List.mem_cons.1 hx with h | h
              · exact absurd (by simp [h]) hn
              · exact HVB.out x (by simpa using h)
          case measure => simp [intOf]; omega
      · obtain ⟨c2, hc2, hve, hsl⟩ := Sl.of_own HO.out (by decide)
        obtain ⟨va, hva⟩ : ∃ va, va = v.ownBlock.map fun g => (⟨g, 0, none⟩ : Addr) := ⟨_, rfl⟩
        have HVA : Hid (∀ g off sp, va = some ⟨g, off, sp⟩ → wo.heap.size ≤ g) := Lib.hid (by
          intro g off sp h
          rw [hva] at h
          obtain ⟨g', h1, h2⟩ := Option.map_eq_some_iff.1 h
          simp only [Addr.mk.injEq] at h2
          rw [← h2.1]
          exact own_ge HO.out g' h1)
        rw [← hva] at hve hsl
        clear hva
        subst hve
        have HSL := Lib.hid hsl
        have hkm' : k = m := by omega
        have hlt : w.heap.size + 1 < wr.heap.size := b1.lt
        clear hsl b0
        go_wp2_with (first | (refine wl_load rfl rfl rfl _ HB.out Try.underlying24 rfl (by kernel_rfl) ?_) | (refine wl_store rfl rfl [.int .i64 n, .int .i64 s, .int .i64 t', .slice va xs.length c2] rfl rfl b1 (by kernel_rfl) rfl rfl ?_))
        refine ret_c rfl rfl (b1.row [.int .i64 n, .int .i64 s, .int .i64 t', .slice va xs.length c2]) Try.underlying24 rfl (by kernel_rfl) rfl ?_
        have hset : Fr [w.heap.size + 1] wr (wr.setRow (w.heap.size + 1) (#[.int .i64 n, .int .i64 s, .int .i64 t', .slice va xs.length c2] : Array Value)) := (Fr.refl _ _).setRow (.inl (by simp)) _
        refine ⟨⟨n, s, t', xs⟩, va, c2, rfl, ⟨?_, hn3, hs2, ht', hst', by have := HK.out; show xs.length ≤ 40; omega, HOK.out⟩, ⟨?_, hc2⟩, ((HFW.out.more (by simp)).trans hset).less (by simp)⟩
        · show 2 ≤ n
          omega
        · refine Sl.fr HSL.out hset (fun g off sp h hm => ?_)
          have := HVA.out g off sp h
          have := HZ.out
          simp at hm
          omega
end Acq
