/- The contracts of the references' bank (acequiaref10.Bank: Is, Load, Put), of the law's Same, and of Bank.All. -/
import Derived.Test.YthgjkdgdmpffmaaCells
import Derived.Test.YthgjkdgdmpffmaaMem2
import Derived.Maps.AppendAt
import Derived.OwnWalk
import Derived.Deep.QuietTactic
import Derived.BigQuiet
import Derived.Deep.DeepMust
import Derived.Deep.CutBlock
import Derived.Lib.Hide
import Derived.Outline
set_option linter.unusedSimpArgs false
set_option linter.unusedVariables false
namespace Acq
open Go Go.RowKit Go.Proofs

/-- Block `g` begins with these numbers. -/
def Row64 (w : World) (g : Nat) (xs : List Int) : Prop := ∃ cur T, w.heap[g]? = some (.cells cur T (0, 0)) ∧ cur.toList.take xs.length = xs.map (Value.int .i64)

section
variable {w w' : World} {g : Nat} {xs : List Int}

theorem Row64.lt (h : Row64 w g xs) : g < w.heap.size := by obtain ⟨_, _, h, _⟩ := h; exact lt_of_block h

theorem Row64.cell (h : Row64 w g xs) {i : Nat} {x : Int} (hx : xs[i]? = some x) : w.cell? ⟨g, i, none⟩ = some (.int .i64 x) := by
  obtain ⟨cur, T, h, ht⟩ := h
  have hi := (List.getElem?_eq_some_iff.1 hx).1
  have h1 : (cur.toList.take xs.length)[i]? = some (.int .i64 x) := by rw [ht, List.getElem?_map, hx]; rfl
  rw [List.getElem?_take_of_lt hi] at h1
  simpa [World.cell?, h] using h1

theorem Row64.free (h : Row64 w g xs) (i : Nat) : w.frozen? ⟨g, i, none⟩ = false := by
  obtain ⟨cur, T, h, ht⟩ := h; simp [World.frozen?, h]

theorem Row64.fr {S : List Nat} (h : Row64 w g xs) (k : Fr S w w') (hg : g ∉ S) : Row64 w' g xs := by
  obtain ⟨cur, T, h, ht⟩ := h
  exact ⟨cur, T, by rw [k.block g (lt_of_block h) hg]; exact h, ht⟩

theorem Row64.set (h : Row64 w g xs) (i : Nat) (y : Int) : Row64 (w.setCell ⟨g, i, none⟩ (.int .i64 y)) g (xs.set i y) := by
  obtain ⟨cur, T, h, ht⟩ := h
  refine ⟨cur.setIfInBounds i (.int .i64 y), T, heap_setCell_same w g i cur _ _ h, ?_⟩
  rw [Array.toList_setIfInBounds, List.length_set, List.take_set, ht, List.map_set]

theorem Row64.of_own {base : Nat} {e : TypeId} {v : Value} {n : Nat} (h : w.ownsRow base e 1 v n (xs.map (Value.int .i64))) (hn : 0 < n) : ∃ g c, v = .slice (some ⟨g, 0, none⟩) n c ∧ n ≤ c ∧ base ≤ g ∧ Row64 w g xs := by
  have hl : xs.length = n := by have := h.1; simpa using this
  rcases h.2 with ⟨_, h0⟩ | ⟨q, cap, cur, rfl, hb, hg, hc, _, _, ht⟩
  · omega
  · exact ⟨q, cap, rfl, hc, hb, cur, e, hg, by rw [hl]; simpa using ht⟩

theorem Row64.of_blk {T : TypeId} (h : Blk w g (xs.map (Value.int .i64)) T) : Row64 w g xs := ⟨_, T, h, List.take_of_length_le (by simp)⟩

end

theorem own_none (w : World) (e : TypeId) : (w.alloc (.cells #[] e)).ownsRow w.heap.size e 1 (.slice (some ⟨w.heap.size, 0, none⟩) 0 0) 0 [] :=
  ⟨rfl, .inr ⟨w.heap.size, 0, #[], rfl, Nat.le_refl _, heap_alloc_new _ _, Nat.le_refl _, by simp [maxLen], rfl, rfl⟩⟩

theorem infoLong : (Try.prog.info? 2).map (fun i => (i.zero, i.size, i.bytes)) = some (some (.int .i64 0), 1, 8) := by kernel_rfl

section
variable {w : World} {g : Nat} {xs : List Int} {c : Nat}

theorem is10 (hR : Row64 w g xs) (i : Int) (h0 : 0 ≤ i) (h1 : i.toNat < xs.length) :
    Calls Try.prog 35 #[.slice (some ⟨g, 0, none⟩) xs.length c, .int .i64 i] w fun e w' => e = .returned (.bool true) ∧ w = w' := by
  have h2 : i < (xs.length : Int) := by omega
  go_enter Try.func35, Try.ntmps35
  go_wp2
  go_ret
  exact ⟨rfl, rfl⟩

theorem load10 (hR : Row64 w g xs) (i x : Int) (h0 : 0 ≤ i) (hx : xs[i.toNat]? = some x) :
    Calls Try.prog 24 #[.slice (some ⟨g, 0, none⟩) xs.length c, .int .i64 i] w fun e w' => e = .returned (.int .i64 x) ∧ w = w' := by
  have h1 := (List.getElem?_eq_some_iff.1 hx).1
  have h2 : i < (xs.length : Int) := by omega
  have hc := hR.cell hx
  have HR := Lib.hid hR
  clear hR hx
  go_enter Try.func24, Try.ntmps24
  go_wp2_with fail
  refine (is10 HR.out i h0 h1).mono ?_
  rintro e w' ⟨rfl, rfl⟩
  go_wp2_with fail
  go_ret
  exact ⟨rfl, rfl⟩

theorem put10 (hR : Row64 w g xs) (i y : Int) (h0 : 0 ≤ i) (h1 : i.toNat < xs.length) (hn : xs.length ≤ 524288) :
    Calls Try.prog 23 #[.slice (some ⟨g, 0, none⟩) xs.length c, .int .i64 i, .int .i64 y] w fun e w' => ∃ g' c', e = .returned (.slice (some ⟨g', 0, none⟩) xs.length c') ∧ Row64 w' g' (xs.set i.toNat y) ∧ w.heap.size ≤ g' ∧ Fr [] w w' := by
  have h2 : i < (xs.length : Int) := by omega
  obtain ⟨i0, hi0, hz0, hz1, hz2⟩ := info_parts infoLong
  have HI := Lib.hid (And.intro hi0 (And.intro hz0 (And.intro hz1 hz2)))
  have hF0 : Fr [] w (w.alloc (.cells #[] 2)) := (Fr.refl _ _).alloc _
  have HNW : Hid (∀ (j : Nat) u, (xs.map (Value.int .i64))[j]? = some u → (w.alloc (.cells #[] 2)).cell? (Addr.add ⟨g, 0, none⟩ j) = some u) := Lib.hid (by
    intro j u hu
    rw [List.getElem?_map] at hu
    obtain ⟨x, hx, rfl⟩ := Option.map_eq_some_iff.1 hu
    rw [Addr.add_mid, Nat.zero_add]
    exact (hR.fr hF0 (by simp)).cell hx)
  have H1C : Hid (∀ u ∈ xs.map (Value.int .i64), u.oneCell' = true) := Lib.hid (by
    intro u hu
    obtain ⟨i, _, rfl⟩ := List.mem_map.1 hu
    rfl)
  have HLD : Hid ((xs.map (Value.int .i64)).length = xs.length) := Lib.hid (by simp)
  generalize hD : xs.map (Value.int .i64) = D at HNW H1C HLD
  have HD := Lib.hid hD
  have HR := Lib.hid hR
  clear hi0 hz0 hz1 hz2 hD hR hF0
  go_enter Try.func23, Try.ntmps23
  go_upto_region 1 with (fail)
  refine wp_region_list (wl_empty (e := 2) rfl rfl (by kernel_rfl) ?_)
  go_wp2_with (first
    | (at_builtin
       go_must (refine wpList_append_own_at _ rfl _ _ 41 rfl w.heap.size 2 i0 (.int .i64 0) 1 8 Try.underlying41 HI.out.1 HI.out.2.1 HI.out.2.2.1 HI.out.2.2.2 rfl (by decide) (.slice (some ⟨w.heap.size, 0, none⟩) 0 0) 0 [] rfl (own_none w _) ⟨g, 0, none⟩ xs.length _ D rfl (by rw [HLD.out]; omega) HNW.out H1C.out (by unfold maxLen; omega) (by omega) (by rw [World.size_alloc]; omega) ?_))
    | go_in)
  intro v2 w2 hown hgrow hnn hat
  have hF2 : Fr [] w w2 := (((Fr.refl [w.heap.size] w).alloc (.cells #[] 2)).trans (Fr.of_grown hgrow (by simp [Value.ownBlock]))).less (by simp)
  try rw [Nat.zero_add] at hown
  try rw [List.nil_append] at hown
  rw [← HD.out] at hown
  obtain ⟨q, cq, rfl, hq, hq0, hRq⟩ := Row64.of_own hown (by omega)
  obtain ⟨old, hold⟩ : ∃ old, xs[i.toNat]? = some old := ⟨_, List.getElem?_eq_getElem h1⟩
  have hx := hRq.cell hold
  clear hold
  have hfz := hRq.free i.toNat
  have hR3 := hRq.set i.toNat y
  have hF3 : Fr [q] w2 (w2.setCell ⟨q, i.toNat, none⟩ (.int .i64 y)) := (Fr.refl _ _).setCell (by simp) _
  have HR3 := Lib.hid hR3
  have HF3 := Lib.hid ((hF2.more (S' := [q]) (by simp)).trans hF3)
  clear hown hgrow hnn hat hF2 hRq hR3 hF3
  go_wp2_with fail
  go_ret
  exact ⟨q, cq, rfl, HR3.out, hq0, HF3.out.less (by simp; omega)⟩


/-- Two lists that are the same. -/
theorem same_true {h : Nat} {d : Nat} (hX : Row64 w g xs) (hY : Row64 w h xs) (hn : xs.length ≤ 524288) :
    Calls Try.prog 16 #[.slice (some ⟨g, 0, none⟩) xs.length c, .slice (some ⟨h, 0, none⟩) xs.length d] w fun e w' => e = .returned (.bool true) ∧ Fr [] w w' := by
  have HX := Lib.hid hX
  have HY := Lib.hid hY
  clear hX hY
  generalize hN : xs.length = N at *
  have HN := Lib.hid hN
  clear hN
  go_enter Try.func16, Try.ntmps16
  go_wp2_with fail
  go_loopw [5, 13] (fun _ i wr => ∃ i' : Nat, i' ≤ N ∧ i = .int .i64 i' ∧ Fr [] w wr) (fun _ i _ => N - (intOf i).toNat)
  case atStart => exact ⟨0, Nat.zero_le _, rfl, Fr.refl _ _⟩
  case round =>
    obtain ⟨i, hi, rfl, hF⟩ := hrel
    by_cases hin : i < N
    · obtain ⟨x, hx⟩ : ∃ x, xs[i]? = some x := ⟨_, List.getElem?_eq_getElem (by have := HN.out; omega)⟩
      have c1 := (HX.out.fr hF (by simp)).cell hx
      have c2 := (HY.out.fr hF (by simp)).cell hx
      have hi0 : 0 ≤ (i : Int) := by omega
      have hi1 : (i : Int) < (N : Int) := by omega
      have HF := Lib.hid hF
      clear hx hF
      go_wp2_with fail
      go_quiet (fail)
      go_wp2_with fail
      go_roundw
      case rel => exact ⟨i + 1, by omega, by go_num, HF.out.drewN _⟩
      case measure => simp [intOf]; omega
    · have HF := Lib.hid hF
      clear hF
      go_wp2_with fail
      go_ret
      exact ⟨rfl, HF.out⟩

end
end Acq
