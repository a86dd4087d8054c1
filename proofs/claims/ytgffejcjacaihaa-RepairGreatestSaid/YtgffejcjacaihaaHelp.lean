/- acequialow.Ints, slices.Clone, acequialaw06.Heights. -/
import Derived.Test.YtgffejcjacaihaaRefRight
set_option linter.unusedSimpArgs false
set_option linter.unnecessarySimpa false
set_option linter.unusedVariables false
namespace Acq
open Go Go.RowKit Go.Proofs

theorem ints_eq (A B : Option Addr) (c d : Nat) (xs ys : List Int) (w : World) (hA : SlI w A xs) (hB : SlI w B ys) (hx : xs.length ≤ 9223372036854775807) (hy : ys.length ≤ 9223372036854775807) :
    Calls Try.prog 10 #[.slice A xs.length c, .slice B ys.length d] w fun e w' => e = .returned (.bool (decide (xs = ys))) ∧ Fr [] w w' := by
  have HA := Lib.hid hA
  have HB := Lib.hid hB
  clear hA hB
  by_cases hlen : xs.length = ys.length
  · generalize hn : ys.length = n at *
    subst hlen
    have HN := Lib.hid hn
    clear hn hy
    have q1 : (((xs.length : Int) : Int) == ((xs.length : Int) : Int)) = true := by simp
    have q2 : (((xs.length : Int) : Int) != ((xs.length : Int) : Int)) = false := by simp
    have q3 : ((xs.length : Int) == (xs.length : Int)) = true := by simp
    have q4 : ((xs.length : Int) != (xs.length : Int)) = false := by simp
    have HQ := Lib.hid (And.intro q1 (And.intro q2 (And.intro q3 q4)))
    go_enter Try.func10, Try.ntmps10
    go_upto_region 3 with (fail)
    clear q1 q2 q3 q4
    go_wp2_with fail
    go_loopw [5, 13] (fun _ i wr => ∃ k : Nat, i = .int .i64 k ∧ k ≤ xs.length ∧ xs.take k = ys.take k ∧ Fr [] w wr) (fun _ i _ => xs.length - (intOf i).toNat)
    case atStart => exact ⟨0, rfl, Nat.zero_le _, by simp, Fr.refl _ _⟩
    case round =>
      obtain ⟨k, rfl, hk, htk, hF⟩ := hrel
      have HT := Lib.hid htk
      have HF := Lib.hid hF
      clear htk hF
      by_cases hkn : k < xs.length
      · obtain ⟨x, hx1⟩ : ∃ x, xs[k]? = some x := ⟨_, List.getElem?_eq_getElem hkn⟩
        obtain ⟨y, hy1⟩ : ∃ y, ys[k]? = some y := ⟨_, List.getElem?_eq_getElem (by have := HN.out; omega)⟩
        obtain ⟨g, off, rfl, x1⟩ := (HA.out.fr0 HF.out).at hx1
        obtain ⟨g2, off2, rfl, x2⟩ := (HB.out.fr0 HF.out).at hy1
        have HX := Lib.hid hx1
        have HY := Lib.hid hy1
        have k0 : (0 : Int) ≤ (k : Int) := by omega
        have k1 : (k : Int) < (xs.length : Int) := by omega
        clear hx1 hy1
        by_cases hxy : x = y
        · subst hxy
          have r1 : (x == x) = true := by simp
          have r2 : (x != x) = false := by simp
          go_wp2_with fail
          go_quiet (fail)
          go_wp2_with fail
          go_roundw
          case rel =>
            refine ⟨k + 1, by go_num, by omega, ?_, HF.out.drewN _⟩
            rw [List.take_add_one, List.take_add_one, HX.out, HY.out, HT.out]
          case measure => simp [intOf]; omega
        · have r1 : (x == y) = false := beq_eq_false_iff_ne.2 hxy
          have r2 : (x != y) = true := by simp [hxy]
          go_wp2_with fail
          go_quiet (fail)
          go_wp2_with fail
          go_ret
          refine ⟨?_, HF.out.drewN _⟩
          rw [decide_eq_false (p := xs = ys) (fun h => hxy ?_)]
          · rfl
          subst h
          exact Option.some.inj (HX.out.symm.trans HY.out)
      · go_wp2_with fail
        go_ret
        refine ⟨?_, HF.out⟩
        have := HT.out
        rw [List.take_of_length_le (by omega), List.take_of_length_le (by have := HN.out; omega)] at this
        rw [decide_eq_true this]
        rfl
  · have q1 : ((xs.length : Int) == (ys.length : Int)) = false := by simp; omega
    have q2 : ((xs.length : Int) != (ys.length : Int)) = true := by simp; omega
    have q3 : (xs.length == ys.length) = false := by simp; omega
    have q4 : (xs.length != ys.length) = true := by simp; omega
    go_enter Try.func10, Try.ntmps10
    go_wp2_with fail
    go_ret
    refine ⟨?_, Fr.refl _ _⟩
    rw [decide_eq_false (p := xs = ys) (fun h => hlen (by rw [h]))]
    rfl

theorem own_none (w : World) (e : TypeId) : (w.alloc (.cells #[] e)).ownsRow w.heap.size e 1 (.slice (some ⟨w.heap.size, 0, none⟩) 0 0) 0 [] :=
  ⟨rfl, .inr ⟨w.heap.size, 0, #[], rfl, Nat.le_refl _, heap_alloc_new _ _, Nat.le_refl _, by simp [maxLen], rfl, rfl⟩⟩

/-- slices.Clone of a row that is not empty. -/
theorem clone_any (A : Option Addr) (c : Nat) (xs : List Int) (w : World) (hA : SlI w A xs) (hn : 0 < xs.length) (hm : xs.length ≤ 100000) :
    Calls Try.prog 26 #[.slice A xs.length c] w fun e w' => ∃ g d, e = .returned (.slice (some ⟨g, 0, none⟩) xs.length d) ∧ w'.ownsRow w.heap.size 3 1 (.slice (some ⟨g, 0, none⟩) xs.length d) xs.length (ints xs) ∧ Fr [] w w' := by
  obtain ⟨ii, hi0, hi1, hi2, hi3⟩ := info_parts infoInt
  have HII := Lib.hid (And.intro hi0 (And.intro hi1 (And.intro hi2 hi3)))
  obtain ⟨g0, off, rfl, hc⟩ := hA.2 hn
  have HNW : Hid (∀ (j : Nat) u, (ints xs)[j]? = some u → (w.alloc (.cells #[] 3)).cell? (Addr.add ⟨g0, off, none⟩ j) = some u) := Lib.hid (by
    intro j u hu
    rw [Addr.add_mid]
    exact ((Fr.refl [] w).alloc _).cell (hc j u hu) (by simp))
  have H1C : Hid (∀ u ∈ ints xs, u.oneCell' = true) := Lib.hid (by
    intro u hu
    obtain ⟨i, _, rfl⟩ := List.mem_map.1 hu
    rfl)
  have HLD : Hid ((ints xs).length = xs.length * 1) := Lib.hid (by rw [ints_len]; omega)
  clear hi0 hi1 hi2 hi3 hc hA
  have henil := fun w => Lib.run_eql_slice_nil (P := Try.prog) w 26 3 (some ⟨g0, off, none⟩) xs.length c 0 0 Try.underlying26
  go_enter Try.func26, Try.ntmps26
  go_upto_region 3 with (fail)
  refine wp_region_list (wl_empty (e := 3) rfl rfl (by kernel_rfl) ?_)
  clear henil
  go_wp2_with (at_builtin; refine wpList_append_lies _ rfl _ _ 26 rfl w.heap.size 3 ii _ 1 8 Try.underlying26 HII.out.1 HII.out.2.1 HII.out.2.2.1 HII.out.2.2.2 rfl (by decide) (.slice (some ⟨w.heap.size, 0, none⟩) 0 0) 0 [] rfl (own_none w _) ⟨g0, off, none⟩ xs.length _ (ints xs) rfl HLD.out HNW.out H1C.out hn (by unfold maxLen; omega) (by omega) (by rw [World.size_alloc]; omega) (w.heap.size + 1) (by simp) ?_; intro gg cap_ w4 hown4 hgr4 hat4 hlt4; have HO4 := Lib.hid hown4; have HG4 := Lib.hid hgr4; clear hown4 hgr4 hat4 hlt4)
  go_ret
  refine ⟨gg, cap_, ?_, ?_, ?_⟩
  · simp
  · simpa using HO4.out
  · exact (((Fr.refl [] w).alloc _).more (S' := [w.heap.size]) (by simp)).trans (Fr.of_grown HG4.out (by simp [Value.ownBlock])) |>.less (by simp)
end Acq
