/- acequialow.Within, acequiaref02.Res, acequialaw05.Left, acequialow.Ints. -/
import Derived.Test.YtgffejcjacaihaaMake
set_option linter.unusedSimpArgs false
set_option linter.unnecessarySimpa false
set_option linter.unusedVariables false
namespace Acq
open Go Go.RowKit Go.Proofs

theorem infoLngC : (Try.prog.info? 2).map (fun i => (i.zero.map Value.cells, i.size, i.bytes)) = some (some #[.int .i64 0], 1, 8) := by kernel_rfl
theorem infoIntC : (Try.prog.info? 3).map (fun i => (i.zero.map Value.cells, i.size, i.bytes)) = some (some #[.int .i64 0], 1, 8) := by kernel_rfl

/-- A flow within the capacities. -/
def FlowOk (xs : List A3) (f : List Int) : Prop := f.length = xs.length ∧ ∀ (i : Nat) a, xs[i]? = some a → ∃ x, f[i]? = some x ∧ 0 ≤ x ∧ x ≤ a.cap

def capAt (xs : List A3) (k : Nat) : Int := (xs[k]?.map (·.cap)).getD 0
def resOf (xs : List A3) (E : List Ent) (f : List Int) : List Int := E.map fun e => if e.back then f.getD e.arc 0 else capAt xs e.arc - f.getD e.arc 0

theorem FlowOk.zero {xs : List A3} (h : ∀ a ∈ xs, 0 ≤ a.cap) : FlowOk xs (List.replicate xs.length 0) :=
  ⟨by simp, fun i a ha => ⟨0, by rw [List.getElem?_replicate, if_pos (List.getElem?_eq_some_iff.1 ha).1], Int.le_refl _, h a (List.mem_of_getElem? ha)⟩⟩

theorem FlowOk.set {xs : List A3} {f : List Int} (h : FlowOk xs f) {i : Nat} {a : A3} (ha : xs[i]? = some a) {x : Int} (h0 : 0 ≤ x) (h1 : x ≤ a.cap) : FlowOk xs (f.set i x) := by
  refine ⟨by rw [List.length_set]; exact h.1, fun j b hb => ?_⟩
  rw [List.getElem?_set]
  by_cases hij : i = j
  · subst hij
    rw [ha] at hb
    obtain rfl := Option.some.inj hb
    exact ⟨x, by rw [if_pos rfl, if_pos (by rw [h.1]; exact (List.getElem?_eq_some_iff.1 ha).1)], h0, h1⟩
  · rw [if_neg hij]
    exact h.2 j b hb

def Withins (xs : List A3) (l : List Int) (w : World) (e : Ending) (w' : World) : Prop := ∃ g f, e = .returned (.slice (some ⟨g, 0, none⟩) xs.length xs.length) ∧ FlowOk xs f ∧ (l = [] → f = List.replicate xs.length 0) ∧ SlI w' (some ⟨g, 0, none⟩) f ∧ Fr [] w w'

theorem SlI.of_blk {w : World} {g : Nat} {f : List Int} {T : TypeId} (h : Blk w g (ints f) T) : SlI w (some ⟨g, 0, none⟩) f :=
  ⟨by rw [ints_len]; omega, fun _ => ⟨g, 0, rfl, h.range 0 _ (fun j v hv => by rw [Nat.zero_add]; exact hv)⟩⟩

set_option maxRecDepth 100000 in
set_option maxHeartbeats 2000000 in
theorem within_core (N S T : Nat) (A B : Option Addr) (c d : Nat) (xs : List A3) (l : List Int) (w : World) (hA : ArcsV w A xs) (hn : xs.length ≤ 40) (hx : ∀ a ∈ xs, a.fr < N ∧ a.to < N ∧ 0 ≤ a.cap ∧ a.cap < 1125899906842624)
    (hB : SlI w B l) (hl : ∀ x ∈ l, -9223372036854775808 ≤ x ∧ x ≤ 9223372036854775807) (hlm : l.length ≤ 9223372036854775807) :
    Calls Try.prog 22 #[.agg #[.int .i64 N, .int .i64 S, .int .i64 T, .slice A xs.length c], .slice B l.length d] w (Withins xs l w) := by
  have HA := Lib.hid hA
  have HBL := Lib.hid hB
  have HX := Lib.hid hx
  have HLL := Lib.hid hl
  have HB := Lib.hid (Blk.new w [.int .i64 N, .int .i64 S, .int .i64 T, .slice A xs.length c] 24)
  have hmk := run_mk (P := Try.prog) Try.underlying25 infoLngC (by omega) xs.length (by omega) (w.alloc (.cells #[.int .i64 N, .int .i64 S, .int .i64 T, .slice A xs.length c] 24))
  clear hA hB hx hl
  go_enter Try.func22, Try.ntmps22
  go_upto_region 2 with (fail)
  obtain ⟨nb, hnb⟩ : ∃ b, b = w.heap.size := ⟨_, rfl⟩
  obtain ⟨g, hg⟩ : ∃ b, b = w.heap.size + 1 := ⟨_, rfl⟩
  obtain ⟨w1, hw1⟩ : ∃ W, W = (w.alloc (.cells #[.int .i64 N, .int .i64 S, .int .i64 T, .slice A xs.length c] 24)).alloc (.cells (Array.replicate xs.length (Value.int .i64 0)) 2) := ⟨_, rfl⟩
  rw [← hw1, ← hg, ← hnb]
  have HB1 : Hid (Blk w1 nb [.int .i64 N, .int .i64 S, .int .i64 T, .slice A xs.length c] 24) := Lib.hid (by rw [hw1, hnb]; exact HB.out.alloc _)
  have HG1 : Hid (Blk w1 g (ints (List.replicate xs.length 0)) 2) := Lib.hid (by rw [hw1, hg, ints, List.map_replicate]; exact Blk.new_rep _ _ _ (by simp))
  have HF1 : Hid (Fr [] w w1) := Lib.hid (by rw [hw1]; exact ((Fr.refl _ _).alloc _).alloc _)
  have c3 := HB1.out.cell (o := 3) rfl
  have HGB : Hid (g = w.heap.size + 1) := Lib.hid hg
  clear hmk hw1 hg hnb HB
  go_wp2_with fail
  go_loopw [6, 7, 8, 16] (fun _ _ _ i wr => ∃ (k : Nat) (f : List Int), i = .int .i64 k ∧ k ≤ xs.length ∧ FlowOk xs f ∧ (l = [] → f = List.replicate xs.length 0) ∧ Blk wr g (ints f) 2 ∧ Fr [] w wr) (fun _ _ _ i _ => xs.length - (intOf i).toNat)
  case atStart => exact ⟨0, _, rfl, Nat.zero_le _, FlowOk.zero (fun a ha => (HX.out a ha).2.2.1), fun _ => rfl, HG1.out, HF1.out⟩
  case round =>
    obtain ⟨k, f, rfl, hk, hf, hfl, hG, hF⟩ := hrel
    have HFO := Lib.hid hf
    have HFL := Lib.hid hfl
    have HG := Lib.hid hG
    have HF := Lib.hid hF
    clear hf hfl hG hF HG1
    by_cases hkn : k < xs.length
    · obtain ⟨a, ha⟩ : ∃ a, xs[k]? = some a := ⟨_, List.getElem?_eq_getElem (by omega)⟩
      obtain ⟨ga, off, rfl, hr⟩ := Sl.el arcCells_len HA.out ha
      obtain ⟨_, _, hx2, hx3⟩ := HX.out a (List.mem_of_getElem? ha)
      have HEL := Lib.hid ha
      obtain ⟨x, y, z⟩ := a
      simp only at hx2 hx3
      have HR : Hid (wr.rangeAt ga (off + k * 3) [.int .i64 x, .int .i64 y, .int .i64 z]) := Lib.hid (rangeAt_fr hr HF.out (by simp))
      clear ha hr
      by_cases hkl : k < l.length
      · have t1 : decide (l.length ≤ k) = false := by simp; omega
        obtain ⟨u, hu⟩ : ∃ u, l[k]? = some u := ⟨_, List.getElem?_eq_getElem (by omega)⟩
        obtain ⟨gl, ol, rfl, hc⟩ := (HBL.out.fr0 HF.out).at hu
        obtain ⟨hu1, hu2⟩ := HLL.out u (List.mem_of_getElem? hu)
        have HCL := Lib.hid hc
        clear hu hc
        by_cases hxy : x = y
        · subst hxy
          have q1 : (((x : Int) : Int) == ((x : Int) : Int)) = true := by simp
          have q2 : (((x : Int) : Int) != ((x : Int) : Int)) = false := by simp
          have q3 : ((x : Int) == (x : Int)) = true := by simp
          have q4 : ((x : Int) != (x : Int)) = false := by simp
          go_wp2_with (refine wpList_load_mid rfl _ _ rfl ga (off + k * 3) rfl _ _ HR.out Try.underlying53 rfl (by kernel_rfl) ?_)
          go_roundw
          case rel => exact ⟨k + 1, f, by go_num, by omega, HFO.out, HFL.out, HG.out.alloc _, HF.out.alloc _⟩
          case measure => simp [intOf]; omega
        · have q1 : ((x : Int) == (y : Int)) = false := by simp; omega
          have q2 : ((x : Int) != (y : Int)) = true := by simp; omega
          have q3 : (x == y) = false := by simp; omega
          have q4 : (x != y) = true := by simp; omega
          have hcl2 : (wr.alloc (.cells #[.int .i64 x, .int .i64 y, .int .i64 z] 53)).cell? ⟨gl, ol + k, none⟩ = some (.int .i64 u) := ((Fr.refl [] wr).alloc _).cell HCL.out (by simp)
          go_upto_if 37 with (refine wpList_load_mid rfl _ _ rfl ga (off + k * 3) rfl _ _ HR.out Try.underlying53 rfl (by kernel_rfl) ?_)
          go_cut [8] (fun s8 wx => ∃ q : Int, s8 = .int .i64 q ∧ 0 ≤ q ∧ q ≤ 9223372036854775807 ∧ Blk wx wr.heap.size [.int .i64 x, .int .i64 y, .int .i64 z] 53 ∧ Fr [] wr wx)
          case first =>
            by_cases hu0 : u < 0
            all_goals
              go_wp2_with fail
              go_meet
              exact ⟨_, rfl, by omega, by omega, Blk.new _ _ _, (Fr.refl _ _).alloc _⟩
          case rest =>
            obtain ⟨q, rfl, hq0, hq1, hBa, hFq⟩ := hcut
            obtain ⟨r, hr, hr0, hr1⟩ : ∃ r : Int, q % (z + 1) = r ∧ 0 ≤ r ∧ r ≤ z := ⟨_, rfl, Int.emod_nonneg _ (by omega), by have := Int.emod_lt_of_pos q (by omega : 0 < z + 1); omega⟩
            have hrt : q.tmod (z + 1) = r := by rw [Int.tmod_eq_emod_of_nonneg hq0]; exact hr
            have t2 : ¬ z < r := by omega
            have a2 := hBa.cell (o := 2) rfl
            have hg2 := HG.out.fr hFq (by simp)
            have hkf : (ints f)[k]? = some (.int .i64 (f.getD k 0)) := ints_get (by
              obtain ⟨v, hv, _⟩ := HFO.out.2 k _ HEL.out
              rw [List.getD_eq_getElem?_getD, hv]; rfl)
            have g1 := hg2.cell hkf
            have g2 := hg2.free k
            have HG2 := Lib.hid hg2
            have HFQ := Lib.hid (HF.out.trans hFq)
            clear hBa hFq hg2 hkf q1 q2 q3 q4
            go_wp2_with fail
            go_roundw
            case rel =>
              refine ⟨k + 1, f.set k r, by go_num, by omega, HFO.out.set HEL.out hr0 hr1, fun h => ?_, ?_, ?_⟩
              · rw [h] at hkl; simp at hkl
              · have := HG2.out.set k (.int .i64 r)
                rw [ints, List.map_set]
                exact this
              · exact ((HFQ.out.more (S' := [g]) (by simp)).trans ((Fr.refl [g] _).setCell (by simp) _)).less (by simp; have := HGB.out; omega)
            case measure => simp [intOf]; omega
      · have t1 : decide (l.length ≤ k) = true := by simp; omega
        go_wp2_with (refine wpList_load_mid rfl _ _ rfl ga (off + k * 3) rfl _ _ HR.out Try.underlying53 rfl (by kernel_rfl) ?_)
        go_roundw
        case rel => exact ⟨k + 1, f, by go_num, by omega, HFO.out, HFL.out, HG.out.alloc _, HF.out.alloc _⟩
        case measure => simp [intOf]; omega
    · go_wp2_with fail
      go_ret
      exact ⟨g, f, rfl, HFO.out, HFL.out, SlI.of_blk HG.out, HF.out⟩
end Acq
