/- What a row hands over: a net; how long a slice may be. -/
import Derived.Test.YtgffejcjacaihaaSome
import Derived.Lib.SmallJoins
import Derived.SizedLaws
import Derived.ChangeSlices
set_option linter.unnecessarySimpa false
set_option linter.unusedVariables false
namespace Acq
open Go Go.RowKit Go.Proofs Go.ChangeShapes Go.WideShapes Go.Joins Go.Deep

section
variable {H : Type} {enc : TypeId × Value → H} {w : World} {base : Nat} {spare : Nat → Bool} {held : Bool}

theorem in64_of {n : Int} (h : (Lit.int .i64 n).wf = true) : In64 n := by
  have h5 : IntKind.i64.min = -9223372036854775808 := by decide
  simpa [Lit.wf, h5, In64] using h

theorem trod_one {t : TypeId} {fuel : Nat} {v : Value} {x : DataW H × List MemPlace} {k : IntKind} (ht : Try.prog.underlying t = some (.int k)) (h : DataW.trod enc Try.prog w base spare held fuel t [v] = some x) : ∃ n, v = .int k n ∧ (Lit.int k n).wf = true := by
  obtain ⟨n, h1, _, h2⟩ := DataW.trod_int ht h
  simp only [List.cons.injEq, and_true] at h1
  exact ⟨n, h1, h2⟩

/-- A slice of three numbers each. -/
theorem open_arcs {fuel : Nat} {v : Value} {x : DataW H × List MemPlace} (h : DataW.trod enc Try.prog w base spare held fuel 22 [v] = some x) :
    ∃ A n c l3, v = .slice A n c ∧ n = (l3 : List R3).length ∧ n ≤ c ∧ c ≤ maxLen ∧ Sl w A l3.length 3 (cat rawCells l3) ∧ ∀ a ∈ l3, In64 a.1 ∧ In64 a.2.1 ∧ In64 a.2.2 := by
  rcases open_slice Try.underlying22 h with ⟨h1, _⟩ | ⟨a, len, cap, m, n, D, Pl, h1, _, hl, hm, hmm, _, hi⟩
  · simp only [List.cons.injEq, and_true] at h1
    exact ⟨none, 0, 0, [], h1, rfl, Nat.le_refl _, by unfold maxLen; omega, Sl.nil _ _ _, by simp⟩
  · simp only [List.cons.injEq, and_true] at h1
    have hml : len ≤ m := by rw [hmm]; split <;> omega
    have key : ∀ i, i < len → ∃ r : R3, (In64 r.1 ∧ In64 r.2.1 ∧ In64 r.2.2) ∧ ∀ j u, (rawCells r)[j]? = some u → w.cell? (a.add (i * 3 + j)) = some u := by
      intro i hil
      obtain ⟨cs', hc, ht⟩ := hi i (by omega)
      rw [show Try.prog.cellsOf 53 = 3 from by kernel_rfl] at hc
      obtain ⟨_, hcl, hat⟩ := World.cells?_some hc
      obtain ⟨x0, x1, x2, rfl⟩ : ∃ x0 x1 x2, cs' = [x0, x1, x2] := by
        match cs', hcl with
        | [a, b, c], _ => exact ⟨a, b, c, rfl⟩
      obtain ⟨ys, n', _, _, _, hyl, hf⟩ := DataW.trod_struct Try.underlying53 ht
      have c3 : Try.prog.cellsOf 3 = 1 := by kernel_rfl
      have c2 : Try.prog.cellsOf 2 = 1 := by kernel_rfl
      have g0 : DataW.trod enc Try.prog w base spare held n' 3 (([x0, x1, x2].drop 0).take (Try.prog.cellsOf 3)) = ys[0]? := hf 0 _ rfl
      have g1 : DataW.trod enc Try.prog w base spare held n' 3 (([x0, x1, x2].drop 1).take (Try.prog.cellsOf 3)) = ys[1]? := hf 1 _ rfl
      have g2 : DataW.trod enc Try.prog w base spare held n' 2 (([x0, x1, x2].drop 2).take (Try.prog.cellsOf 2)) = ys[2]? := hf 2 _ rfl
      rw [c3] at g0 g1
      rw [c2] at g2
      change DataW.trod enc Try.prog w base spare held n' 3 [x0] = ys[0]? at g0
      change DataW.trod enc Try.prog w base spare held n' 3 [x1] = ys[1]? at g1
      change DataW.trod enc Try.prog w base spare held n' 2 [x2] = ys[2]? at g2
      have hys : ys.length = 3 := hyl
      obtain ⟨n0, rfl, h0⟩ := trod_one Try.underlying3 (g0.trans (List.getElem?_eq_getElem (by omega)))
      obtain ⟨n1, rfl, h1⟩ := trod_one Try.underlying3 (g1.trans (List.getElem?_eq_getElem (by omega)))
      obtain ⟨n2, rfl, h2⟩ := trod_one Try.underlying2 (g2.trans (List.getElem?_eq_getElem (by omega)))
      refine ⟨(n0, n1, n2), ⟨in64_of h0, in64_of h1, in64_of h2⟩, fun j u hj => ?_⟩
      have hj3 : j < 3 := (List.getElem?_eq_some_iff.1 hj).1
      have := hat j hj3
      rw [add_add] at this
      rw [this]
      exact hj
    have build : ∀ k, k ≤ len → ∃ l3 : List R3, l3.length = k ∧ (∀ a ∈ l3, In64 a.1 ∧ In64 a.2.1 ∧ In64 a.2.2) ∧ ∀ i r, l3[i]? = some r → ∀ j u, (rawCells r)[j]? = some u → w.cell? (a.add (i * 3 + j)) = some u := by
      intro k
      induction k with
      | zero => intro _; exact ⟨[], rfl, by simp, by simp⟩
      | succ k ih =>
        intro hk
        obtain ⟨l3, hl3, hb, hcell⟩ := ih (by omega)
        obtain ⟨r, hr, hrc⟩ := key k (by omega)
        refine ⟨l3 ++ [r], by simp [hl3], fun b hb' => ?_, fun i r' hi' => ?_⟩
        · rcases List.mem_append.1 hb' with h2 | h2
          · exact hb b h2
          · simp at h2; subst h2; exact hr
        · by_cases hik : i < k
          · rw [List.getElem?_append_left (by omega)] at hi'
            exact hcell i r' hi'
          · have hi1 := (List.getElem?_eq_some_iff.1 hi').1
            simp at hi1
            obtain rfl : i = k := by omega
            rw [List.getElem?_append_right (by omega), hl3, Nat.sub_self] at hi'
            simp at hi'; subst hi'
            exact hrc
    obtain ⟨l3, hl3, hb, hcell⟩ := build len (Nat.le_refl _)
    refine ⟨some a, len, cap, l3, h1, hl3.symm, hl, hm, ⟨cat_len rawCells_len _, fun hn => ?_⟩, hb⟩
    have hsp : a.spot = none := by
      obtain ⟨r, hr⟩ : ∃ r, l3[0]? = some r := ⟨_, List.getElem?_eq_getElem hn⟩
      have h0 := hcell 0 r hr 0 _ rfl
      simp only [Addr.add, Nat.zero_mul, Nat.add_zero, if_pos] at h0
      unfold World.cell? at h0
      split at h0
      · split at h0
        · simp at h0
        · rename_i h5; cases h6 : a.spot <;> simp_all
      · simp at h0
    obtain ⟨g, off, sp⟩ := a
    simp only at hsp
    subst hsp
    refine ⟨g, off, rfl, fun j v hv => ?_⟩
    have hj := (List.getElem?_eq_some_iff.1 hv).1
    rw [cat_len rawCells_len] at hj
    obtain ⟨r, hr⟩ : ∃ r, l3[j / 3]? = some r := ⟨_, List.getElem?_eq_getElem (by omega)⟩
    obtain ⟨u, hu⟩ : ∃ u, (rawCells r)[j % 3]? = some u := ⟨_, List.getElem?_eq_getElem (by rw [rawCells_len]; omega)⟩
    have e1 : j / 3 * 3 + j % 3 = j := by omega
    have h2 := cat_get rawCells_len hr (j % 3) u hu
    rw [e1, hv] at h2
    obtain rfl := Option.some.inj h2
    have h3 := hcell (j / 3) r hr (j % 3) _ hu
    rw [e1, Addr.add_mid] at h3
    exact h3

/-- A net. -/
theorem open_net {r : Reach} {b0 : Nat} {v : Value} {dd : DataW H} {p : List MemPlace} (hv : Value.okWide Try.prog w r b0 24 v) (h : DataW.Trod enc Try.prog w base spare held 24 v dd p) :
    ∃ N S T A c l3, v = .agg #[.int .i64 N, .int .i64 S, .int .i64 T, .slice A (l3 : List R3).length c] ∧ In64 N ∧ In64 S ∧ In64 T ∧ l3.length ≤ c ∧ c ≤ maxLen ∧ Sl w A l3.length 3 (cat rawCells l3) ∧ ∀ a ∈ l3, In64 a.1 ∧ In64 a.2.1 ∧ In64 a.2.2 := by
  obtain ⟨v0, v1, v2, v3, y0, y1, y2, y3, n, rfl, _, _, h0, h1, h2, h3⟩ := open_agg4 Try.underlying24 (by kernel_rfl) (by kernel_rfl) hv h
  obtain ⟨n0, rfl, w0⟩ := trod_one Try.underlying3 h0
  obtain ⟨n1, rfl, w1⟩ := trod_one Try.underlying3 h1
  obtain ⟨n2, rfl, w2⟩ := trod_one Try.underlying3 h2
  obtain ⟨A, k, c, l3, rfl, rfl, hc, hm, hs, hb⟩ := open_arcs h3
  exact ⟨n0, n1, n2, A, c, l3, rfl, in64_of w0, in64_of w1, in64_of w2, hc, hm, hs, hb⟩

/-- How long a slice of whole numbers may be. -/
theorem sized_row {t e : TypeId} {k : IntKind} {a : Option Addr} {len cap : Nat} {d : DataW H} {ps : List MemPlace} {ts : List TypeId} {ds : List (DataW H)} {j : Nat}
    (hsz : (DataW.weightsEach Try.prog ts ds).all (· ≤ reachBytes) = true) (ht : ts[j]? = some t) (hd : ds[j]? = some d) (hu : Try.prog.underlying t = some (.slice e)) (he : Try.prog.underlying e = some (.int k)) (hc : Try.prog.cellsOf e = 1)
    (h : DataW.Trod enc Try.prog w base spare held t (.slice a len cap) d ps) : len * Try.prog.bytesOf e ≤ 140737488351232 := by
  obtain ⟨fuel, hf⟩ := h
  rcases open_ints hu he hc hf with ⟨hcs, _⟩ | ⟨x, l, c, zs, hcs, _, hl, _, hz, hx, _, _⟩
  · simp [Value.cells] at hcs
    rw [hcs.2.1]; simp
  · simp [Value.cells] at hcs
    obtain ⟨rfl, rfl, rfl⟩ := hcs
    obtain ⟨hx, _⟩ := Prod.mk.inj hx
    subst hx
    have z := sized_slice hsz ht hd hu
    have hl2 : len ≤ zs.length := by
      rw [hz]
      split
      · exact hl
      · exact Nat.le_refl _
    have h1 : (lits (H := H) k (zs.take len)).length + (lits (H := H) k (zs.drop len)).length = zs.length := by
      simp [lits]
      omega
    rw [h1] at z
    exact Nat.le_trans (Nat.mul_le_mul_right _ hl2) z

end
end Acq
