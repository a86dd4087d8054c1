/- Small facts on rows of cells in memory: what a block holds, behind stores, new blocks and draws. No program is named. -/
import Derived.WalkKit
import Derived.Deep.Draws
import Derived.Deep.MidRow
set_option linter.unnecessarySimpa false
set_option linter.unusedSimpArgs false
set_option linter.unusedVariables false
namespace Acq
open Go Go.RowKit

/-- Block `b` is a row of the cells `xs`, of element type `T`; it may be written. -/
def Blk (w : World) (b : Nat) (xs : List Value) (T : TypeId) : Prop := w.heap[b]? = some (.cells xs.toArray T (0, 0))

section
variable {w w' : World} {b : Nat} {xs : List Value} {T : TypeId}

theorem Blk.cell (h : Blk w b xs T) {o : Nat} {v : Value} (hv : xs[o]? = some v) : w.cell? ⟨b, o, none⟩ = some v := by
  unfold Blk at h; simp [World.cell?, h, hv]

theorem Blk.free (h : Blk w b xs T) (o : Nat) : w.frozen? ⟨b, o, none⟩ = false := by
  unfold Blk at h; simp [World.frozen?, h]

theorem Blk.cast {ys : List Value} (h : Blk w b xs T) (e : xs = ys) : Blk w b ys T := e ▸ h

theorem Blk.lt (h : Blk w b xs T) : b < w.heap.size := lt_of_block h

theorem Blk.alloc (h : Blk w b xs T) (o : Obj) : Blk (w.alloc o) b xs T := by
  unfold Blk at h ⊢; rw [Below.heap_alloc _ _ _ (lt_of_block h)]; exact h

theorem Blk.new (w : World) (xs : List Value) (T : TypeId) : Blk (w.alloc (.cells xs.toArray T)) w.heap.size xs T := heap_alloc_new _ _

theorem Blk.new_at {w : World} {b : Nat} (xs : List Value) (T : TypeId) (h : b = w.heap.size) : Blk (w.alloc (.cells xs.toArray T)) b xs T := h ▸ Blk.new w xs T

theorem Blk.new_rep {w : World} {b : Nat} (n : Nat) (v : Value) (T : TypeId) (h : b = w.heap.size) : Blk (w.alloc (.cells (Array.replicate n v) T)) b (List.replicate n v) T := by
  have := Blk.new_at (w := w) (List.replicate n v) T h
  rwa [List.toArray_replicate] at this

theorem Blk.drewN (h : Blk w b xs T) (n : Nat) : Blk (w.drewN n) b xs T := h

theorem Blk.drew (h : Blk w b xs T) : Blk w.drew b xs T := h



theorem Blk.set (h : Blk w b xs T) (o : Nat) (v : Value) : Blk (w.setCell ⟨b, o, none⟩ v) b (xs.set o v) T := by
  unfold Blk at h ⊢
  have hlt := lt_of_block h
  have h' : w.heap[b] = .cells xs.toArray T (0, 0) := by simpa [Array.getElem?_eq_getElem hlt] using h
  show (w.heap.modify b _)[b]? = _
  rw [Array.getElem?_eq_getElem (by simpa using hlt), Array.getElem_modify_self, h']
  simp

theorem Blk.other (h : Blk w b xs T) {a : Addr} (hne : b ≠ a.block) (v : Value) : Blk (w.setCell a v) b xs T := by
  unfold Blk at h ⊢; rw [Below.heap_setCell _ _ _ _ hne]; exact h

theorem Blk.away (h : Blk w b xs T) {c o : Nat} (hne : b ≠ c) (v : Value) : Blk (w.setCell ⟨c, o, none⟩ v) b xs T := h.other hne v

theorem Blk.below {B : Nat} (h : Blk w b xs T) (hb : Below B w w') (hB : b < B) : Blk w' b xs T := by
  unfold Blk at h ⊢; rw [hb.block b hB]; exact h

end

/-- The same world, but for how often the tape was asked. -/
def Sim (w w' : World) : Prop := w'.heap = w.heap ∧ w'.os = w.os ∧ w'.tape = w.tape ∧ w'.output = w.output

/-- The world with that many draws. -/
def Redraw (w : World) (k : Nat) : World := { w with drawn := k }

theorem Sim.ex {w w' : World} (h : Sim w w') : ∃ k, w' = Redraw w k := by
  obtain ⟨h1, h2, h3, h4⟩ := h
  cases w; cases w'
  simp at h1 h2 h3 h4
  subst h1; subst h2; subst h3; subst h4
  exact ⟨_, rfl⟩

theorem Sim.refl (w : World) : Sim w w := ⟨rfl, rfl, rfl, rfl⟩
theorem Sim.trans {a b c : World} (h : Sim a b) (k : Sim b c) : Sim a c := ⟨k.1.trans h.1, k.2.1.trans h.2.1, k.2.2.1.trans h.2.2.1, k.2.2.2.trans h.2.2.2⟩

section
variable (w : World) (k m n : Nat) (a : Addr)
@[simp, go_sem] theorem cell?_redraw : (Redraw w k).cell? a = w.cell? a := rfl
@[simp, go_sem] theorem frozen?_redraw : (Redraw w k).frozen? a = w.frozen? a := rfl
@[simp, go_sem] theorem heap_redraw : (Redraw w k).heap = w.heap := rfl
@[simp, go_sem] theorem redraw_redraw : Redraw (Redraw w k) m = Redraw w m := rfl
end
/-- What a call may have turned: of the blocks that there were, those of `S` alone. -/
structure Fr (S : List Nat) (w w' : World) : Prop where
  os : w'.os = w.os
  tape : w'.tape = w.tape
  output : w'.output = w.output
  size : w.heap.size ≤ w'.heap.size
  block : ∀ b, b < w.heap.size → b ∉ S → w'.heap[b]? = w.heap[b]?

section
variable {S S' : List Nat} {a b c w w' : World}

theorem Fr.refl (S : List Nat) (w : World) : Fr S w w := ⟨rfl, rfl, rfl, Nat.le_refl _, fun _ _ _ => rfl⟩

theorem Fr.trans (h : Fr S a b) (k : Fr S b c) : Fr S a c :=
  ⟨k.os.trans h.os, k.tape.trans h.tape, k.output.trans h.output, Nat.le_trans h.size k.size, fun i hi hS => (k.block i (Nat.lt_of_lt_of_le hi h.size) hS).trans (h.block i hi hS)⟩

/-- What is new may be left out. -/
theorem Fr.less (h : Fr S w w') (hS : ∀ x, x ∈ S → x ∉ S' → w.heap.size ≤ x) : Fr S' w w' :=
  ⟨h.os, h.tape, h.output, h.size, fun i hi hn => h.block i hi (fun hm => by have := hS i hm hn; omega)⟩

theorem Fr.more (h : Fr S w w') (hS : ∀ x, x ∈ S → x ∈ S') : Fr S' w w' := h.less fun x hx hn => (hn (hS x hx)).elim

theorem Fr.alloc (h : Fr S a w) (o : Obj) : Fr S a (w.alloc o) :=
  h.trans ⟨rfl, rfl, rfl, by simp, fun k hk _ => Below.heap_alloc _ _ _ hk⟩

theorem Fr.setCell (h : Fr S a w) {p : Addr} (hp : p.block ∈ S) (u : Value) : Fr S a (w.setCell p u) :=
  h.trans ⟨rfl, rfl, rfl, by simp [World.setCell], fun k _ hn => Below.heap_setCell _ _ _ _ (fun e => hn (e ▸ hp))⟩

theorem Fr.drew (h : Fr S a w) : Fr S a w.drew := ⟨h.os, h.tape, h.output, h.size, h.block⟩
theorem Fr.drewN (h : Fr S a w) (n : Nat) : Fr S a (w.drewN n) := ⟨h.os, h.tape, h.output, h.size, h.block⟩
theorem Fr.redraw (h : Fr S a w) (n : Nat) : Fr S a (Redraw w n) := ⟨h.os, h.tape, h.output, h.size, h.block⟩
theorem Fr.sim (h : Fr S a w) (k : Sim w w') : Fr S a w' := by
  obtain ⟨n, rfl⟩ := k.ex; exact h.redraw n
theorem Sim.fr (h : Sim w w') : Fr S w w' := (Fr.refl S w).sim h

theorem Fr.below {B : Nat} (h : Fr S w w') (hS : ∀ x, x ∈ S → B ≤ x) (hB : B ≤ w.heap.size) : Below B w w' :=
  ⟨h.os, h.tape, h.output, h.size, fun k hk => h.block k (by omega) (fun hm => by have := hS k hm; omega)⟩

theorem Fr.of_below {B : Nat} (h : Below B w w') (hS : ∀ x, B ≤ x → x < w.heap.size → x ∈ S) : Fr S w w' :=
  ⟨h.os, h.tape, h.output, h.size, fun k hk hn => h.block k (by
    rcases Nat.lt_or_ge k B with h' | h'
    · exact h'
    · exact (hn (hS k h' hk)).elim)⟩

theorem Blk.fr {b : Nat} {xs : List Value} {T : TypeId} (h : Blk w b xs T) (k : Fr S w w') (hb : b ∉ S) : Blk w' b xs T := by
  unfold Blk at h ⊢; rw [k.block b (lt_of_block h) hb]; exact h

theorem Fr.cell (k : Fr S w w') {p : Addr} {v : Value} (h : w.cell? p = some v) (hb : p.block ∉ S) : w'.cell? p = some v :=
  (World.cell?_of_block (k.block p.block (World.block_lt_of_cell? w p h) hb)).trans h
end

theorem ret_int {k : IntKind} {a b : Int} (h : a = b) : Ending.returned (.int k a) = .returned (.int k b) := by rw [h]
theorem val_int {k : IntKind} {a b : Int} (h : a = b) : Value.int k a = .int k b := by rw [h]

/-- `make([]T, n)` of elements of one cell: a new block of zeros. -/
theorem run_mk {P : Program} {t e : TypeId} {z0 : Value} {by_ : Nat} (ht : P.underlying t = some (.slice e)) (hi : (P.info? e).map (fun i => (i.zero.map Value.cells, i.size, i.bytes)) = some (some #[z0], 1, by_)) (hb : by_ ≤ 16)
    (n : Nat) (hn : n ≤ 16777216) (w : World) :
    (Instr.makeSlice t (.int .i64 n) (.int .i64 n)).run P w = .ok (.slice (some ⟨w.heap.size, 0, none⟩) n n) (w.alloc (.cells (List.replicate n z0).toArray e)) := by
  obtain ⟨i, hi1, he⟩ := Option.map_eq_some_iff.1 hi
  simp only [Prod.mk.injEq] at he
  obtain ⟨he1, hs, rfl⟩ := he
  obtain ⟨z, hz, hz0⟩ := Option.map_eq_some_iff.1 he1
  have hbb : i.bytes * n ≤ 16 * 16777216 := Nat.mul_le_mul hb hn
  have hb' : (i.bytes : Int) * (n : Int) ≤ 281474976710656 := by
    have : ((i.bytes * n : Nat) : Int) ≤ 16 * 16777216 := by omega
    rw [Int.natCast_mul] at this; omega
  have h := run_make (P := P) w t e i z ht hi1 hz .i64 .i64 n n (by omega) (by omega) hb' (by omega)
  rw [h]
  have e1 : madeCells #[z0] n = (List.replicate n z0).toArray := by rw [← toList_madeCells_one]
  simp only [Int.toNat_natCast, hs, Nat.mul_one, hz0, e1]

theorem Blk.redraw {w : World} {b : Nat} {xs : List Value} {T : TypeId} (h : Blk w b xs T) (k : Nat) : Blk (Redraw w k) b xs T := h
/-! Whole rows, at the list of a region's operations. -/
section
variable {P : Program} {ops : Array Oper} {Q : Exit → Act → World → Prop} {rest : List Oper} {o : Oper} {a : Act} {w : World}

theorem wl_build (hg : o.guard = none) {t : TypeId} {parts : Array (Nat × Operand)} (ho : o.op = .build t parts)
    (cells : Array Value) (hc : P.built t (parts.map fun (i, x) => (i, a.eval x)).toList = some cells) (h : wpList P ops Q rest (a.put o.dst (.agg cells)) w) : wpList P ops Q (o :: rest) a w := by
  refine wpList_plain hg fun K hK => wp_build t parts ho (by rw [hc]; rfl) ?_
  rw [hc]
  exact hK _ _ h

theorem wl_load (hgd : o.guard = none) {ty : TypeId} {x : Operand} (ho : o.op = .load ty x) {g : Nat} (hx : a.eval x = .pointer (some ⟨g, 0, none⟩)) (cs : List Value) {T : TypeId} (hB : Blk w g cs T)
    {d : TypeDesc} (hu : P.underlying ty = some d) (hd : d.isRow = true) (hi : (P.info? ty).map (·.size) = some cs.length)
    (h : wpList P ops Q rest (a.put o.dst (.agg cs.toArray)) w) : wpList P ops Q (o :: rest) a w :=
  wpList_load_row hgd ty x ho g hx T cs.toArray (0, 0) d hB hu (by cases d <;> simpa using hd) (by simpa using hi) h

theorem Blk.row {w : World} {b : Nat} {xs : List Value} {T : TypeId} (h : Blk w b xs T) (cs : List Value) : Blk (w.setRow b cs.toArray) b cs T := setRow_heap w b _ _ T _ h
theorem Blk.otherRow {w : World} {b c : Nat} {xs : List Value} {T : TypeId} (h : Blk w b xs T) (hne : b ≠ c) (cs : Array Value) : Blk (w.setRow c cs) b xs T := by
  unfold Blk at h ⊢; rw [setRow_other _ _ _ _ hne]; exact h
theorem Fr.setRow {S : List Nat} {a w : World} (h : Fr S a w) {g : Nat} (hg : g ∈ S ∨ a.heap.size ≤ g) (cs : Array Value) : Fr S a (w.setRow g cs) :=
  ⟨h.os, h.tape, h.output, by rw [setRow_size]; exact h.size, fun k hk hn => by
    rw [setRow_other]
    · exact h.block k hk hn
    · rintro rfl
      rcases hg with hg | hg
      · exact hn hg
      · omega⟩

theorem wl_store (hgd : o.guard = none) {ty : TypeId} {x y : Operand} (ho : o.op = .store ty x y) {g : Nat} (cs : List Value) (hx : a.eval x = .pointer (some ⟨g, 0, none⟩)) (hy : a.eval y = .agg cs.toArray)
    {old : List Value} {T : TypeId} (hB : Blk w g old T) (hi : (P.info? ty).map (·.size) = some cs.length) (hold : old.length = cs.length) (h1 : cs.all (·.oneCell') = true)
    (h : wpList P ops Q rest (a.put o.dst undef) (w.setRow g cs.toArray)) : wpList P ops Q (o :: rest) a w :=
  wpList_store_row hgd ty x y ho g cs.toArray hx hy T old.toArray hB (by simpa using hi) (by simpa using hold) (by simpa using h1) h

theorem setRow_alloc_new (w0 : World) (old cs : Array Value) (T : TypeId) : (w0.alloc (.cells old T)).setRow w0.heap.size cs = w0.alloc (.cells cs T) := by
  unfold World.setRow World.alloc
  congr 1
  apply Array.ext_getElem?
  intro k
  rw [Array.getElem?_modify]
  by_cases hk : w0.heap.size = k
  · subst hk; simp
  · rw [if_neg hk, Array.getElem?_push, Array.getElem?_push, if_neg (fun e => hk e.symm), if_neg (fun e => hk e.symm)]

/-- A whole row stored into the block that was made last. -/
theorem wl_store_new (hgd : o.guard = none) {ty : TypeId} {x y : Operand} (ho : o.op = .store ty x y) (cs : List Value) {w0 : World} {old : List Value} {T : TypeId} {g : Nat} (hg : g = w0.heap.size)
    (hx : a.eval x = .pointer (some ⟨g, 0, none⟩)) (hy : a.eval y = .agg cs.toArray) (hi : (P.info? ty).map (·.size) = some cs.length) (hold : old.length = cs.length) (h1 : cs.all (·.oneCell') = true)
    (h : wpList P ops Q rest (a.put o.dst undef) (w0.alloc (.cells cs.toArray T))) : wpList P ops Q (o :: rest) a (w0.alloc (.cells old.toArray T)) := by
  subst hg
  refine wl_store hgd ho cs hx hy (Blk.new w0 old T) hi hold h1 ?_
  rw [setRow_alloc_new]; exact h

end
/-! Results that lie in memory. -/
section
variable {P : Program} {fn : Func} {R : Ending → World → Prop} {a : Act} {w : World} {p u v : Tmp} {ty : TypeId} {g : Nat} {cs : List Value} {T : TypeId} {d : TypeDesc}

theorem load_row (hB : Blk w g cs T) (hu : P.underlying ty = some d) (hd : d.isRow = true) (hi : (P.info? ty).map (·.size) = some cs.length) :
    (loadVar ty ⟨g, 0, none⟩).run P w = .ok (.agg cs.toArray) w :=
  run_loadVar_row w g T ty cs.toArray (0, 0) d hB hu (by cases d <;> simpa using hd) (by simpa using hi)

theorem ret_c (hf : fn.results = #[.cell p ty]) (hp : a.tmps.getD p undef = .pointer (some ⟨g, 0, none⟩)) (hB : Blk w g cs T) (hu : P.underlying ty = some d) (hd : d.isRow = true)
    (hi : (P.info? ty).map (·.size) = some cs.length) (hdf : a.defers = []) (hR : R (.returned (.agg cs.toArray)) w) : bodyPost P fn R .ret a w := by
  refine bodyPost_ret (v := .agg cs.toArray) ?_ hdf hR
  have hl := load_row hB hu hd hi
  have hp' : a.tmps[p]?.getD undef = .pointer (some ⟨g, 0, none⟩) := by simpa using hp
  simp [results, hf, hp', asAddr, hl, Sem.run_bind, Result.andThen]

theorem ret_ct (hf : fn.results = #[.cell p ty, .tmp u]) (hp : a.tmps.getD p undef = .pointer (some ⟨g, 0, none⟩)) (hB : Blk w g cs T) (hu : P.underlying ty = some d) (hd : d.isRow = true)
    (hi : (P.info? ty).map (·.size) = some cs.length) (hdf : a.defers = []) (hR : R (.returned (.tuple #[.agg cs.toArray, a.tmps.getD u undef])) w) : bodyPost P fn R .ret a w := by
  refine bodyPost_ret (v := .tuple #[.agg cs.toArray, a.tmps.getD u undef]) ?_ hdf hR
  have hl := load_row hB hu hd hi
  have hp' : a.tmps[p]?.getD undef = .pointer (some ⟨g, 0, none⟩) := by simpa using hp
  simp [results, hf, hp', asAddr, hl, Sem.run_bind, Result.andThen]

theorem ret_ctt (hf : fn.results = #[.cell p ty, .tmp u, .tmp v]) (hp : a.tmps.getD p undef = .pointer (some ⟨g, 0, none⟩)) (hB : Blk w g cs T) (hu : P.underlying ty = some d) (hd : d.isRow = true)
    (hi : (P.info? ty).map (·.size) = some cs.length) (hdf : a.defers = []) (hR : R (.returned (.tuple #[.agg cs.toArray, a.tmps.getD u undef, a.tmps.getD v undef])) w) : bodyPost P fn R .ret a w := by
  refine bodyPost_ret (v := .tuple #[.agg cs.toArray, a.tmps.getD u undef, a.tmps.getD v undef]) ?_ hdf hR
  have hl := load_row hB hu hd hi
  have hp' : a.tmps[p]?.getD undef = .pointer (some ⟨g, 0, none⟩) := by simpa using hp
  simp [results, hf, hp', asAddr, hl, Sem.run_bind, Result.andThen]

end
/-! Single operations, outside a list. -/
section
variable {P : Program} {Q : Exit → Act → World → Prop} {K : Act → World → Prop} {o : Oper} {a : Act} {w w' : World}

theorem wp_run {v : Value} (h : (execOp a.eval o).run P w = .ok (.value v) w') (hK : K (a.put o.dst v) w') : o.wp P a w K Q := by
  unfold Oper.wp; rw [h]; exact hK

/-- A call, whose function and arguments are known. -/
theorem wp_call {f : FuncId} {args : Array Value} {R : Ending → World → Prop} (h : (execOp a.eval o).run P w = .ok (.enter f args) w) (hc : Calls P f args w R) (hK : ∀ e w', R e w' → ∃ v, e = .returned v ∧ K (a.put o.dst v) w') : o.wp P a w K Q := by
  unfold Oper.wp
  rw [h]
  refine hc.mono fun e w' hr => ?_
  obtain ⟨v, rfl, hk⟩ := hK e w' hr
  exact hk

theorem exec_load_row {ty : TypeId} {x : Operand} (ho : o.op = .load ty x) {g : Nat} (hx : a.eval x = .pointer (some ⟨g, 0, none⟩)) {cs : List Value} {T : TypeId} (hB : Blk w g cs T) {d : TypeDesc}
    (hu : P.underlying ty = some d) (hd : d.isRow = true) (hi : (P.info? ty).map (·.size) = some cs.length) : (execOp a.eval o).run P w = .ok (.value (.agg cs.toArray)) w := by
  unfold execOp
  simp only [ho, hx, Instr.loadAt, Instr.sureAddr, Sem.run_bind, Sem.run_pure, Result.andThen_ok, load_row hB hu hd hi]

end
/-! Rows that the call owns. -/
section
variable {S : List Nat} {w w' : World} {base : Nat} {e : TypeId} {size n : Nat} {v : Value} {xs : List Value}

theorem ownsRow_fr (h : w.ownsRow base e size v n xs) (k : Fr S w w') (hS : ∀ g, v.ownBlock = some g → g ∉ S) : w'.ownsRow base e size v n xs := by
  refine ⟨h.1, ?_⟩
  rcases h.2 with h2 | ⟨g, cap, cur, rfl, hb, hg, r⟩
  · exact .inl h2
  · exact .inr ⟨g, cap, cur, rfl, hb, by rw [k.block g (lt_of_block hg) (hS g rfl)]; exact hg, r⟩

theorem ownsRow_slice (h : w.ownsRow base e size v n xs) : ∃ a cap, v = .slice a n cap := by
  rcases h.2 with ⟨rfl, rfl⟩ | ⟨g, cap, cur, rfl, _⟩
  · exact ⟨none, 0, rfl⟩
  · exact ⟨_, cap, rfl⟩

theorem Fr.of_grown {row : Option Nat} (h : w.grownBy w' row) (hr : ∀ k, row = some k → k ∈ S) : Fr S w w' :=
  ⟨h.os, h.tape, h.output, h.size, fun b hb hn => h.block b hb (fun e => hn (hr b e.symm))⟩

end
end Acq
