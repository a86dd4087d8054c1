/- The walk of BarrierTells. -/
import Derived.Test.YthgjkdgdmpffmaaTellPlain
import Derived.Test.YthgjkdgdmpffmaaBarAll
set_option maxRecDepth 100000
set_option linter.unusedSimpArgs false
set_option linter.unusedVariables false
namespace Acq
open Go Go.RowKit Go.Proofs

theorem exec_make {P : Program} {o : Oper} {a : Act} {w w' : World} {t : TypeId} {x y : Operand} {vx vy v : Value} (ho : o.op = .makeSlice t x y) (hx : a.eval x = vx) (hy : a.eval y = vy) (h : (Instr.makeSlice t vx vy).run P w = .ok v w') :
    (execOp a.eval o).run P w = .ok (.value v) w' := by
  unfold execOp
  simp only [ho, hx, hy, Sem.run_bind, Sem.run_pure, Result.andThen_ok, h]

theorem run_mid {P : Program} (w : World) (b o : Nat) (cs : List Value) (ht : w.there b o cs.length) (h1 : cs.all (·.oneCell') = true) : (storeCells ⟨b, o, none⟩ cs).run P w = .ok () (w.setCells b o cs) := by
  have := run_storeCells_cells (P := P) b o cs 0 w (fun j hj => by simpa using (ht j hj).1) (fun j hj => by simpa using (ht j hj).2) (fun v hv => (List.all_eq_true.1 h1) v hv)
  simpa using this

theorem infoRef14 : (Try.prog.info? 49).map (fun i => (i.zero, i.size, i.bytes)) = some (some (.agg #[.int .i64 0, .int .i64 0, .bool false, .bool false]), 4, 24) := by kernel_rfl

/-- Nine rows of zeros. -/
theorem run_nine {P : Program} {t e : TypeId} {z : Value} {s by_ : Nat} (ht : P.underlying t = some (.slice e)) (hi : (P.info? e).map (fun i => (i.zero, i.size, i.bytes)) = some (some z, s, by_)) (hb : by_ ≤ 1000) (cs : List Value) (hc : madeCells z.cells (9 * s) = cs.toArray) (w : World) :
    (Instr.makeSlice t (.int .i64 9) (.int .i64 9)).run P w = .ok (.slice (some ⟨w.heap.size, 0, none⟩) 9 9) (w.alloc (.cells cs.toArray e)) := by
  obtain ⟨i, hi1, he⟩ := Option.map_eq_some_iff.1 hi
  simp only [Prod.mk.injEq] at he
  obtain ⟨hz, hs, hby⟩ := he
  have h := run_make (P := P) w t e i z ht hi1 hz .i64 .i64 9 9 (by omega) (by omega) (by rw [hby]; omega) (by omega)
  rw [h, hs]
  simp only [show (9 : Int).toNat = 9 from rfl, hc]

/-- The cells of nine machines that did not begin. -/
def refs0 : List Value := (List.replicate 9 (RefS.mk 0 0 false false).cells).flatten
def tab0 : List Value := (List.replicate 9 arr0).flatten

theorem mk_tab (w : World) : (Instr.makeSlice 30 (.int .i64 9) (.int .i64 9)).run Try.prog w = .ok (.slice (some ⟨w.heap.size, 0, none⟩) 9 9) (w.alloc (.cells tab0.toArray 46)) :=
  run_nine Try.underlying30 infoArr (by omega) tab0 (by kernel_rfl) w
theorem mk_sab (w : World) : (Instr.makeSlice 43 (.int .i64 9) (.int .i64 9)).run Try.prog w = .ok (.slice (some ⟨w.heap.size, 0, none⟩) 9 9) (w.alloc (.cells refs0.toArray 49)) :=
  run_nine Try.underlying43 infoRef14 (by omega) refs0 (by kernel_rfl) w

theorem ready_at (n : Nat) {w : World} {g c : Nat} {xs : List Int} (hR : Row64 w g xs) (hl : xs.length = (lay14 n).size) (hn : n ≤ 64) (hz : xs = List.replicate (lay14 n).size 0) :
    Calls Try.prog 11 #[.agg (lay14 n).cells.toArray, .slice (some ⟨g, 0, none⟩) (lay14 n).size c] w fun e w' => ∃ g' c', e = .returned (.slice (some ⟨g', 0, none⟩) (lay14 n).size c') ∧ Row64 w' g' (bank14 n) ∧ w.heap.size ≤ g' ∧ Fr [] w w' := by
  have h := ready14 (c := c) (lay14 n) hR (by rw [hl]; simp only [Lay.size, Lay.sense, lay14]; omega) (by rw [hl]; simp only [Lay.size, lay14]; omega)
  rw [hl] at h
  refine h.mono ?_
  rintro e w' ⟨g', c', rfl, h1, h2, h3⟩
  exact ⟨g', c', rfl, by rw [hz] at h1; exact h1, h2, h3⟩

theorem step14_size {x : ArrS} {y : RefS} (h : Rel x y) (hat : y.at_ ≤ 1000000) (n : Nat) {vals : List Int} (k : Nat) (hk : k ≤ 1000000) (hV : Vals n k vals) (hn : n ≤ 64) {w : World} {g c : Nat} (hR : Row64 w g vals) :
    Calls Try.prog 13 #[.agg y.cells.toArray, .agg (lay14 n).cells.toArray, .slice (some ⟨g, 0, none⟩) (lay14 n).size c] w (RefPost g (lay14 n).size w (refStep 9 10 n y vals)) := by
  have := step14_any (c := c) h hat n k hk hV hn hR
  rw [hV.1] at this
  exact this

theorem same_size {n k : Nat} {vals : List Int} (hV : Vals n k vals) (hn : n ≤ 64) {w : World} {g h c d : Nat} (hX : Row64 w g vals) (hY : Row64 w h vals) :
    Calls Try.prog 16 #[.slice (some ⟨g, 0, none⟩) (lay14 n).size c, .slice (some ⟨h, 0, none⟩) (lay14 n).size d] w fun e w' => e = .returned (.bool true) ∧ Fr [] w w' := by
  have := same_true (c := c) (d := d) hX hY (by rw [hV.1]; simp only [Lay.size, lay14]; omega)
  rw [hV.1] at this
  exact this

theorem all_size {n k : Nat} {vals : List Int} (hV : Vals n k vals) (hn : n ≤ 64) {w : World} {pb ab : Nat} (hB : Bank w pb ab vals) :
    Calls Try.prog 17 #[.pointer (some ⟨pb, 0, none⟩)] w fun e w' => e = .returned (.slice (some ⟨w.heap.size, 0, none⟩) (lay14 n).size (lay14 n).size) ∧ Row64 w' w.heap.size vals ∧ Fr [] w w' := by
  have := All_any pb ab vals (by rw [hV.1]; simp only [Lay.size, lay14]; omega) w hB
  rw [hV.1] at this
  refine this.mono ?_
  rintro e w' ⟨rfl, h1, h2⟩
  exact ⟨rfl, Row64.of_blk h1, h2⟩

theorem refs0_all : ∀ j, j < 9 → RefL refs0 (j * 4) ⟨0, 0, false, false⟩ := by
  intro j hj
  have : j = 0 ∨ j = 1 ∨ j = 2 ∨ j = 3 ∨ j = 4 ∨ j = 5 ∨ j = 6 ∨ j = 7 ∨ j = 8 := by omega
  rcases this with rfl | rfl | rfl | rfl | rfl | rfl | rfl | rfl | rfl <;> exact ⟨rfl, rfl, rfl, rfl⟩

set_option maxHeartbeats 4000000 in
theorem tells_any (a0 : Int) (h0 : 0 ≤ a0) (h1 : a0 ≤ 255) (A : Option Addr) (len cap : Nat) (hl : len ≤ cap) (hA : A = none → len = 0 ∧ cap = 0) (w : World) (hr : Bytes w A len) :
    Calls Try.prog 5 #[.int .u8 a0, .slice A len cap] w fun e w' => e = .returned (.bool true) ∧ Below w.heap.size w w' := by
  obtain ⟨n, hn, hn1, hn2⟩ : ∃ n : Nat, (n : Int) = 1 + a0 % 8 ∧ 1 ≤ n ∧ n ≤ 8 := ⟨(1 + a0 % 8).toNat, by omega, by omega, by omega⟩
  have HN : Hid (1 + a0 % 8 = (n : Int)) := Lib.hid hn.symm
  clear hn
  have HR := Lib.hid hr
  have HA := Lib.hid hA
  clear hr hA
  have hmk := fun W => run_mk (P := Try.prog) (t := 41) Try.underlying41 infoInt64 (by omega) (lay14 n).size (by simp only [Lay.size, lay14]; omega) W
  have HMK := Lib.hid hmk
  clear hmk
  go_enter Try.func5, Try.ntmps5
  go_wp2_with fail
  rw [HN.out]
  refine (bank_any n hn1 (by omega) _).mono ?_
  rintro e w1 ⟨pb, ab, rfl, hB1, hp1, ha1, hF1⟩
  have hls : Hid ((lay14 n).cells.length = 14) := Lib.hid rfl
  have hzl := hB1.lt
  have bl := Blk.new w1 (lay14 n).cells 28
  have hB2 := hB1.alloc (.cells (lay14 n).cells.toArray 28)
  have hF2 := hF1.alloc (.cells (lay14 n).cells.toArray 28)
  have hpa : pb ≠ ab := hB1.1
  clear hB1
  go_wp2_with (first | (refine wl_store_new rfl rfl (lay14 n).cells (by simp) rfl rfl (by kernel_rfl) (by rfl) (by rfl) ?_))
  generalize hw2 : w1.alloc (.cells (lay14 n).cells.toArray 28) = w2 at bl hB2 hF2 ⊢
  have HW2 := Lib.hid hw2
  clear hw2
  have hzw : w1.heap.size < w2.heap.size := bl.lt
  have c13 := bl.cell (o := 13) (v := .int .i64 (lay14 n).size) rfl
  have HC13 := Lib.hid c13
  refine wr_begin [4] (fun W => Blk W w1.heap.size (lay14 n).cells 28) (by kernel_rfl) (by exact bl.drew) ?_
  refine wr_read 0 _ rfl (by kernel_rfl) (by kernel_rfl) (by kernel_rfl) (fun _ _ _ h => h) (by kernel_rfl) (by kernel_rfl) (by rfl) (fun _ hF => exec_load_row rfl rfl hF Try.underlying28 rfl (by kernel_rfl)) ?_
  try simp only [Act.put, List.setIfInBounds_toArray, List.set_cons_zero, List.set_cons_succ]
  refine wr_pure 1 _ rfl (by kernel_rfl) (by kernel_rfl) (by kernel_rfl) (fun _ _ _ h => h) (by kernel_rfl) (by rfl) (fun _ => by go_simp; try with_reducible rfl) ?_
  try simp only [Act.put, List.setIfInBounds_toArray, List.set_cons_zero, List.set_cons_succ]
  refine wr_read 2 _ rfl (by kernel_rfl) (by kernel_rfl) (by kernel_rfl) (fun _ _ _ h => h) (by kernel_rfl) (by kernel_rfl) (by rfl) (fun _ hF => by have hF1 := hF.cell (o := 13) (v := .int .i64 (lay14 n).size) rfl; clear hF; go_simp; try with_reducible rfl) ?_
  try simp only [Act.put, List.setIfInBounds_toArray, List.set_cons_zero, List.set_cons_succ]
  refine wr_do 3 rfl (by kernel_rfl) (by rfl) (fun K hK => ?_)
  refine wp_run (exec_make rfl rfl rfl (HMK.out _)) ?_
  refine hK _ _ ?_
  refine ⟨fun _ => (bl.drew).alloc _, ?_⟩
  try simp only [Act.put, List.setIfInBounds_toArray, List.set_cons_zero, List.set_cons_succ]
  refine wr_do 4 rfl (by kernel_rfl) (by rfl) (fun K hK => ?_)
  refine wp_call (f := 11) (args := #[.agg (lay14 n).cells.toArray, .slice (some ⟨w2.heap.size, 0, none⟩) (lay14 n).size (lay14 n).size]) (by kernel_rfl) (ready_at n (xs := List.replicate (lay14 n).size 0) (Row64.of_blk (T := 2) (by rw [List.map_replicate]; exact Blk.new_at _ _ rfl)) (by simp) (by omega) rfl) ?_
  rintro e w3 ⟨g3, d3, rfl, hR3, hg3, hF3⟩
  refine ⟨_, rfl, hK _ _ ⟨Still.off 4 (by kernel_rfl) (by kernel_rfl), ?_⟩⟩
  try simp only [Act.put, List.setIfInBounds_toArray, List.set_cons_zero, List.set_cons_succ]
  refine wr_pure 5 _ rfl (by kernel_rfl) (by kernel_rfl) (by kernel_rfl) (fun _ _ _ h => h) (by kernel_rfl) (by rfl) (fun _ => by go_simp; try with_reducible rfl) ?_
  try simp only [Act.put, List.setIfInBounds_toArray, List.set_cons_zero, List.set_cons_succ]
  refine wr_done (by kernel_rfl) ?_ _
  have hB3 := hB2.drew.alloc (.cells (List.replicate (lay14 n).size (.int .i64 0)).toArray 2) |>.fr hF3 (by simp) (by simp)
  have hL3 := bl.drew.alloc (.cells (List.replicate (lay14 n).size (.int .i64 0)).toArray 2) |>.fr hF3 (by simp)
  have hG3 := (hF2.drew.alloc (.cells (List.replicate (lay14 n).size (.int .i64 0)).toArray 2)).trans hF3
  have hz3 : w2.heap.size + 1 ≤ g3 := by simpa using hg3
  have hF1z := hF1.size
  clear hF3 hg3 hB2 bl hF2 HW2 HC13 c13 HMK hF1
  go_upto_region 6 with (fail)
  refine wp_region_list (wl_run rfl (exec_make rfl rfl rfl (mk_tab _)) ?_)
  go_upto_region 7 with (fail)
  refine wp_region_list (wl_run rfl (exec_make rfl rfl rfl (mk_sab _)) ?_)
  go_upto_region 8 with (fail)
  have hzR := hR3.lt
  have h9 : TR n ((w3.alloc (.cells tab0.toArray 46)).alloc (.cells refs0.toArray 49)) w.heap.size w1.heap.size pb ab w3.heap.size (w3.heap.size + 1) g3 tab0 refs0 (bank14 n) (bank14 n) := by
    have hF9 : Fr [] w3 ((w3.alloc (.cells tab0.toArray 46)).alloc (.cells refs0.toArray 49)) := ((Fr.refl _ _).alloc _).alloc _
    have := hL3.lt
    have := hG3.size
    refine ⟨hL3.fr hF9 (by simp), hB3.fr hF9 (by simp) (by simp), (Blk.new_at _ _ rfl).alloc _, Blk.new_at _ _ (by simp), hR3.fr hF9 (by simp), by decide, by decide, ?_, ?_, ?_⟩
    · simp; omega
    · simp; omega
    · simp; have := hF1z; omega
  have hG9 : Below w.heap.size w ((w3.alloc (.cells tab0.toArray 46)).alloc (.cells refs0.toArray 49)) := ((hG3.alloc _).alloc _).below (by simp) (Nat.le_refl _)
  obtain ⟨tb, htb⟩ : ∃ tb, tb = w3.heap.size := ⟨_, rfl⟩
  obtain ⟨sb, hsb⟩ : ∃ sb, sb = w3.heap.size + 1 := ⟨_, rfl⟩
  rw [← hsb, ← htb] at h9
  rw [← hsb, ← htb]
  generalize (w3.alloc (.cells tab0.toArray 46)).alloc (.cells refs0.toArray 49) = w9 at h9 hG9 ⊢
  generalize w1.heap.size = lb at *
  have hlen0 : Hid ((lay14 n).size = (bank14 n).length) := Lib.hid (by simp [bank14])
  clear hsb htb hzR hL3 hB3 hR3 hz3 hG3 hzw hzl hF1z hpa
  go_wp2_with fail
  go_loopw [12, 37] (fun _ i wr => ∃ (k : Nat) (A : List Value), k ≤ 9 ∧ i = .int .i64 k ∧ TR n wr w.heap.size lb pb ab tb sb g3 A refs0 (bank14 n) (bank14 n) ∧ (∀ j, j < k → ArrL A (j * 17) 9 10 n ⟨0, 0, false⟩) ∧ Below w.heap.size w wr) (fun _ i _ => 9 - (intOf i).toNat)
  case atStart => exact ⟨0, tab0, Nat.zero_le _, rfl, h9, fun j hj => by omega, hG9⟩
  case round =>
    obtain ⟨k, A1, hk, rfl, hT, hAs, hB⟩ := hrel
    by_cases hk9 : k < 9
    · have HT := Lib.hid hT
      have HB := Lib.hid hB
      have HAS := Lib.hid hAs
      have hi0 : (0 : Int) ≤ (k : Int) := by omega
      have hi1 : (k : Int) < 9 := by omega
      clear hT hB hAs h9 hG9
      go_wp2_with (refine wl_load rfl rfl rfl (lay14 n).cells HT.out.lay Try.underlying28 rfl (by kernel_rfl) ?_)
      refine (NewArrive_any (lay14 n) _).mono ?_
      rintro e w4 ⟨rfl, hF4⟩
      have h4 := HT.out.fr0 hF4
      have hth := h4.tab.there (k * 17) 17 (by have := h4.lenA; omega)
      have H4 := Lib.hid h4
      have hG4 : Below w.heap.size w w4 := HB.out.trans (hF4.below (by simp) HB.out.size)
      have HG4 := Lib.hid hG4
      clear h4 hG4 hF4
      go_wp2_with fail
      rw [run_mid _ _ _ _ hth (by kernel_rfl)]
      have hge := H4.out.ge tb (by simp)
      have h5 := H4.out.setA (k * 17) (lay14 n).arr
      have hG5 : Below w.heap.size w (w4.setCells tb (k * 17) (lay14 n).arr) := HG4.out.trans ((Fr.setCells (S := [tb]) (by simp) (lay14 n).arr (k * 17) (Fr.refl _ _)).below (by simp; omega) HG4.out.size)
      have hl4 := H4.out.lenA
      go_wp2_with fail
      go_roundw
      case rel =>
        refine ⟨k + 1, putAt A1 (k * 17) (lay14 n).arr, by omega, by go_num, h5, fun j hj => ?_, hG5⟩
        by_cases hjk : j = k
        · subst hjk; exact ArrL.new _ _ (by omega)
        · exact (HAS.out j (by omega)).new_other (by omega) (by omega)
      case measure => simp [intOf]; omega
    · obtain rfl : k = 9 := by omega
      have hL : TL n 0 A1 refs0 (fun _ => ⟨0, 0, false⟩) (fun _ => ⟨0, 0, false, false⟩) (bank14 n) := ⟨hT.lenA, hT.lenB, vals_new n (by omega), fun j hj => ⟨hAs j hj, refs0_all j hj, rel_new, Nat.le_refl _⟩⟩
      have HT := Lib.hid hT
      have HB := Lib.hid hB
      have HL := Lib.hid hL
      rw [show ((9 : Nat) : Int) = 9 from rfl]
      clear hT hB hAs h9 hG9 hL
      go_upto_region 13 with (fail)
      go_cut [50, 51, 52] (fun s50 s51 s52 wx => ∃ (m c' : Nat), s50 = .slice A m c' ∧ s51 = .int .i64 m ∧ s52 = .int .i64 0 ∧ m ≤ 200 ∧ m ≤ len ∧ wx = wr)
      case first =>
        go_wp2_with fail
        all_goals
          go_meet
        · exact ⟨200, cap, rfl, by rfl, rfl, by omega, by omega, rfl⟩
        · exact ⟨len, cap, rfl, rfl, rfl, by omega, by omega, rfl⟩
      case rest =>
        obtain ⟨m, c', rfl, rfl, rfl, hm, hml, rfl⟩ := hcut
        go_wp2_with fail
        go_loopw [9, 14, 15, 52] (fun s9 _ _ i wr => ∃ (k g c : Nat) (A1 B1 : List Value) (xs : Nat → ArrS) (ys : Nat → RefS) (vals : List Int), k ≤ m ∧ i = .int .i64 k ∧ s9 = .slice (some ⟨g, 0, none⟩) (lay14 n).size c ∧ TR n wr w.heap.size lb pb ab tb sb g A1 B1 vals vals ∧ TL n k A1 B1 xs ys vals ∧ Below w.heap.size w wr) (fun _ _ _ i _ => m - (intOf i).toNat)
        case atStart => exact ⟨0, g3, d3, A1, refs0, _, _, bank14 n, Nat.zero_le _, rfl, rfl, HT.out, HL.out, HB.out⟩
        case round =>
          clear HT HB HL
          obtain ⟨k, g, c, A2, B2, xs, ys, vals, hk, rfl, rfl, hT, hL, hB⟩ := hrel
          have HT := Lib.hid hT
          have HB := Lib.hid hB
          have HL := Lib.hid hL
          by_cases hkm : k < m
          · obtain ⟨b, o, x, rfl, hb, hx, hx0, hx1⟩ := HR.out k (by omega)
            have hxr : wr.cell? ⟨b, o + k, none⟩ = some (.int .u8 x) := (hB.cell (p := ⟨b, o + k, none⟩) hb).trans hx
            obtain ⟨i, hxi, hi9⟩ : ∃ i : Nat, x % 9 = (i : Int) ∧ i < 9 := ⟨(x % 9).toNat, by omega, by omega⟩
            have HXI := Lib.hid hxi
            clear hT hL hB hx hxi
            go_upto_region 17 with (fail)
            rw [HXI.out]
            obtain ⟨gA, gR, gRel, gat⟩ := HL.out.at_ i hi9
            obtain ⟨hVl, cv, sv, hcv, hsv, hcv1, hcv2⟩ := HL.out.vals
            have hi0 : 0 ≤ (i : Int) := by omega
            have hi1 : (i : Int) < 9 := by omega
            obtain ⟨e1, e2, e3, e4, e5⟩ := rel_step gRel (wk := n) hcv hsv
            have hGo := HL.out.step (by omega) i hi9
            have hAg := fun x y => HL.out.again (by omega) i hi9 x y
            have hV7 := vals_step (by omega : n ≤ 64) HL.out.vals (xs i)
            have hcall := step14_size (c := c) gRel (by omega) n k (by omega) HL.out.vals (by omega) (HT.out.mem.fr (Fr.drew (Fr.refl [] wr)) (by simp))
            have hdis := HT.out.dis
            simp only [List.nodup_cons, List.mem_cons, List.not_mem_nil, not_or, or_false] at hdis
            have hcallA := fun W (h1 : Blk W tb A2 46) (h2 : Bank W pb ab vals) => Step_any gA gRel.nx h1 h2 (by omega) (by omega) cv sv hcv hsv (by omega) (by omega)
            obtain ⟨ra, hra⟩ : ∃ r, arrStep 9 10 n (xs i) vals = r := ⟨_, rfl⟩
            obtain ⟨rr, hrr⟩ : ∃ r, refStep 9 10 n (ys i) vals = r := ⟨_, rfl⟩
            rw [hra, hrr] at e1 e2 e3 hGo
            rw [hra] at hV7
            simp only [hra] at hcallA hAg
            rw [hrr] at hcall
            have hlay := HT.out.lay
            have hrg := HT.out.sab.range (i * 4) (ys i).cells gR.range
            have HE1 := Lib.hid e1
            have HE2 := Lib.hid e2
            have HE3 := Lib.hid e3
            have HGO := Lib.hid hGo
            have HAG := Lib.hid hAg
            have HV7 := Lib.hid hV7
            have HCA := Lib.hid hcallA
            have HGA := Lib.hid gA
            clear e1 e2 e3 e4 e5 hra hrr hGo hAg hV7 hcallA hdis hVl hcv hsv hcv1 hcv2 gRel gat gA gR hxr
            refine wr_begin [8] (fun W => W.rangeAt sb (i * 4) (ys i).cells ∧ Blk W lb (lay14 n).cells 28) (by kernel_rfl) (by exact ⟨hrg, hlay.drew⟩) ?_
            refine wr_pure 0 _ rfl (by kernel_rfl) (by kernel_rfl) (by kernel_rfl) (fun _ _ _ h => h) (by kernel_rfl) (by rfl) (fun _ => by go_simp; try with_reducible rfl) ?_
            try simp only [Act.put, List.setIfInBounds_toArray, List.set_cons_zero, List.set_cons_succ]
            refine wr_pure 1 _ rfl (by kernel_rfl) (by kernel_rfl) (by kernel_rfl) (fun _ _ _ h => h) (by kernel_rfl) (by rfl) (fun _ => by go_simp; try with_reducible rfl) ?_
            try simp only [Act.put, List.setIfInBounds_toArray, List.set_cons_zero, List.set_cons_succ]
            refine wr_pure 2 _ rfl (by kernel_rfl) (by kernel_rfl) (by kernel_rfl) (fun _ _ _ h => h) (by kernel_rfl) (by rfl) (fun _ => by go_simp; try with_reducible rfl) ?_
            try simp only [Act.put, List.setIfInBounds_toArray, List.set_cons_zero, List.set_cons_succ]
            refine wr_pure 3 _ rfl (by kernel_rfl) (by kernel_rfl) (by kernel_rfl) (fun _ _ _ h => h) (by kernel_rfl) (by rfl) (fun _ => by go_simp; try with_reducible rfl) ?_
            try simp only [Act.put, List.setIfInBounds_toArray, List.set_cons_zero, List.set_cons_succ]
            refine wr_pure 4 _ rfl (by kernel_rfl) (by kernel_rfl) (by kernel_rfl) (fun _ _ _ h => h) (by kernel_rfl) (by rfl) (fun _ => by go_simp; try with_reducible rfl) ?_
            try simp only [Act.put, List.setIfInBounds_toArray, List.set_cons_zero, List.set_cons_succ]
            refine wr_read 5 _ rfl (by kernel_rfl) (by kernel_rfl) (by kernel_rfl) (fun _ _ _ h => h) (by kernel_rfl) (by kernel_rfl) (by rfl) (fun _ hF => exec_load_mid (g := sb) (off := i * 4) (cs := (ys i).cells) rfl rfl hF.1 Try.underlying49 rfl (by kernel_rfl)) ?_
            try simp only [Act.put, List.setIfInBounds_toArray, List.set_cons_zero, List.set_cons_succ]
            refine wr_read 6 _ rfl (by kernel_rfl) (by kernel_rfl) (by kernel_rfl) (fun _ _ _ h => h) (by kernel_rfl) (by kernel_rfl) (by rfl) (fun _ hF => exec_load_row rfl rfl hF.2 Try.underlying28 rfl (by kernel_rfl)) ?_
            try simp only [Act.put, List.setIfInBounds_toArray, List.set_cons_zero, List.set_cons_succ]
            refine wr_pure 7 _ rfl (by kernel_rfl) (by kernel_rfl) (by kernel_rfl) (fun _ _ _ h => h) (by kernel_rfl) (by rfl) (fun _ => by go_simp; try with_reducible rfl) ?_
            try simp only [Act.put, List.setIfInBounds_toArray, List.set_cons_zero, List.set_cons_succ]
            refine wr_do 8 rfl (by kernel_rfl) (by rfl) (fun K hK => ?_)
            refine wp_call (f := 13) (args := #[.agg (ys i).cells.toArray, .agg (lay14 n).cells.toArray, .slice (some ⟨g, 0, none⟩) (lay14 n).size c]) (by kernel_rfl) hcall ?_
            rintro e w5 ⟨g5, d5, rfl, hR5, hg5, hF5⟩
            have h5 := (HT.out.fr0 (Fr.drew (Fr.refl [] wr))).refd hF5 hR5 hg5
            have hth5 := h5.sab.there (i * 4) 4 (by have := h5.lenB; omega)
            refine ⟨_, rfl, hK _ _ ⟨Still.off 8 (by kernel_rfl) (by kernel_rfl), ?_⟩⟩
            try simp only [Act.put, List.setIfInBounds_toArray, List.set_cons_zero, List.set_cons_succ]
            refine wr_pure 9 _ rfl (by kernel_rfl) (by kernel_rfl) (by kernel_rfl) (fun _ _ _ h => h) (by kernel_rfl) (by rfl) (fun _ => by go_simp; try with_reducible rfl) ?_
            try simp only [Act.put, List.setIfInBounds_toArray, List.set_cons_zero, List.set_cons_succ]
            refine wr_pure 10 _ rfl (by kernel_rfl) (by kernel_rfl) (by kernel_rfl) (fun _ _ _ h => h) (by kernel_rfl) (by rfl) (fun _ => by go_simp; try with_reducible rfl) ?_
            try simp only [Act.put, List.setIfInBounds_toArray, List.set_cons_zero, List.set_cons_succ]
            refine wr_pure 11 _ rfl (by kernel_rfl) (by kernel_rfl) (by kernel_rfl) (fun _ _ _ h => h) (by kernel_rfl) (by rfl) (fun _ => by go_simp; try with_reducible rfl) ?_
            try simp only [Act.put, List.setIfInBounds_toArray, List.set_cons_zero, List.set_cons_succ]
            refine wr_pure 12 _ rfl (by kernel_rfl) (by kernel_rfl) (by kernel_rfl) (fun _ _ _ h => h) (by kernel_rfl) (by rfl) (fun _ => by go_simp; try with_reducible rfl) ?_
            try simp only [Act.put, List.setIfInBounds_toArray, List.set_cons_zero, List.set_cons_succ]
            refine wr_do 13 rfl (by kernel_rfl) (by rfl) (fun K hK => ?_)
            refine wp_store_mid _ _ _ rfl sb (i * 4) rr.1.cells.toArray rfl rfl hth5 (by kernel_rfl) (by kernel_rfl) ?_
            refine hK _ _ ⟨Still.off 8 (by kernel_rfl) (by kernel_rfl), ?_⟩
            try simp only [Act.put, List.setIfInBounds_toArray, List.set_cons_zero, List.set_cons_succ]
            refine wr_pure 14 _ rfl (by kernel_rfl) (by kernel_rfl) (by kernel_rfl) (fun _ _ _ h => h) (by kernel_rfl) (by rfl) (fun _ => by go_simp; try with_reducible rfl) ?_
            try simp only [Act.put, List.setIfInBounds_toArray, List.set_cons_zero, List.set_cons_succ]
            refine wr_done (by kernel_rfl) ?_ _
            have hge := HT.out.ge
            have hlB := HT.out.lenB
            have h6 : TR n (w5.setCells sb (i * 4) rr.1.cells.toArray.toList) w.heap.size lb pb ab tb sb g5 A2 (putAt B2 (i * 4) rr.1.cells) vals rr.2 := h5.setB (i * 4) rr.1.cells
            have hG6 : Below w.heap.size w (w5.setCells sb (i * 4) rr.1.cells.toArray.toList) := HB.out.trans ((Fr.setCells (S := [sb]) (by simp) rr.1.cells (i * 4) (((Fr.drew (Fr.refl [] wr)).trans hF5).more (by simp))).below (by have := hge sb (by simp); simp; omega) HB.out.size)
            generalize w5.setCells sb (i * 4) rr.1.cells.toArray.toList = w6 at h6 hG6 ⊢
            have H6 := Lib.hid h6
            have HG6 := Lib.hid hG6
            have HGE := Lib.hid hge
            have hRL := RefL.put (B := B2) (i * 4) rr.1 (by omega)
            have k3 := h6.sab.cell hRL.2.2.2
            have k2 := h6.sab.cell hRL.2.2.1
            rw [HE2.out] at k2
            have HRL := Lib.hid hRL
            obtain ⟨db, hdb⟩ : ∃ db, rr.1.done = db := ⟨_, rfl⟩
            obtain ⟨lt, hlt⟩ : ∃ lt, ra.1.lst = lt := ⟨_, rfl⟩
            rw [hdb] at k3
            rw [hlt] at k2
            have HDB := Lib.hid hdb
            have HLT := Lib.hid hlt
            clear h6 hG6 hge hRL h5 hth5 hF5 hR5 hg5 hcall hrg hlay hdb hlt
            go_upto_region 18 with (fail)
            refine wr_begin [25] (fun W => W.cell? ⟨sb, i * 4 + 3, none⟩ = some (.bool db) ∧ W.cell? ⟨sb, i * 4 + 2, none⟩ = some (.bool lt)) (by kernel_rfl) (by exact ⟨k3, k2⟩) ?_
            refine wr_pure 0 _ rfl (by kernel_rfl) (by kernel_rfl) (by kernel_rfl) (fun _ _ _ h => h) (by kernel_rfl) (by rfl) (fun _ => by go_simp; try with_reducible rfl) ?_
            try simp only [Act.put, List.setIfInBounds_toArray, List.set_cons_zero, List.set_cons_succ]
            refine wr_pure 1 _ rfl (by kernel_rfl) (by kernel_rfl) (by kernel_rfl) (fun _ _ _ h => h) (by kernel_rfl) (by rfl) (fun _ => by go_simp; try with_reducible rfl) ?_
            try simp only [Act.put, List.setIfInBounds_toArray, List.set_cons_zero, List.set_cons_succ]
            refine wr_pure 2 _ rfl (by kernel_rfl) (by kernel_rfl) (by kernel_rfl) (fun _ _ _ h => h) (by kernel_rfl) (by rfl) (fun _ => by go_simp; try with_reducible rfl) ?_
            try simp only [Act.put, List.setIfInBounds_toArray, List.set_cons_zero, List.set_cons_succ]
            refine wr_pure 3 _ rfl (by kernel_rfl) (by kernel_rfl) (by kernel_rfl) (fun _ _ _ h => h) (by kernel_rfl) (by rfl) (fun _ => by go_simp; try with_reducible rfl) ?_
            try simp only [Act.put, List.setIfInBounds_toArray, List.set_cons_zero, List.set_cons_succ]
            refine wr_pure 5 _ rfl (by kernel_rfl) (by kernel_rfl) (by kernel_rfl) (fun _ _ _ h => h) (by kernel_rfl) (by rfl) (fun _ => by go_simp; try with_reducible rfl) ?_
            try simp only [Act.put, List.setIfInBounds_toArray, List.set_cons_zero, List.set_cons_succ]
            refine wr_pure 6 _ rfl (by kernel_rfl) (by kernel_rfl) (by kernel_rfl) (fun _ _ _ h => h) (by kernel_rfl) (by rfl) (fun _ => by go_simp; try with_reducible rfl) ?_
            try simp only [Act.put, List.setIfInBounds_toArray, List.set_cons_zero, List.set_cons_succ]
            refine wr_pure 7 _ rfl (by kernel_rfl) (by kernel_rfl) (by kernel_rfl) (fun _ _ _ h => h) (by kernel_rfl) (by rfl) (fun _ => by go_simp; try with_reducible rfl) ?_
            try simp only [Act.put, List.setIfInBounds_toArray, List.set_cons_zero, List.set_cons_succ]
            refine wr_pure 8 _ rfl (by kernel_rfl) (by kernel_rfl) (by kernel_rfl) (fun _ _ _ h => h) (by kernel_rfl) (by rfl) (fun _ => by go_simp; try with_reducible rfl) ?_
            try simp only [Act.put, List.setIfInBounds_toArray, List.set_cons_zero, List.set_cons_succ]
            refine wr_read 9 _ rfl (by kernel_rfl) (by kernel_rfl) (by kernel_rfl) (fun _ _ _ h => h) (by kernel_rfl) (by kernel_rfl) (by rfl) (fun _ hF => by have hF1 := hF.1; clear hF; go_simp; try with_reducible rfl) ?_
            try simp only [Act.put, List.setIfInBounds_toArray, List.set_cons_zero, List.set_cons_succ]
            refine wr_do 4 rfl (by kernel_rfl) (by rfl) (fun K hK => ?_)
            refine wp_call (f := 14) (args := #[.pointer (some ⟨tb, i * 17, none⟩), .pointer (some ⟨pb, 0, none⟩)]) (by kernel_rfl) (HCA.out w6.drew H6.out.tab.drew H6.out.bank.drew) ?_
            rintro e w7 ⟨he, hA7, hB7, hF7⟩
            rw [← HE3.out, HDB.out] at he
            rw [HE1.out] at hB7
            have h7 := (H6.out.fr0 (Fr.drew (Fr.refl [] w6))).stepped hF7 hA7 hB7 (by rw [putArr_len]; exact H6.out.lenA)
            have m3 := h7.sab.cell HRL.out.2.2.2
            have m2 := h7.sab.cell HRL.out.2.2.1
            rw [HE2.out, HLT.out] at m2
            rw [HDB.out] at m3
            have hG7 : Below w.heap.size w w7 := HG6.out.trans ((((Fr.drew (Fr.refl [tb, ab] w6))).trans hF7).below (by have := HGE.out tb (by simp); have := HGE.out ab (by simp); simp; omega) HG6.out.size)
            have H7 := Lib.hid h7
            have HG7 := Lib.hid hG7
            refine ⟨_, he, hK _ _ ⟨fun _ => ⟨m3, m2⟩, ?_⟩⟩
            clear he hA7 hB7 hF7 h7 hG7
            try simp only [Act.put, List.setIfInBounds_toArray, List.set_cons_zero, List.set_cons_succ]
            refine wr_pure 10 _ rfl (by kernel_rfl) (by kernel_rfl) (by kernel_rfl) (fun _ _ _ h => h) (by kernel_rfl) (by rfl) (fun _ => by go_simp; try with_reducible rfl) ?_
            try simp only [Act.put, List.setIfInBounds_toArray, List.set_cons_zero, List.set_cons_succ]
            refine wr_pure 11 _ rfl (by kernel_rfl) (by kernel_rfl) (by kernel_rfl) (fun _ _ _ h => h) (by kernel_rfl) (by rfl) (fun _ => by go_simp; try with_reducible rfl) ?_
            try simp only [Act.put, List.setIfInBounds_toArray, List.set_cons_zero, List.set_cons_succ]
            refine wr_pure 12 _ rfl (by kernel_rfl) (by kernel_rfl) (by kernel_rfl) (fun _ _ _ h => h) (by kernel_rfl) (by rfl) (fun _ => by go_simp; try with_reducible rfl) ?_
            try simp only [Act.put, List.setIfInBounds_toArray, List.set_cons_zero, List.set_cons_succ]
            refine wr_pure 13 _ rfl (by kernel_rfl) (by kernel_rfl) (by kernel_rfl) (fun _ _ _ h => h) (by kernel_rfl) (by rfl) (fun _ => by go_simp; try with_reducible rfl) ?_
            try simp only [Act.put, List.setIfInBounds_toArray, List.set_cons_zero, List.set_cons_succ]
            refine wr_pure 14 _ rfl (by kernel_rfl) (by kernel_rfl) (by kernel_rfl) (fun _ _ _ h => h) (by kernel_rfl) (by rfl) (fun _ => by go_simp; try with_reducible rfl) ?_
            try simp only [Act.put, List.setIfInBounds_toArray, List.set_cons_zero, List.set_cons_succ]
            refine wr_pure 16 _ rfl (by kernel_rfl) (by kernel_rfl) (by kernel_rfl) (fun _ _ _ h => h) (by kernel_rfl) (by rfl) (fun _ => by go_simp; try with_reducible rfl) ?_
            try simp only [Act.put, List.setIfInBounds_toArray, List.set_cons_zero, List.set_cons_succ]
            refine wr_pure 17 _ rfl (by kernel_rfl) (by kernel_rfl) (by kernel_rfl) (fun _ _ _ h => h) (by kernel_rfl) (by rfl) (fun _ => by go_simp; try with_reducible rfl) ?_
            try simp only [Act.put, List.setIfInBounds_toArray, List.set_cons_zero, List.set_cons_succ]
            refine wr_pure 18 _ rfl (by kernel_rfl) (by kernel_rfl) (by kernel_rfl) (fun _ _ _ h => h) (by kernel_rfl) (by rfl) (fun _ => by go_simp; try with_reducible rfl) ?_
            try simp only [Act.put, List.setIfInBounds_toArray, List.set_cons_zero, List.set_cons_succ]
            refine wr_pure 19 _ rfl (by kernel_rfl) (by kernel_rfl) (by kernel_rfl) (fun _ _ _ h => h) (by kernel_rfl) (by rfl) (fun _ => by go_simp; try with_reducible rfl) ?_
            try simp only [Act.put, List.setIfInBounds_toArray, List.set_cons_zero, List.set_cons_succ]
            refine wr_read 20 _ rfl (by kernel_rfl) (by kernel_rfl) (by kernel_rfl) (fun _ _ _ h => h) (by kernel_rfl) (by kernel_rfl) (by rfl) (fun _ hF => by have hF1 := hF.2; clear hF; go_simp; try with_reducible rfl) ?_
            try simp only [Act.put, List.setIfInBounds_toArray, List.set_cons_zero, List.set_cons_succ]
            refine wr_do 15 rfl (by kernel_rfl) (by rfl) (fun K hK => ?_)
            refine wp_call (f := 15) (args := #[.pointer (some ⟨tb, i * 17, none⟩)]) (by kernel_rfl) (Last_any (HGA.out.put ra.1) H7.out.tab) ?_
            rintro e w8 ⟨he, rfl⟩
            rw [HLT.out] at he
            refine ⟨_, he, hK _ _ ⟨fun _ => ⟨m3, m2⟩, ?_⟩⟩
            clear he
            try simp only [Act.put, List.setIfInBounds_toArray, List.set_cons_zero, List.set_cons_succ]
            refine wr_pure 21 _ rfl (by kernel_rfl) (by kernel_rfl) (by kernel_rfl) (fun _ _ _ h => h) (by kernel_rfl) (by rfl) (fun _ => by go_simp; try with_reducible rfl) ?_
            try simp only [Act.put, List.setIfInBounds_toArray, List.set_cons_zero, List.set_cons_succ]
            refine wr_pure 22 _ rfl (by kernel_rfl) (by kernel_rfl) (by kernel_rfl) (fun _ _ _ h => h) (by kernel_rfl) (by rfl) (fun _ => by go_simp; try with_reducible rfl) ?_
            try simp only [Act.put, List.setIfInBounds_toArray, List.set_cons_zero, List.set_cons_succ]
            refine wr_pure 23 _ rfl (by kernel_rfl) (by kernel_rfl) (by kernel_rfl) (fun _ _ _ h => h) (by kernel_rfl) (by rfl) (fun _ => by go_simp; try with_reducible rfl) ?_
            try simp only [Act.put, List.setIfInBounds_toArray, List.set_cons_zero, List.set_cons_succ]
            refine wr_pure 24 _ rfl (by kernel_rfl) (by kernel_rfl) (by kernel_rfl) (fun _ _ _ h => h) (by kernel_rfl) (by rfl) (fun _ => by go_simp; try with_reducible rfl) ?_
            try simp only [Act.put, List.setIfInBounds_toArray, List.set_cons_zero, List.set_cons_succ]
            refine wr_pure 26 _ rfl (by kernel_rfl) (by kernel_rfl) (by kernel_rfl) (fun _ _ _ h => h) (by kernel_rfl) (by rfl) (fun _ => by go_simp; try with_reducible rfl) ?_
            try simp only [Act.put, List.setIfInBounds_toArray, List.set_cons_zero, List.set_cons_succ]
            refine wr_do 25 rfl (by kernel_rfl) (by rfl) (fun K hK => ?_)
            refine wp_call (f := 17) (args := #[.pointer (some ⟨pb, 0, none⟩)]) (by kernel_rfl) (all_size (HE1.out ▸ HV7.out) (by omega) H7.out.bank) ?_
            rintro e w9 ⟨rfl, hR9, hF9⟩
            refine ⟨_, rfl, hK _ _ ⟨Still.off 25 (by kernel_rfl) (by kernel_rfl), ?_⟩⟩
            try simp only [Act.put, List.setIfInBounds_toArray, List.set_cons_zero, List.set_cons_succ]
            refine wr_do 27 rfl (by kernel_rfl) (by rfl) (fun K hK => ?_)
            refine wp_call (f := 16) (args := #[.slice (some ⟨w7.heap.size, 0, none⟩) (lay14 n).size (lay14 n).size, .slice (some ⟨g5, 0, none⟩) (lay14 n).size d5]) (by kernel_rfl) (same_size (HE1.out ▸ HV7.out) (by omega) hR9 (H7.out.mem.fr hF9 (by simp))) ?_
            rintro e w10 ⟨rfl, hF10⟩
            refine ⟨_, rfl, hK _ _ ⟨Still.off 25 (by kernel_rfl) (by kernel_rfl), ?_⟩⟩
            try simp only [Act.put, List.setIfInBounds_toArray, List.set_cons_zero, List.set_cons_succ]
            refine wr_pure 28 _ rfl (by kernel_rfl) (by kernel_rfl) (by kernel_rfl) (fun _ _ _ h => h) (by kernel_rfl) (by rfl) (fun _ => by go_simp; try with_reducible rfl) ?_
            try simp only [Act.put, List.setIfInBounds_toArray, List.set_cons_zero, List.set_cons_succ]
            refine wr_pure 29 _ rfl (by kernel_rfl) (by kernel_rfl) (by kernel_rfl) (fun _ _ _ h => h) (by kernel_rfl) (by rfl) (fun _ => by go_simp; try with_reducible rfl) ?_
            try simp only [Act.put, List.setIfInBounds_toArray, List.set_cons_zero, List.set_cons_succ]
            refine wr_done (by kernel_rfl) ?_ _
            have h10 := H7.out.fr0 (hF9.trans hF10)
            have hG10 : Below w.heap.size w w10 := HG7.out.trans ((hF9.trans hF10).below (by simp) HG7.out.size)
            have m3' := h10.sab.cell HRL.out.2.2.2
            rw [HDB.out] at m3'
            have H10 := Lib.hid h10
            have HG10 := Lib.hid hG10
            clear h10 hG10 hF9 hF10 hR9 m3 m2 k3 k2
            have hgeT := HGE.out tb (by simp)
            have hgeS := HGE.out sb (by simp)
            cases db with
            | false =>
              go_wp2_with fail
              go_roundw
              case rel => exact ⟨k + 1, g5, d5, putArr A2 (i * 17) ra.1, putAt B2 (i * 4) rr.1.cells, _, _, rr.2, by omega, by go_num, rfl, H10.out, HE1.out ▸ HGO.out HDB.out, HG10.out⟩
              case measure => simp [intOf]; omega
            | true =>
              go_wp2_with (refine wl_load rfl rfl rfl (lay14 n).cells H10.out.lay Try.underlying28 rfl (by kernel_rfl) ?_)
              refine (NewArrive_any (lay14 n) _).mono ?_
              rintro e w11 ⟨rfl, hF11⟩
              have h11 := H10.out.fr0 hF11
              have hG11 : Below w.heap.size w w11 := HG10.out.trans (hF11.below (by simp) HG10.out.size)
              have hth := h11.tab.there (i * 17) 17 (by have := h11.lenA; omega)
              have H11 := Lib.hid h11
              have HG11 := Lib.hid hG11
              clear h11 hG11 hF11 m3'
              go_wp2_with fail
              rw [run_mid _ _ _ _ hth (by kernel_rfl)]
              have h12 := H11.out.setA (i * 17) (lay14 n).arr
              have hG12 : Below w.heap.size w (w11.setCells tb (i * 17) (lay14 n).arr) := HG11.out.trans ((Fr.setCells (S := [tb]) (by simp) (lay14 n).arr (i * 17) (Fr.refl _ _)).below (by simp; omega) HG11.out.size)
              generalize w11.setCells tb (i * 17) (lay14 n).arr = w12 at h12 hG12 ⊢
              have hth2 := h12.sab.there (i * 4) 4 (by have := h12.lenB; omega)
              have H12 := Lib.hid h12
              have HG12 := Lib.hid hG12
              clear h12 hG12 hth
              go_wp2_with (refine wpList_store_mid rfl 49 (.tmp 115) (.tmp 113) rfl sb (i * 4) (RefS.mk 0 0 false false).cells.toArray rfl rfl hth2 (by kernel_rfl) (by kernel_rfl) ?_)
              have h13 := H12.out.setB (i * 4) (RefS.mk 0 0 false false).cells
              have hG13 : Below w.heap.size w (w12.setCells sb (i * 4) (RefS.mk 0 0 false false).cells) := HG12.out.trans ((Fr.setCells (S := [sb]) (by simp) (RefS.mk 0 0 false false).cells (i * 4) (Fr.refl _ _)).below (by simp; omega) HG12.out.size)
              go_wp2_with fail
              go_roundw
              case rel => exact ⟨k + 1, g5, d5, _, _, _, _, rr.2, by omega, by go_num, rfl, h13, HE1.out ▸ HAG.out ra.1 rr.1, hG13⟩
              case measure => simp [intOf]; omega
          · clear hT hL hB
            go_wp2_with fail
            refine (awake_any _).mono ?_
            rintro e w8 ⟨rfl, hB8⟩
            have hB10 : Below w.heap.size w w8 := HB.out.trans ⟨hB8.os, hB8.tape, hB8.output, hB8.size, fun q hq => hB8.block q (Nat.lt_of_lt_of_le hq HB.out.size)⟩
            go_wp2_with fail
            go_ret
            exact ⟨rfl, hB10⟩

theorem tells_walk (a0 : Int) (a1 : Option Addr) (len1 cap1 : Nat) (z1 : List Int) (w : World) (w0 : (Lit.int .u8 a0).wf = true) (w1 : IsRow .u8 w a1 len1 cap1 z1) :
    Calls Try.prog 5 #[.int .u8 a0, .slice a1 len1 cap1] w fun e w' => e = .returned (.bool true) ∧ Below w.heap.size w w' := by
  have h7 : (0 : Int) ≤ a0 ∧ a0 ≤ 255 := by simpa [Lit.wf, IntKind.min, IntKind.max, IntKind.signed, IntKind.bits] using w0
  obtain ⟨h1, h2, h3⟩ := bytes_of w1
  exact tells_any a0 h7.1 h7.2 a1 len1 cap1 h3 h2 w h1
end Acq
