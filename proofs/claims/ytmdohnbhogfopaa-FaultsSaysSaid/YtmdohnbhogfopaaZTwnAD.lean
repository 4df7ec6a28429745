/- Several texts, one behind the other: TwnA TwnB TwnC TwnD. -/
import Derived.Test.YtmdohnbhogfopaaZBigFH
import Derived.Laws.OwnMore
import Derived.Test.YtmdohnbhogfopaaZAskFK
/- The twin of a row: in new memory, with two marks behind. -/
namespace Go.Proofs.Ytmdohnbhogfopaa
open Go.RowKit
set_option linter.unusedSimpArgs false
set_option linter.unusedVariables false
set_option maxRecDepth 100000
def markC : List Value := zeroC.set 0 (.int .i64 (-77))
def markL : List Value := .bool false :: markC
theorem markL_length : markL.length = 56 := rfl
theorem markL_one : ∀ u ∈ markL, u.oneCell' = true := List.all_eq_true.1 (by kernel_rfl : markL.all (·.oneCell') = true)
theorem built_markC : Try.prog.built 94 [(0, .int .i64 (-77))] = some markC.toArray := by kernel_rfl
theorem built_mark : Try.prog.built 163 [(1, .agg markC.toArray)] = some markL.toArray := by kernel_rfl
section
variable {P : Program} {o : Oper} {a : Act} {w w' : World}
theorem ex_append (s x : Operand) (t : TypeId) (ho : o.op = .call { callee := .builtin .append, args := #[s, x], argTypes := #[t, t] }) (ty : TypeId) (hty : o.type = ty) (vs vx v : Value) (hs : a.eval s = vs) (hx : a.eval x = vx)
    (hr : (Builtin.append_ #[t, t] ty #[vs, vx]).run P w = .ok v w') : (execOp a.eval o).run P w = .ok (.value v) w' := by
  subst hty
  unfold execOp
  simp only [ho, resolve, invoke, builtin, Sem.run_bind, Sem.run_pure, Result.andThen_ok, List.map_toArray, List.map_cons, List.map_nil, hs, hx, hr]
theorem ex_make (t : TypeId) (x y : Operand) (ho : o.op = .makeSlice t x y) (vx vy v : Value) (hx : a.eval x = vx) (hy : a.eval y = vy) (hr : (Instr.makeSlice t vx vy).run P w = .ok v w') : (execOp a.eval o).run P w = .ok (.value v) w' := by
  unfold execOp
  simp only [ho, hx, hy, Sem.run_bind, hr, Result.andThen_ok, Sem.run_pure]
theorem ex_buildSlice2 (t e : TypeId) (x y : Operand) (ho : o.op = .buildSlice t 2 #[(0, x), (1, y)]) (ie : TypeInfo) (z : Value) (A B : List Value) (hu : P.underlying t = some (.slice e)) (hie : P.info? e = some ie) (hz : ie.zero = some z)
    (hA : A.length = ie.size) (hB : B.length = ie.size) (hp : 0 < ie.size) (hs : ie.size ≤ 1000) (hx : a.eval x = .agg A.toArray) (hy : a.eval y = .agg B.toArray) : (execOp a.eval o).run P w = .ok (.value (.slice (some ⟨w.heap.size, 0, none⟩) 2 2)) (w.alloc (.cells (A ++ B).toArray e)) := by
  have eA : (Value.agg A.toArray).cells = A.toArray := rfl
  have eB : (Value.agg B.toArray).cells = B.toArray := rfl
  have hf : Instr.fill (fun i => some (i * ie.size, ie.size)) ((Array.range (2 * ie.size)).map (z.cells[· % z.cells.size]!)) [(0, Value.agg A.toArray), (1, Value.agg B.toArray)] = some (A ++ B).toArray := by
    rw [fill_one (off := 0) (size := ie.size) (by simp) (by rw [eA]; simpa using hA) (by simp; omega), eA]
    rw [fill_one (off := ie.size) (size := ie.size) (by simp) (by rw [eB]; simpa using hB) (by simp [hA]; omega), eB]
    simp only [Instr.fill]
    congr 1
    apply Array.ext'
    simp only [List.take_zero, List.nil_append]
    rw [List.take_append_of_le_length (by simp [hA]), List.take_of_length_le (by simp [hA]), List.drop_eq_nil_of_le (by simp [hA]; omega)]
    simp
  unfold execOp
  simp only [ho, Sem.run_bind]
  rw [run_buildSlice w t e 2 _ (A ++ B).toArray ie z hu hie hz (by omega) (by omega) (by simpa [hx, hy] using hf)]
  rfl
end
/-- A table is laid behind an empty list that has room. -/
theorem run_append_tab (w : World) (lo : Nat) (tv : Value) (Ts : List (List Value)) (ht : TabAt 0 w tv Ts) (hk : ∀ t ∈ Ts, HeldOk t) (g cap : Nat) (hown : w.ownsRow lo 163 56 (.slice (some ⟨g, 0, none⟩) 0 cap) 0 []) (hroom : Ts.length ≤ cap) :
    ∃ w', (Builtin.append_ #[95, 95] 95 #[.slice (some ⟨g, 0, none⟩) 0 cap, tv]).run Try.prog w = .ok (.slice (some ⟨g, 0, none⟩) Ts.length cap) w' ∧ w'.ownsRow lo 163 56 (.slice (some ⟨g, 0, none⟩) Ts.length cap) Ts.length Ts.flatten ∧ w.grownBy w' (some g) := by
  obtain ⟨i1, z1, hi1, hy0, hy1, hy2, hy3, -⟩ := heldInfo
  rcases ht with ⟨rfl, rfl⟩ | ⟨ad, c, rfl, h1, h2, -, h3⟩
  · exact ⟨w, run_append_owned_none w lo _ _ 163 i1 56 Try.underlying95 hi1 _ 0 [] hown, hown, ⟨rfl, rfl, rfl, Nat.le_refl _, fun _ _ _ => rfl⟩⟩
  · obtain ⟨w', hr, ho, hg⟩ := run_append_fits w lo 95 95 163 i1 56 Try.underlying95 hi1 hy1 g 0 cap [] hown ad Ts.length c Ts.flatten (flat_length hk) h3 (flat_one hk) (by omega)
    simp only [Nat.zero_add, List.nil_append] at hr ho
    exact ⟨w', hr, ho, hg⟩
/-- The table of a twin. -/
def TwinTab (lo : Nat) (w : World) (v : Value) (Ts : List (List Value)) : Prop :=
  ∃ g, v = .slice (some ⟨g, 0, none⟩) Ts.length (Ts.length + 2) ∧ w.ownsRow lo 163 56 (.slice (some ⟨g, 0, none⟩) (Ts.length + 2) (Ts.length + 2)) (Ts.length + 2) (Ts.flatten ++ (markL ++ markL))
set_option maxHeartbeats 2000000 in
theorem twinR (w : World) (r : RowC) (tv : Value) (ht : TabAt 0 w tv r.tab) (hk : RowOk r) (hn : r.tab.length ≤ 1000000) :
    Calls Try.prog 78 #[.agg (r.hd ++ [tv]).toArray] w fun e w' => ∃ tv', e = .returned (.agg (r.hd ++ [tv']).toArray) ∧ TwinTab w.heap.size w' tv' r.tab ∧ Below w.heap.size w w' := by
  obtain ⟨i0, z0, hi, hz0, hz1, hz2, hz3, -⟩ := rowInfo
  obtain ⟨i1, z1, hi1, hy0, hy1, hy2, hy3, -⟩ := heldInfo
  obtain ⟨d0, hd0, hd1⟩ := rowRow
  obtain ⟨d1, he0, he1⟩ := heldRow
  have hl := hk.hd.length
  have hone : ∀ v', (∃ a n c, v' = Value.slice a n c) → (r.hd ++ [v']).toArray.all (·.oneCell') = true := fun v' hv' => by
    apply all_oneCell_toArray
    intro u hu
    rcases List.mem_append.1 hu with hu | hu
    · exact Fits.one hk.hd u hu
    · simp at hu
      obtain ⟨a, n, c, rfl⟩ := hv'
      subst hu
      rfl
  have hsz : ∀ v', (r.hd ++ [v']).toArray.size = 57 := fun v' => by simp [hl]
  have hX : (r.hd ++ [tv]).toArray[56]? = some tv := by simp [hl]
  have hset : ∀ v', (r.hd ++ [tv]).toArray.setIfInBounds 56 v' = (r.hd ++ [v']).toArray := fun v' => set_last hl
  have hXs := hsz tv
  obtain ⟨ao, n, cap, hnT, rfl⟩ : ∃ ao n cap, n = r.tab.length ∧ tv = .slice ao n cap := by
    rcases ht with ⟨rfl, h⟩ | ⟨ad, cap, rfl, _⟩
    · exact ⟨_, _, _, by rw [h]; rfl, rfl⟩
    · exact ⟨_, _, _, rfl, rfl⟩
  obtain ⟨m, hm⟩ : ∃ m : Nat, m = n + 2 := ⟨_, rfl⟩
  have gm : IntKind.i64.wrap ((n : Int) + 2) = (m : Int) := by rw [wrap_i64_small _ (by omega) (by omega)]; omega
  replace hone := Lib.hid hone
  replace hsz := Lib.hid hsz
  replace hset := Lib.hid hset
  replace ht := Lib.hid ht
  replace hk := Lib.hid hk
  replace hnT := Lib.hid hnT
  rw [← hnT.out] at hn
  replace hm := Lib.hid hm
  generalize hXe : (r.hd ++ [Value.slice ao n cap]).toArray = X at *
  replace hXe := Lib.hid hXe
  replace hX := Lib.hid hX
  go_enter Try.func78, Try.ntmps78
  go_upto_region 1 with (first | refine wpList_val rfl (ex_box 97 (.tmp 0) rfl X rfl) ?_ | refine wpList_val rfl (ex_alloc 97 rfl i0 z0 hi hz0) ?_ | fail)
  have hb1 : Below w.heap.size w ((w.alloc (.cells X 97)).alloc (.cells z0.cells 97)) := (below_alloc _ _).trans ((below_alloc _ _).mono (by simp))
  have k0 : Blk ((w.alloc (.cells X 97)).alloc (.cells z0.cells 97)) w.heap.size X 97 := (Blk.new w _ _).alloc _
  have k1 : Blk ((w.alloc (.cells X 97)).alloc (.cells z0.cells 97)) (w.heap.size + 1) z0.cells 97 := by
    have := Blk.new (w.alloc (.cells X 97)) z0.cells 97
    simpa using this
  replace hb1 := Lib.hid hb1
  generalize (w.alloc (.cells X 97)).alloc (.cells z0.cells 97) = w1 at *
  have c56 : w1.cell? ⟨w.heap.size, 56, none⟩ = some (.slice ao n cap) := k0.cell hX.out
  have lt0 := k0.lt
  replace k0 := Lib.hid k0
  replace k1 := Lib.hid k1
  have hm' := hm.out
  obtain ⟨w2, hr2, hown2, hg2⟩ := run_make_own (P := Try.prog) w1 w.heap.size 95 163 i1 z1 56 Try.underlying95 hi1 hy0 hy1 .i64 .i64 m (by rw [hy2]; omega) (by unfold maxLen; omega) hb1.out.size
  have hb2 : Below w1.heap.size w1 w2 := ⟨hg2.os, hg2.tape, hg2.output, hg2.size, fun k hk => hg2.block k hk (by simp)⟩
  have lt1 := k1.out.lt
  have lt0g : w.heap.size < w1.heap.size := lt0
  have lt1g : w.heap.size + 1 < w1.heap.size := lt1
  clear lt1
  generalize hge : w1.heap.size = g at *
  replace hg2 := Lib.hid hg2
  replace hown2 := Lib.hid hown2
  replace hb2 := Lib.hid hb2
  clear hm'
  go_upto_region 2 with (first | refine wpList_val rfl (ex_make 95 (.const (.int .i64 0)) (.tmp 8) rfl (.int .i64 0) (.int .i64 m) _ rfl rfl hr2) ?_ | fail)
  -- region 2
  have hbw2 : Below w.heap.size w w2 := hb1.out.trans (hb2.out.mono (Nat.le_of_lt lt0g))
  have k02 := k0.out.below hb2.out lt0g
  have k12 := k1.out.below hb2.out lt1g
  obtain ⟨w3, hr3, hown3, hg3⟩ := run_append_tab w2 w.heap.size (.slice ao n cap) r.tab (ht.out.keep (KeepC.of_below hbw2)) hk.out.tab g m hown2.out (by have := hm.out; have := hnT.out; omega)
  rw [← hnT.out] at hr3 hown3
  have hbw3 : Below w.heap.size w w3 := Below.grown hbw2 hg3 hbw2.size (fun k hk => by
    simp at hk
    subst hk
    exact Nat.le_of_lt lt0g)
  have hgne : ∀ b c U, Blk w2 b c U → b < g → Blk w3 b c U := fun b c U hb hlt => (hg3.block b hb.lt (by simp; omega)).trans hb
  have k03 := hgne _ _ _ k02 lt0g
  have k13 := hgne _ _ _ k12 lt1g
  have c56b : w2.cell? ⟨w.heap.size, 56, none⟩ = some (.slice ao n cap) := k02.cell hX.out
  have lt02 := k02.lt
  clear c56 lt0 k0 k1 hb1 hb2 hr2 hown2 hg2 hgne k02 k12 hbw2 hg3
  replace hown3 := Lib.hid hown3
  replace hbw3 := Lib.hid hbw3
  replace k03 := Lib.hid k03
  replace k13 := Lib.hid k13
  go_upto_region 3 with (first | (at_builtin; refine wpList_val rfl (ex_append (.tmp 10) (.tmp 12) 95 rfl 95 rfl (.slice (some ⟨g, 0, none⟩) 0 m) (.slice ao n cap) _ rfl rfl hr3) ?_) | fail)
  have hown4 : Hid (((w3.alloc (.cells z1.cells 163)).setRow w3.heap.size markL.toArray).ownsRow w.heap.size 163 56 (.slice (some ⟨g, 0, none⟩) n m) n r.tab.flatten) := by
    have h1 := ownsRow_blk hown3.out (k := g) rfl
    obtain ⟨cur, h1⟩ := h1
    have := h1.lt
    have h2 := hown3.out.alloc (.cells z1.cells 163)
    exact h2.kept (row := some w3.heap.size) ⟨rfl, rfl, rfl, by simp, fun k _ hk => setRow_other _ _ k _ (fun e => hk (by simp [e]))⟩ (.inr (by simp [Value.ownBlock]; omega))
  have hnew := Lib.hid (Blk.new w3 z1.cells 163)
  have k34 := Lib.hid (hnew.out.setRow markL.toArray)
  have k04 := Lib.hid ((k03.out.alloc (.cells z1.cells 163)).setRowNe markL.toArray (show w.heap.size ≠ w3.heap.size by have := k03.out.lt; omega))
  have k14 := Lib.hid ((k13.out.alloc (.cells z1.cells 163)).setRowNe markL.toArray (show w.heap.size + 1 ≠ w3.heap.size by have := k13.out.lt; omega))
  have hbw4 := Lib.hid (brow (hbw3.out.alloc hbw3.out.size (.cells z1.cells 163)) hbw3.out.size markL.toArray)
  have lt3 : w.heap.size + 1 < w3.heap.size := k13.out.lt
  clear c56b lt02 hr3
  go_upto_region 4 with (first | refine wpList_val rfl (ex_build 94 #[(0, .const (.int .i64 (-77)))] rfl _ rfl markC.toArray built_markC) ?_ | refine wpList_val rfl (ex_build 163 #[(1, .tmp 14)] rfl [(1, .agg markC.toArray)] (by rfl) markL.toArray built_mark) ?_ | refine wpList_val rfl (ex_alloc 163 rfl i1 z1 hi1 hy0) ?_ | refine wpList_skp rfl (ex_store_row 163 (.tmp 4) (.tmp 15) rfl w3.heap.size markL.toArray rfl rfl 163 z1.cells hnew.out (by rw [heldSize]; rfl) (by rw [hy3]; rfl) (by kernel_rfl)) ?_ | fail)
  have hbg0 : w3.heap.size ≠ g := by
    obtain ⟨cur, hc⟩ := ownsRow_blk (k := g) hown3.out rfl
    have := hc.lt
    omega
  clear hnew hown3 hbw3 k03 k13
  generalize (w3.alloc (.cells z1.cells 163)).setRow w3.heap.size markL.toArray = w4 at *
  have hbg : w3.heap.size ≠ g := hbg0
  generalize w3.heap.size = b3 at *
  have hr4 : ∀ W, Blk W b3 markL.toArray 163 → W.rangeAt b3 0 markL := fun W hW j u hj => by
    have := hW.cell (i := j) (v := u) (by simpa using hj)
    simpa using this
  replace hr4 := Lib.hid hr4
  have hS4 : w4.drew.rangeAt b3 0 markL := hr4.out _ k34.out.drew
  have k05 := Lib.hid k04.out.drew
  have k15 := Lib.hid k14.out.drew
  have k35 := Lib.hid k34.out.drew
  have hown5 : Hid (w4.drew.ownsRow w.heap.size 163 56 (.slice (some ⟨g, 0, none⟩) n m) n r.tab.flatten) := hown4.out
  have hbw5 := Lib.hid (hbw4.out.drew)
  have lm1 : n ≤ m := by have := hm.out; omega
  have lm2 : decide ((n : Int) ≤ (m : Int)) = true := by simp; omega
  clear k04 k14 k34 hown4 hbw4
  refine wp_region_held_drew (S := fun W => W.rangeAt b3 0 markL) (by kernel_rfl) hS4 (fun hHeld => ?_)
  clear hS4
  generalize w4.drew = wa0 at *
  refine wpAnyH_take (i := 0) (oi := { dst := some 16, op := .move (.tmp 3), type := _, pos := _, after := _, guard := _ }) (v := ?_) rfl (by kernel_rfl) (by kernel_rfl) (by kernel_rfl) (fun _ _ _ h => h) (Or.inl ⟨by rfl, ?_⟩) (by assumption) ?_
  rotate_left
  · (intro w hSw; (try dsimp only at hSw); go_simp) <;> with_reducible rfl
  try simp only [Act.put, List.setIfInBounds_toArray, List.set_cons_zero, List.set_cons_succ]
  refine wpAnyH_take (i := 1) (oi := { dst := some 17, op := .load _ (.tmp 4), type := _, pos := _, after := _, guard := _ }) (v := .agg markL.toArray) rfl (by kernel_rfl) (by kernel_rfl) (by kernel_rfl) (fun _ _ _ h => h) (yieldsIf_load_mid (by rfl) _ _ rfl _ _ rfl _ _ (fun W hW => hW) he0 he1 (by rw [heldSize]; rfl)) (by assumption) ?_
  try simp only [Act.put, List.setIfInBounds_toArray, List.set_cons_zero, List.set_cons_succ]
  refine wpAnyH_take (i := 2) (oi := { dst := some 18, op := .load _ (.tmp 4), type := _, pos := _, after := _, guard := _ }) (v := .agg markL.toArray) rfl (by kernel_rfl) (by kernel_rfl) (by kernel_rfl) (fun _ _ _ h => h) (yieldsIf_load_mid (by rfl) _ _ rfl _ _ rfl _ _ (fun W hW => hW) he0 he1 (by rw [heldSize]; rfl)) (by assumption) ?_
  try simp only [Act.put, List.setIfInBounds_toArray, List.set_cons_zero, List.set_cons_succ]
  refine wpAnyH_take (i := 5) (oi := { dst := some 21, op := .fieldAddr _ (.tmp 1) 2, type := _, pos := _, after := _, guard := _ }) (v := ?_) rfl (by kernel_rfl) (by kernel_rfl) (by kernel_rfl) (fun _ _ _ h => h) (Or.inl ⟨by rfl, ?_⟩) (by assumption) ?_
  rotate_left
  · (intro w hSw; (try dsimp only at hSw); go_simp) <;> with_reducible rfl
  try simp only [Act.put, List.setIfInBounds_toArray, List.set_cons_zero, List.set_cons_succ]
  refine wpAnyH_ready (rs := [3, 6]) (by kernel_rfl) (by simp) ?_
  refine AllReadyH.cons (o := { dst := some 19, op := .buildSlice 95 2 #[(0, .tmp 17), (1, .tmp 18)], type := _, pos := _, after := _, guard := _ }) rfl (fun K6 hK6 => ?_) ?_
  · refine step_val rfl (ex_buildSlice2 95 163 (.tmp 17) (.tmp 18) rfl i1 z1 markL markL Try.underlying95 hi1 hy0 (by rw [hy1]; rfl) (by rw [hy1]; rfl) (by omega) (by omega) rfl rfl) ?_
    have kn := Lib.hid (Blk.new wa0 (markL ++ markL).toArray 163)
    replace k05 := Lib.hid (k05.out.alloc (.cells (markL ++ markL).toArray 163))
    replace k15 := Lib.hid (k15.out.alloc (.cells (markL ++ markL).toArray 163))
    replace k35 := Lib.hid (k35.out.alloc (.cells (markL ++ markL).toArray 163))
    have hownC := hown5
    replace hown5 := Lib.hid (hown5.out.alloc (.cells (markL ++ markL).toArray 163))
    have hgn : wa0.heap.size ≠ g := by
      obtain ⟨cur, hc⟩ := ownsRow_blk (k := g) hown5.out rfl
      exact fun e => by
        have h1 := hc.out
        rw [← e] at h1
        have h2 := kn.out.out
        have := (ownsRow_blk (k := g) hownC.out rfl).choose_spec.lt
        omega
    replace hbw5 := Lib.hid (hbw5.out.alloc hbw5.out.size (.cells (markL ++ markL).toArray 163))
    refine hK6.out _ _ (hr4.out _ k35.out) (fun hHeld => ?_)
    clear hK6 K6
    generalize wa0.alloc (.cells (markL ++ markL).toArray 163) = wa1 at *
    generalize wa0.heap.size = bm at *
    clear hownC
    try simp only [Act.put, List.setIfInBounds_toArray, List.set_cons_zero, List.set_cons_succ]
    refine wpAnyH_ready (rs := [4, 6]) (by kernel_rfl) (by simp) ?_
    refine AllReadyH.cons (o := { dst := some 20, op := .call { callee := .builtin .append, args := #[.tmp 16, .tmp 19], argTypes := #[95, 95] }, type := _, pos := _, after := _, guard := _ }) rfl (fun K6 hK6 => ?_) ?_
    · obtain ⟨wa2, hr6, hown6, hg6⟩ := run_append_fits wa1 w.heap.size 95 95 163 i1 56 Try.underlying95 hi1 hy1 g n m r.tab.flatten hown5.out ⟨bm, 0, none⟩ 2 2 (markL ++ markL) rfl (fun j u hj => by rw [add_head]; exact kn.out.cell (by simpa using hj)) (fun u hu => by rcases List.mem_append.1 hu with hu | hu <;> exact markL_one u hu) (by have := hm.out; omega)
      refine step_val rfl (ex_append (.tmp 16) (.tmp 19) 95 rfl 95 rfl (.slice (some ⟨g, 0, none⟩) n m) (.slice (some ⟨bm, 0, none⟩) 2 2) _ rfl rfl hr6) ?_
      have hkeep : ∀ b c U, Blk wa1 b c U → b ≠ g → Blk wa2 b c U := fun b c U hb hn => (hg6.block b hb.lt (by simpa using hn)).trans hb
      have e0 : w.heap.size ≠ g := by omega
      have e1 : w.heap.size + 1 ≠ g := by omega
      replace k05 := Lib.hid (hkeep _ _ _ k05.out e0)
      replace k15 := Lib.hid (hkeep _ _ _ k15.out e1)
      replace k35 := Lib.hid (hkeep _ _ _ k35.out hbg)
      replace hbw5 := Lib.hid (Below.grown hbw5.out hg6 hbw5.out.size (fun k hk => by
        simp at hk
        subst hk
        omega))
      replace hown6 := Lib.hid hown6
      refine hK6.out _ _ (hr4.out _ k35.out) (fun hHeld => ?_)
      clear hK6 K6 hkeep e0 e1 hg6 hr6 hown5 kn hgn
      try simp only [Act.put, List.setIfInBounds_toArray, List.set_cons_zero, List.set_cons_succ]
      refine wpAnyH_ready (rs := [6]) (by kernel_rfl) (by simp) ?_
      refine AllReadyH.cons (o := { dst := some 22, op := .load _ (.tmp 21), type := _, pos := _, after := _, guard := _ }) rfl (fun K6 hK6 => ?_) AllReadyH.nil
      have c6 : wa2.cell? ⟨w.heap.size, 56, none⟩ = some (.slice ao n cap) := k05.out.cell hX.out
      have l6 := k05.out.lt
      go_simp
      refine hK6.out _ _ (hr4.out _ k35.out) (fun hHeld => ?_)
      clear hK6 K6 c6 l6
      try simp only [Act.put, List.setIfInBounds_toArray, List.set_cons_zero, List.set_cons_succ]
      refine wpAnyH_take (i := 7) (oi := { dst := some 23, op := .call { callee := .builtin .len, args := #[.tmp 22], argTypes := #[95] }, type := _, pos := _, after := _, guard := _ }) (v := ?_) rfl (by kernel_rfl) (by kernel_rfl) (by kernel_rfl) (fun _ _ _ h => h) (Or.inl ⟨by rfl, ?_⟩) (by assumption) ?_
      rotate_left
      · (intro w hSw; (try dsimp only at hSw); go_simp) <;> with_reducible rfl
      try simp only [Act.put, List.setIfInBounds_toArray, List.set_cons_zero, List.set_cons_succ]
      refine wpAnyH_take (i := 8) (oi := { dst := some 24, op := .slice _ (.tmp 20) none (some (.tmp 23)) none, type := _, pos := _, after := _, guard := _ }) (v := ?_) rfl (by kernel_rfl) (by kernel_rfl) (by kernel_rfl) (fun _ _ _ h => h) (Or.inl ⟨by rfl, ?_⟩) (by assumption) ?_
      rotate_left
      · (intro w hSw; (try dsimp only at hSw); go_simp) <;> with_reducible rfl
      try simp only [Act.put, List.setIfInBounds_toArray, List.set_cons_zero, List.set_cons_succ]
      refine wpAnyH_take (i := 9) (oi := { dst := some 25, op := .fieldAddr _ (.tmp 1) 2, type := _, pos := _, after := _, guard := _ }) (v := ?_) rfl (by kernel_rfl) (by kernel_rfl) (by kernel_rfl) (fun _ _ _ h => h) (Or.inl ⟨by rfl, ?_⟩) (by assumption) ?_
      rotate_left
      · (intro w hSw; (try dsimp only at hSw); go_simp) <;> with_reducible rfl
      try simp only [Act.put, List.setIfInBounds_toArray, List.set_cons_zero, List.set_cons_succ]
      refine wpAnyH_ready (rs := [10]) (by kernel_rfl) (by simp) ?_
      refine AllReadyH.cons (o := { dst := none, op := .store _ (.tmp 25) (.tmp 24), type := _, pos := _, after := _, guard := _ }) rfl (fun K6 hK6 => ?_) AllReadyH.nil
      have c6 : wa2.cell? ⟨w.heap.size, 56, none⟩ = some (.slice ao n cap) := k05.out.cell hX.out
      have l6 := k05.out.lt
      have f6 := k05.out.free 56
      go_simp
      have k06 := Lib.hid ((k05.out.set 56 (.slice (some ⟨g, 0, none⟩) n m)).congr (hset.out _))
      have k16 := Lib.hid (k15.out.setNe (a := ⟨w.heap.size, 56, none⟩) (by simp) (.slice (some ⟨g, 0, none⟩) n m))
      have k36 := Lib.hid (k35.out.setNe (a := ⟨w.heap.size, 56, none⟩) (show b3 ≠ w.heap.size by omega) (.slice (some ⟨g, 0, none⟩) n m))
      replace hbw5 := Lib.hid (hbw5.out.setCell (show w.heap.size ≤ (⟨w.heap.size, 56, none⟩ : Addr).block from Nat.le_refl _) (.slice (some ⟨g, 0, none⟩) n m))
      have hown7 : Hid ((wa2.setCell ⟨w.heap.size, 56, none⟩ (.slice (some ⟨g, 0, none⟩) n m)).ownsRow w.heap.size 163 56 (.slice (some ⟨g, 0, none⟩) (n + 2) m) (n + 2) (r.tab.flatten ++ (markL ++ markL))) := hown6.out.kept (row := some w.heap.size) ⟨rfl, rfl, rfl, by simp, fun k _ hk => heap_setCell_other _ ⟨w.heap.size, 56, none⟩ k _ (fun e => hk (by simp [e]))⟩ (.inr (by simp [Value.ownBlock]; omega))
      refine hK6.out _ _ (hr4.out _ k36.out) (fun hHeld => ?_)
      clear hK6 K6 c6 l6 f6 k05 k15 k35 k36 hown6 hX
      generalize wa2.setCell ⟨w.heap.size, 56, none⟩ (.slice (some ⟨g, 0, none⟩) n m) = w8 at *
      try simp only [Act.put, List.setIfInBounds_toArray, List.set_cons_zero, List.set_cons_succ]
      refine wpAnyH_done (by kernel_rfl) ?_ _
      have hs3 := hsz.out (.slice (some ⟨g, 0, none⟩) n m)
      have ho5 := hone.out (.slice (some ⟨g, 0, none⟩) n m) ⟨_, _, _, rfl⟩
      generalize hYe : (r.hd ++ [Value.slice (some ⟨g, 0, none⟩) n m]).toArray = Y at *
      clear hHeld hr4
      go_wp2_with (first | refine wpList_val rfl (ex_load_row 97 (.tmp 1) rfl w.heap.size rfl 97 Y d0 k06.out hd0 hd1 (by rw [rowSize, hs3])) ?_ | refine wpList_skp rfl (ex_store_row 97 (.tmp 2) (.tmp 26) rfl (w.heap.size + 1) Y rfl rfl 97 z0.cells k16.out (by rw [rowSize, hs3]) (by rw [hz3, hs3]) ho5) ?_ | fail)
      have k17 := k16.out.setRow Y
      have hown8 := hown7.out.kept (w' := w8.setRow (w.heap.size + 1) Y) (row := some (w.heap.size + 1)) ⟨rfl, rfl, rfl, by simp, fun k _ hk => setRow_other _ _ k _ (fun e => hk (by simp [e]))⟩ (.inr (by simp [Value.ownBlock]; omega))
      obtain rfl : m = n + 2 := hm.out
      refine bodyPost_ret (v := .agg Y) (results_cell_row (p := 2) (ty := 97) (by kernel_rfl) _ _ (w.heap.size + 1) 97 Y (0, 0) d0 (by rfl) k17.out hd0 (by cases d0 <;> simp_all) (by rw [rowSize, hs3])) rfl ⟨_, by rw [hYe], ⟨g, by rw [← hnT.out], by rw [← hnT.out]; exact hown8⟩, brow hbw5.out (by omega) Y⟩
    refine AllReadyH.cons (o := { dst := some 22, op := .load _ (.tmp 21), type := _, pos := _, after := _, guard := _ }) rfl (fun K6 hK6 => ?_) AllReadyH.nil
    have c6 : wa1.cell? ⟨w.heap.size, 56, none⟩ = some (.slice ao n cap) := k05.out.cell hX.out
    have l6 := k05.out.lt
    go_simp
    refine hK6.out _ _ (hr4.out _ k35.out) (fun hHeld => ?_)
    clear hK6 K6 c6 l6
    try simp only [Act.put, List.setIfInBounds_toArray, List.set_cons_zero, List.set_cons_succ]
    refine wpAnyH_take (i := 7) (oi := { dst := some 23, op := .call { callee := .builtin .len, args := #[.tmp 22], argTypes := #[95] }, type := _, pos := _, after := _, guard := _ }) (v := ?_) rfl (by kernel_rfl) (by kernel_rfl) (by kernel_rfl) (fun _ _ _ h => h) (Or.inl ⟨by rfl, ?_⟩) (by assumption) ?_
    rotate_left
    · (intro w hSw; (try dsimp only at hSw); go_simp) <;> with_reducible rfl
    try simp only [Act.put, List.setIfInBounds_toArray, List.set_cons_zero, List.set_cons_succ]
    refine wpAnyH_ready (rs := [4]) (by kernel_rfl) (by simp) ?_
    refine AllReadyH.cons (o := { dst := some 20, op := .call { callee := .builtin .append, args := #[.tmp 16, .tmp 19], argTypes := #[95, 95] }, type := _, pos := _, after := _, guard := _ }) rfl (fun K6 hK6 => ?_) AllReadyH.nil
    obtain ⟨wa2, hr6, hown6, hg6⟩ := run_append_fits wa1 w.heap.size 95 95 163 i1 56 Try.underlying95 hi1 hy1 g n m r.tab.flatten hown5.out ⟨bm, 0, none⟩ 2 2 (markL ++ markL) rfl (fun j u hj => by rw [add_head]; exact kn.out.cell (by simpa using hj)) (fun u hu => by rcases List.mem_append.1 hu with hu | hu <;> exact markL_one u hu) (by have := hm.out; omega)
    refine step_val rfl (ex_append (.tmp 16) (.tmp 19) 95 rfl 95 rfl (.slice (some ⟨g, 0, none⟩) n m) (.slice (some ⟨bm, 0, none⟩) 2 2) _ rfl rfl hr6) ?_
    have hkeep : ∀ b c U, Blk wa1 b c U → b ≠ g → Blk wa2 b c U := fun b c U hb hn => (hg6.block b hb.lt (by simpa using hn)).trans hb
    have e0 : w.heap.size ≠ g := by omega
    have e1 : w.heap.size + 1 ≠ g := by omega
    replace k05 := Lib.hid (hkeep _ _ _ k05.out e0)
    replace k15 := Lib.hid (hkeep _ _ _ k15.out e1)
    replace k35 := Lib.hid (hkeep _ _ _ k35.out hbg)
    replace hbw5 := Lib.hid (Below.grown hbw5.out hg6 hbw5.out.size (fun k hk => by
      simp at hk
      subst hk
      omega))
    replace hown6 := Lib.hid hown6
    refine hK6.out _ _ (hr4.out _ k35.out) (fun hHeld => ?_)
    clear hK6 K6 hkeep e0 e1 hg6 hr6 hown5 kn hgn
    try simp only [Act.put, List.setIfInBounds_toArray, List.set_cons_zero, List.set_cons_succ]
    refine wpAnyH_take (i := 8) (oi := { dst := some 24, op := .slice _ (.tmp 20) none (some (.tmp 23)) none, type := _, pos := _, after := _, guard := _ }) (v := ?_) rfl (by kernel_rfl) (by kernel_rfl) (by kernel_rfl) (fun _ _ _ h => h) (Or.inl ⟨by rfl, ?_⟩) (by assumption) ?_
    rotate_left
    · (intro w hSw; (try dsimp only at hSw); go_simp) <;> with_reducible rfl
    try simp only [Act.put, List.setIfInBounds_toArray, List.set_cons_zero, List.set_cons_succ]
    refine wpAnyH_take (i := 9) (oi := { dst := some 25, op := .fieldAddr _ (.tmp 1) 2, type := _, pos := _, after := _, guard := _ }) (v := ?_) rfl (by kernel_rfl) (by kernel_rfl) (by kernel_rfl) (fun _ _ _ h => h) (Or.inl ⟨by rfl, ?_⟩) (by assumption) ?_
    rotate_left
    · (intro w hSw; (try dsimp only at hSw); go_simp) <;> with_reducible rfl
    try simp only [Act.put, List.setIfInBounds_toArray, List.set_cons_zero, List.set_cons_succ]
    refine wpAnyH_ready (rs := [10]) (by kernel_rfl) (by simp) ?_
    refine AllReadyH.cons (o := { dst := none, op := .store _ (.tmp 25) (.tmp 24), type := _, pos := _, after := _, guard := _ }) rfl (fun K6 hK6 => ?_) AllReadyH.nil
    have c6 : wa2.cell? ⟨w.heap.size, 56, none⟩ = some (.slice ao n cap) := k05.out.cell hX.out
    have l6 := k05.out.lt
    have f6 := k05.out.free 56
    go_simp
    have k06 := Lib.hid ((k05.out.set 56 (.slice (some ⟨g, 0, none⟩) n m)).congr (hset.out _))
    have k16 := Lib.hid (k15.out.setNe (a := ⟨w.heap.size, 56, none⟩) (by simp) (.slice (some ⟨g, 0, none⟩) n m))
    have k36 := Lib.hid (k35.out.setNe (a := ⟨w.heap.size, 56, none⟩) (show b3 ≠ w.heap.size by omega) (.slice (some ⟨g, 0, none⟩) n m))
    replace hbw5 := Lib.hid (hbw5.out.setCell (show w.heap.size ≤ (⟨w.heap.size, 56, none⟩ : Addr).block from Nat.le_refl _) (.slice (some ⟨g, 0, none⟩) n m))
    have hown7 : Hid ((wa2.setCell ⟨w.heap.size, 56, none⟩ (.slice (some ⟨g, 0, none⟩) n m)).ownsRow w.heap.size 163 56 (.slice (some ⟨g, 0, none⟩) (n + 2) m) (n + 2) (r.tab.flatten ++ (markL ++ markL))) := hown6.out.kept (row := some w.heap.size) ⟨rfl, rfl, rfl, by simp, fun k _ hk => heap_setCell_other _ ⟨w.heap.size, 56, none⟩ k _ (fun e => hk (by simp [e]))⟩ (.inr (by simp [Value.ownBlock]; omega))
    refine hK6.out _ _ (hr4.out _ k36.out) (fun hHeld => ?_)
    clear hK6 K6 c6 l6 f6 k05 k15 k35 k36 hown6 hX
    generalize wa2.setCell ⟨w.heap.size, 56, none⟩ (.slice (some ⟨g, 0, none⟩) n m) = w8 at *
    try simp only [Act.put, List.setIfInBounds_toArray, List.set_cons_zero, List.set_cons_succ]
    refine wpAnyH_done (by kernel_rfl) ?_ _
    have hs3 := hsz.out (.slice (some ⟨g, 0, none⟩) n m)
    have ho5 := hone.out (.slice (some ⟨g, 0, none⟩) n m) ⟨_, _, _, rfl⟩
    generalize hYe : (r.hd ++ [Value.slice (some ⟨g, 0, none⟩) n m]).toArray = Y at *
    clear hHeld hr4
    go_wp2_with (first | refine wpList_val rfl (ex_load_row 97 (.tmp 1) rfl w.heap.size rfl 97 Y d0 k06.out hd0 hd1 (by rw [rowSize, hs3])) ?_ | refine wpList_skp rfl (ex_store_row 97 (.tmp 2) (.tmp 26) rfl (w.heap.size + 1) Y rfl rfl 97 z0.cells k16.out (by rw [rowSize, hs3]) (by rw [hz3, hs3]) ho5) ?_ | fail)
    have k17 := k16.out.setRow Y
    have hown8 := hown7.out.kept (w' := w8.setRow (w.heap.size + 1) Y) (row := some (w.heap.size + 1)) ⟨rfl, rfl, rfl, by simp, fun k _ hk => setRow_other _ _ k _ (fun e => hk (by simp [e]))⟩ (.inr (by simp [Value.ownBlock]; omega))
    obtain rfl : m = n + 2 := hm.out
    refine bodyPost_ret (v := .agg Y) (results_cell_row (p := 2) (ty := 97) (by kernel_rfl) _ _ (w.heap.size + 1) 97 Y (0, 0) d0 (by rfl) k17.out hd0 (by cases d0 <;> simp_all) (by rw [rowSize, hs3])) rfl ⟨_, by rw [hYe], ⟨g, by rw [← hnT.out], by rw [← hnT.out]; exact hown8⟩, brow hbw5.out (by omega) Y⟩
  refine AllReadyH.cons (o := { dst := some 22, op := .load _ (.tmp 21), type := _, pos := _, after := _, guard := _ }) rfl (fun K6 hK6 => ?_) AllReadyH.nil
  have c6 : wa0.cell? ⟨w.heap.size, 56, none⟩ = some (.slice ao n cap) := k05.out.cell hX.out
  have l6 := k05.out.lt
  go_simp
  refine hK6.out _ _ (hr4.out _ k35.out) (fun hHeld => ?_)
  clear hK6 K6 c6 l6
  try simp only [Act.put, List.setIfInBounds_toArray, List.set_cons_zero, List.set_cons_succ]
  refine wpAnyH_take (i := 7) (oi := { dst := some 23, op := .call { callee := .builtin .len, args := #[.tmp 22], argTypes := #[95] }, type := _, pos := _, after := _, guard := _ }) (v := ?_) rfl (by kernel_rfl) (by kernel_rfl) (by kernel_rfl) (fun _ _ _ h => h) (Or.inl ⟨by rfl, ?_⟩) (by assumption) ?_
  rotate_left
  · (intro w hSw; (try dsimp only at hSw); go_simp) <;> with_reducible rfl
  try simp only [Act.put, List.setIfInBounds_toArray, List.set_cons_zero, List.set_cons_succ]
  refine wpAnyH_ready (rs := [3]) (by kernel_rfl) (by simp) ?_
  refine AllReadyH.cons (o := { dst := some 19, op := .buildSlice 95 2 #[(0, .tmp 17), (1, .tmp 18)], type := _, pos := _, after := _, guard := _ }) rfl (fun K6 hK6 => ?_) AllReadyH.nil
  refine step_val rfl (ex_buildSlice2 95 163 (.tmp 17) (.tmp 18) rfl i1 z1 markL markL Try.underlying95 hi1 hy0 (by rw [hy1]; rfl) (by rw [hy1]; rfl) (by omega) (by omega) rfl rfl) ?_
  have kn := Lib.hid (Blk.new wa0 (markL ++ markL).toArray 163)
  replace k05 := Lib.hid (k05.out.alloc (.cells (markL ++ markL).toArray 163))
  replace k15 := Lib.hid (k15.out.alloc (.cells (markL ++ markL).toArray 163))
  replace k35 := Lib.hid (k35.out.alloc (.cells (markL ++ markL).toArray 163))
  have hownC := hown5
  replace hown5 := Lib.hid (hown5.out.alloc (.cells (markL ++ markL).toArray 163))
  have hgn : wa0.heap.size ≠ g := by
    obtain ⟨cur, hc⟩ := ownsRow_blk (k := g) hown5.out rfl
    exact fun e => by
      have h1 := hc.out
      rw [← e] at h1
      have h2 := kn.out.out
      have := (ownsRow_blk (k := g) hownC.out rfl).choose_spec.lt
      omega
  replace hbw5 := Lib.hid (hbw5.out.alloc hbw5.out.size (.cells (markL ++ markL).toArray 163))
  refine hK6.out _ _ (hr4.out _ k35.out) (fun hHeld => ?_)
  clear hK6 K6
  generalize wa0.alloc (.cells (markL ++ markL).toArray 163) = wa1 at *
  generalize wa0.heap.size = bm at *
  clear hownC
  try simp only [Act.put, List.setIfInBounds_toArray, List.set_cons_zero, List.set_cons_succ]
  refine wpAnyH_ready (rs := [4]) (by kernel_rfl) (by simp) ?_
  refine AllReadyH.cons (o := { dst := some 20, op := .call { callee := .builtin .append, args := #[.tmp 16, .tmp 19], argTypes := #[95, 95] }, type := _, pos := _, after := _, guard := _ }) rfl (fun K6 hK6 => ?_) AllReadyH.nil
  obtain ⟨wa2, hr6, hown6, hg6⟩ := run_append_fits wa1 w.heap.size 95 95 163 i1 56 Try.underlying95 hi1 hy1 g n m r.tab.flatten hown5.out ⟨bm, 0, none⟩ 2 2 (markL ++ markL) rfl (fun j u hj => by rw [add_head]; exact kn.out.cell (by simpa using hj)) (fun u hu => by rcases List.mem_append.1 hu with hu | hu <;> exact markL_one u hu) (by have := hm.out; omega)
  refine step_val rfl (ex_append (.tmp 16) (.tmp 19) 95 rfl 95 rfl (.slice (some ⟨g, 0, none⟩) n m) (.slice (some ⟨bm, 0, none⟩) 2 2) _ rfl rfl hr6) ?_
  have hkeep : ∀ b c U, Blk wa1 b c U → b ≠ g → Blk wa2 b c U := fun b c U hb hn => (hg6.block b hb.lt (by simpa using hn)).trans hb
  have e0 : w.heap.size ≠ g := by omega
  have e1 : w.heap.size + 1 ≠ g := by omega
  replace k05 := Lib.hid (hkeep _ _ _ k05.out e0)
  replace k15 := Lib.hid (hkeep _ _ _ k15.out e1)
  replace k35 := Lib.hid (hkeep _ _ _ k35.out hbg)
  replace hbw5 := Lib.hid (Below.grown hbw5.out hg6 hbw5.out.size (fun k hk => by
    simp at hk
    subst hk
    omega))
  replace hown6 := Lib.hid hown6
  refine hK6.out _ _ (hr4.out _ k35.out) (fun hHeld => ?_)
  clear hK6 K6 hkeep e0 e1 hg6 hr6 hown5 kn hgn
  try simp only [Act.put, List.setIfInBounds_toArray, List.set_cons_zero, List.set_cons_succ]
  refine wpAnyH_take (i := 8) (oi := { dst := some 24, op := .slice _ (.tmp 20) none (some (.tmp 23)) none, type := _, pos := _, after := _, guard := _ }) (v := ?_) rfl (by kernel_rfl) (by kernel_rfl) (by kernel_rfl) (fun _ _ _ h => h) (Or.inl ⟨by rfl, ?_⟩) (by assumption) ?_
  rotate_left
  · (intro w hSw; (try dsimp only at hSw); go_simp) <;> with_reducible rfl
  try simp only [Act.put, List.setIfInBounds_toArray, List.set_cons_zero, List.set_cons_succ]
  refine wpAnyH_take (i := 9) (oi := { dst := some 25, op := .fieldAddr _ (.tmp 1) 2, type := _, pos := _, after := _, guard := _ }) (v := ?_) rfl (by kernel_rfl) (by kernel_rfl) (by kernel_rfl) (fun _ _ _ h => h) (Or.inl ⟨by rfl, ?_⟩) (by assumption) ?_
  rotate_left
  · (intro w hSw; (try dsimp only at hSw); go_simp) <;> with_reducible rfl
  try simp only [Act.put, List.setIfInBounds_toArray, List.set_cons_zero, List.set_cons_succ]
  refine wpAnyH_ready (rs := [10]) (by kernel_rfl) (by simp) ?_
  refine AllReadyH.cons (o := { dst := none, op := .store _ (.tmp 25) (.tmp 24), type := _, pos := _, after := _, guard := _ }) rfl (fun K6 hK6 => ?_) AllReadyH.nil
  have c6 : wa2.cell? ⟨w.heap.size, 56, none⟩ = some (.slice ao n cap) := k05.out.cell hX.out
  have l6 := k05.out.lt
  have f6 := k05.out.free 56
  go_simp
  have k06 := Lib.hid ((k05.out.set 56 (.slice (some ⟨g, 0, none⟩) n m)).congr (hset.out _))
  have k16 := Lib.hid (k15.out.setNe (a := ⟨w.heap.size, 56, none⟩) (by simp) (.slice (some ⟨g, 0, none⟩) n m))
  have k36 := Lib.hid (k35.out.setNe (a := ⟨w.heap.size, 56, none⟩) (show b3 ≠ w.heap.size by omega) (.slice (some ⟨g, 0, none⟩) n m))
  replace hbw5 := Lib.hid (hbw5.out.setCell (show w.heap.size ≤ (⟨w.heap.size, 56, none⟩ : Addr).block from Nat.le_refl _) (.slice (some ⟨g, 0, none⟩) n m))
  have hown7 : Hid ((wa2.setCell ⟨w.heap.size, 56, none⟩ (.slice (some ⟨g, 0, none⟩) n m)).ownsRow w.heap.size 163 56 (.slice (some ⟨g, 0, none⟩) (n + 2) m) (n + 2) (r.tab.flatten ++ (markL ++ markL))) := hown6.out.kept (row := some w.heap.size) ⟨rfl, rfl, rfl, by simp, fun k _ hk => heap_setCell_other _ ⟨w.heap.size, 56, none⟩ k _ (fun e => hk (by simp [e]))⟩ (.inr (by simp [Value.ownBlock]; omega))
  refine hK6.out _ _ (hr4.out _ k36.out) (fun hHeld => ?_)
  clear hK6 K6 c6 l6 f6 k05 k15 k35 k36 hown6 hX
  generalize wa2.setCell ⟨w.heap.size, 56, none⟩ (.slice (some ⟨g, 0, none⟩) n m) = w8 at *
  try simp only [Act.put, List.setIfInBounds_toArray, List.set_cons_zero, List.set_cons_succ]
  refine wpAnyH_done (by kernel_rfl) ?_ _
  have hs3 := hsz.out (.slice (some ⟨g, 0, none⟩) n m)
  have ho5 := hone.out (.slice (some ⟨g, 0, none⟩) n m) ⟨_, _, _, rfl⟩
  generalize hYe : (r.hd ++ [Value.slice (some ⟨g, 0, none⟩) n m]).toArray = Y at *
  clear hHeld hr4
  go_wp2_with (first | refine wpList_val rfl (ex_load_row 97 (.tmp 1) rfl w.heap.size rfl 97 Y d0 k06.out hd0 hd1 (by rw [rowSize, hs3])) ?_ | refine wpList_skp rfl (ex_store_row 97 (.tmp 2) (.tmp 26) rfl (w.heap.size + 1) Y rfl rfl 97 z0.cells k16.out (by rw [rowSize, hs3]) (by rw [hz3, hs3]) ho5) ?_ | fail)
  have k17 := k16.out.setRow Y
  have hown8 := hown7.out.kept (w' := w8.setRow (w.heap.size + 1) Y) (row := some (w.heap.size + 1)) ⟨rfl, rfl, rfl, by simp, fun k _ hk => setRow_other _ _ k _ (fun e => hk (by simp [e]))⟩ (.inr (by simp [Value.ownBlock]; omega))
  obtain rfl : m = n + 2 := hm.out
  refine bodyPost_ret (v := .agg Y) (results_cell_row (p := 2) (ty := 97) (by kernel_rfl) _ _ (w.heap.size + 1) 97 Y (0, 0) d0 (by rfl) k17.out hd0 (by cases d0 <;> simp_all) (by rw [rowSize, hs3])) rfl ⟨_, by rw [hYe], ⟨g, by rw [← hnT.out], by rw [← hnT.out]; exact hown8⟩, brow hbw5.out (by omega) Y⟩
end Go.Proofs.Ytmdohnbhogfopaa
/- The twin of a word. -/
namespace Go.Proofs.Ytmdohnbhogfopaa
open Go.RowKit
set_option linter.unusedSimpArgs false
set_option linter.unusedVariables false
set_option maxRecDepth 100000
theorem TwinTab.blk {lo : Nat} {w w' : World} {v : Value} {Ts : List (List Value)} (h : TwinTab lo w v Ts) (k : ∀ g c, lo ≤ g → Blk w g c 163 → Blk w' g c 163) : TwinTab lo w' v Ts := by
  obtain ⟨g, h1, h2, h3⟩ := h
  refine ⟨g, h1, h2, ?_⟩
  rcases h3 with h3 | ⟨g', cap, cur, h3, h4, h5, h6⟩
  · exact .inl h3
  · exact .inr ⟨g', cap, cur, h3, h4, k g' cur h4 h5, h6⟩
theorem TwinTab.mono {lo lo' : Nat} {w : World} {v : Value} {Ts : List (List Value)} (h : TwinTab lo w v Ts) (hl : lo' ≤ lo) : TwinTab lo' w v Ts := by
  obtain ⟨g, h1, h2, h3⟩ := h
  refine ⟨g, h1, h2, ?_⟩
  rcases h3 with h3 | ⟨g', cap, cur, h3, h4, h5, h6⟩
  · exact .inl h3
  · exact .inr ⟨g', cap, cur, h3, by omega, h5, h6⟩
theorem TwinTab.below {lo : Nat} {w w' : World} {v : Value} {Ts : List (List Value)} (h : TwinTab lo w v Ts) (hb : Below w.heap.size w w') : TwinTab lo w' v Ts := h.blk fun g c _ hg => hg.below hb hg.lt
/-- A word of twins. -/
def TwinWd (lo : Nat) (w : World) (v : Value) (R : List RowC) : Prop :=
  (v = .slice none 0 0 ∧ R = []) ∨ ∃ g cap cur tvs, v = .slice (some ⟨g, 0, none⟩) R.length cap ∧ R.length ≤ cap ∧ cap ≤ maxLen ∧ lo ≤ g ∧ Blk w g cur 97 ∧ cap * 57 ≤ cur.size ∧ cur.toList.take (R.length * 57) = rowsFlat R tvs ∧ tvs.length = R.length ∧
    ∀ (i : Nat) (r : RowC) (tv : Value), R[i]? = some r → tvs[i]? = some tv → TwinTab lo w tv r.tab
theorem TwinWd.blk {lo : Nat} {w w' : World} {v : Value} {R : List RowC} (h : TwinWd lo w v R) (k : ∀ g c U, U = 97 ∨ U = 163 → Blk w g c U → Blk w' g c U) : TwinWd lo w' v R := by
  rcases h with h | ⟨g, cap, cur, tvs, h1, h2, h3, h4, h5, h6, h7, h8, h9⟩
  · exact .inl h
  · exact .inr ⟨g, cap, cur, tvs, h1, h2, h3, h4, k _ _ _ (.inl rfl) h5, h6, h7, h8, fun i r tv hi ht => (h9 i r tv hi ht).blk (fun g c _ hg => k _ _ _ (.inr rfl) hg)⟩
structure TwnAt (w : World) (wv : Value) (R : List RowC) (i : Nat) (v : Value) (tvs : List Value) (wr : World) : Prop where
  bel : Below w.heap.size w wr
  box : Blk wr w.heap.size #[wv] 38
  res : Blk wr (w.heap.size + 1) #[.slice none 0 0] 38
  out : Blk wr (w.heap.size + 2) #[v] 38
  row : wr.ownsRow w.heap.size 97 57 v i (rowsFlat (R.take i) tvs)
  len : tvs.length = i
  tabs : ∀ (j : Nat) (r : RowC) (tv : Value), R[j]? = some r → tvs[j]? = some tv → TwinTab w.heap.size wr tv r.tab
theorem ownsRow_bel {w W : World} {B : Nat} {E : TypeId} {z n : Nat} {v : Value} {xs : List Value} (h : w.ownsRow B E z v n xs) (hb : Below w.heap.size w W) : W.ownsRow B E z v n xs :=
  h.kept ⟨hb.os, hb.tape, hb.output, hb.size, fun k hk _ => hb.block k hk⟩ (row := none) (by
    cases hv : v.ownBlock with
    | none => exact .inl rfl
    | some k => exact .inr (by simp))
theorem TwnAt.below {w : World} {wv : Value} {R : List RowC} {i : Nat} {v : Value} {tvs : List Value} {wr W : World} (h : TwnAt w wv R i v tvs wr) (hb : Below wr.heap.size wr W) : TwnAt w wv R i v tvs W :=
  ⟨bthen h.bel hb, h.box.below hb h.box.lt, h.res.below hb h.res.lt, h.out.below hb h.out.lt, ownsRow_bel h.row hb, h.len, fun j r tv hj ht => (h.tabs j r tv hj ht).below hb⟩
theorem TwnAt.append {w : World} {wv : Value} {R : List RowC} {i : Nat} {v : Value} {tvs : List Value} {W w8 : World} {r : RowC} {tv' v1 : Value} (h : TwnAt w wv R i v tvs W) (hr : R[i]? = some r) (ht' : TwinTab w.heap.size W tv' r.tab)
    (hown : w8.ownsRow w.heap.size 97 57 v1 (i + 1) (rowsFlat (R.take i) tvs ++ (r.hd ++ [tv']))) (hg : W.grownBy w8 v.ownBlock) :
    w8.cell? ⟨w.heap.size + 2, 0, none⟩ = some v ∧ w8.frozen? ⟨w.heap.size + 2, 0, none⟩ = false ∧ w.heap.size + 2 < w8.heap.size ∧ Below w.heap.size w w8 ∧ Blk w8 w.heap.size #[wv] 38 ∧
      TwnAt w wv R (i + 1) v1 (tvs ++ [tv']) (w8.setCell ⟨w.heap.size + 2, 0, none⟩ v1) := by
  have hkeep : ∀ b c T, Blk W b c T → T ≠ 97 → Blk w8 b c T := fun b c T hb hT => (hg.block b hb.lt (fun e => by
    obtain ⟨cur, hc⟩ := ownsRow_blk h.row e.symm
    exact hT (by
      have := hb.out.symm.trans hc.out
      simp at this
      exact this.2))).trans hb
  have hb0 := hkeep _ _ _ h.box (by decide)
  have hb1 := hkeep _ _ _ h.res (by decide)
  have hb2 := hkeep _ _ _ h.out (by decide)
  have hset : ∀ b c T, Blk w8 b c T → b ≠ w.heap.size + 2 → Blk (w8.setCell ⟨w.heap.size + 2, 0, none⟩ v1) b c T := fun b c T hb hn => hb.setNe (a := ⟨w.heap.size + 2, 0, none⟩) hn _
  have hbel : Below w.heap.size w w8 := Below.grown h.bel hg h.bel.size (fun k hk => (h.row.lt k hk).1)
  have htk : R.take (i + 1) = R.take i ++ [r] := by
    rw [List.take_add_one, hr]
    rfl
  have hil : (R.take i).length = i := by
    have := (List.getElem?_eq_some_iff.1 hr).1
    simp
    omega
  refine ⟨hb2.cell (i := 0) rfl, hb2.free 0, hb2.lt, hbel, hb0, ⟨hbel.setCell (show w.heap.size ≤ (⟨w.heap.size + 2, 0, none⟩ : Addr).block from Nat.le_add_right _ _) _, hset _ _ _ hb0 (by omega), hset _ _ _ hb1 (by omega), (hb2.set 0 v1).congr rfl, ?_, by simp [h.len], fun j r' tv hj ht => ?_⟩⟩
  · rw [htk, rowsFlat_more (by rw [h.len, hil])]
    refine ⟨hown.1, ?_⟩
    rcases hown.2 with h3 | ⟨g, cap, cur, h3, h4, h5, h6⟩
    · exact .inl h3
    · have hgb : Blk w8 g cur 97 := h5
      exact .inr ⟨g, cap, cur, h3, h4, hset _ _ _ hgb (hgb.ne hb2 (by decide)), h6⟩
  · have hto : TwinTab w.heap.size W tv r'.tab := by
      rw [List.getElem?_append] at ht
      split at ht
      · exact h.tabs j r' tv hj ht
      · rename_i hlt
        rw [h.len] at hlt ht
        have : j - i = 0 := by
          have := (List.getElem?_eq_some_iff.1 ht).1
          simp at this
          omega
        rw [this] at ht
        simp at ht
        obtain rfl : j = i := by omega
        rw [hr] at hj
        simp at hj
        subst hj ht
        exact ht'
    refine hto.blk fun g c hlo hgb => ?_
    have := hkeep _ _ _ hgb (by decide)
    exact hset _ _ _ this (this.ne hb2 (by decide))
theorem TwnAt.fin {w : World} {wv : Value} {R : List RowC} {v : Value} {tvs : List Value} {wr : World} (h : TwnAt w wv R R.length v tvs wr) : TwinWd w.heap.size wr v R := by
  rcases h.row.2 with ⟨rfl, h2⟩ | ⟨g, cap, cur, rfl, h2, h3, h4, h5, h6, h7⟩
  · exact .inl ⟨rfl, List.length_eq_zero_iff.1 h2⟩
  · refine .inr ⟨g, cap, cur, tvs, rfl, h4, h5, h2, h3, by omega, ?_, h.len, h.tabs⟩
    rw [h7, List.take_length]
def InvTw (w : World) (wv : Value) (R : List RowC) (n : Nat) (k : Nat) (a : Act) (wr : World) : Prop :=
  ∃ i v tvs, i + k = n ∧ Hid (TwnAt w wv R i v tvs wr) ∧ a.tmps.size = 24 ∧ a.defers = [] ∧ slot a 1 = .pointer (some ⟨w.heap.size, 0, none⟩) ∧ slot a 2 = .pointer (some ⟨w.heap.size + 1, 0, none⟩) ∧ slot a 3 = .pointer (some ⟨w.heap.size + 2, 0, none⟩) ∧ slot a 4 = .int .i64 i
set_option maxHeartbeats 4000000 in
theorem twinWordR (w : World) (wv : Value) (R : List RowC) (hw : WordAt 0 w wv R) (hk : ∀ r ∈ R, RowOk r) (hn : R.length ≤ 1000000) (ht : ∀ r ∈ R, r.tab.length ≤ 1000000) :
    Calls Try.prog 30 #[.agg #[wv]] w fun e w' => ∃ v', e = .returned (.agg #[v']) ∧ TwinWd w.heap.size w' v' R ∧ Below w.heap.size w w' := by
  obtain ⟨i0, z0, hi, hz0, hz1, hz2, hz3, hz4⟩ := rowInfo
  obtain ⟨d0, hd0, hd1⟩ := rowRow
  obtain ⟨ao, n, cap, rfl, hnR⟩ : ∃ ao n cap, wv = .slice ao n cap ∧ n = R.length := by
    rcases hw with ⟨rfl, rfl⟩ | ⟨ad, cap, rfl, _⟩
    · exact ⟨_, _, _, rfl, rfl⟩
    · exact ⟨_, _, _, rfl, rfl⟩
  replace hw := Lib.hid hw
  replace hk := Lib.hid hk
  replace ht := Lib.hid ht
  rw [← hnR] at hn
  replace hnR := Lib.hid hnR
  go_enter Try.func30, Try.ntmps30
  go_wp2_with fail
  refine wp_loop_k (InvTw w (.slice ao n cap) R n) n ?_ ?_
  · refine ⟨0, .slice none 0 0, [], by omega, ⟨((below_alloc _ _).trans ((below_alloc _ _).mono (by simp))).trans ((below_alloc _ _).mono (by simp; omega)), ((Blk.new w _ _).alloc _).alloc _, ?_, ?_, by simpa [rowsFlat] using World.ownsRow_nil _ _ _ _, rfl, by simp⟩, by kernel_rfl, rfl, by kernel_rfl, by kernel_rfl, by kernel_rfl, by kernel_rfl⟩
    · have := (Blk.new (w.alloc (.cells #[.slice ao n cap] 38)) #[.slice none 0 0] 38).alloc (.cells #[.slice none 0 0] 38)
      simpa using this
    · have := Blk.new ((w.alloc (.cells #[.slice ao n cap] 38)).alloc (.cells #[.slice none 0 0] 38)) #[.slice none 0 0] 38
      simpa using this
  intro gk a wr hI K hK
  obtain ⟨i, v, tvs, hi0, hO, hs', hd', k1', k2', k3', k4'⟩ := hI
  rw [fr24 a hs' hd']; simp only [k1', k2', k3', k4']; clear hs' hd' k1' k2' k3' k4'
  have c0 : wr.cell? ⟨w.heap.size, 0, none⟩ = some (.slice ao n cap) := hO.out.box.cell (i := 0) rfl
  have l0 := hO.out.box.lt
  by_cases hl : i < n
  · have g1 : decide ((i : Int) < (n : Int)) = true := by simp; omega
    have g2 : (i : Int) < (n : Int) := by omega
    have g3 : IntKind.i64.wrap ((i : Int) + 1) = ((i + 1 : Nat) : Int) := by rw [wrap_i64_small _ (by omega) (by omega)]; omega
    obtain ⟨r, hr⟩ : ∃ r, R[i]? = some r := ⟨_, List.getElem?_eq_getElem (by have := hnR.out; omega)⟩
    obtain ⟨ad, rfl, tv, htv, hcs⟩ : ∃ ad, ao = some ad ∧ RowAt 0 w (ad.add (i * 57)) r := by
      rcases hw.out with ⟨h1, h2⟩ | ⟨ad, cap', h1, _, _, _, h2⟩
      · rw [h2] at hr
        simp at hr
      · simp only [Value.slice.injEq] at h1
        exact ⟨ad, h1.1, h2 i r hr⟩
    have hkr := hk.out r (List.mem_of_getElem? hr)
    have htr := ht.out r (List.mem_of_getElem? hr)
    have hlen : (r.hd ++ [tv]).length = 57 := by simp [hkr.hd.length]
    have hS : Hid (∀ W, Below w.heap.size w W → Blk W w.heap.size #[.slice (some ad) n cap] 38 → (∀ j u, (r.hd ++ [tv])[j]? = some u → W.cell? ((ad.add (i * 57)).add j) = some u) ∧ W.cell? ⟨w.heap.size, 0, none⟩ = some (.slice (some ad) n cap) ∧ w.heap.size < W.heap.size) := fun W hW hb =>
      ⟨fun j u hj => below_cell (hcs j u hj) hW (World.block_lt_of_cell? w _ (hcs j u hj)), hb.cell (i := 0) rfl, hb.lt⟩
    have hP : Hid (∀ W, Below w.heap.size w W → Calls Try.prog 78 #[.agg (r.hd ++ [tv]).toArray] W fun e w' => ∃ tv', e = .returned (.agg (r.hd ++ [tv']).toArray) ∧ TwinTab W.heap.size w' tv' r.tab ∧ Below W.heap.size W w') := fun W hW => twinR W r tv (htv.keep (KeepC.of_below hW)) hkr htr
    clear hcs htv
    replace hkr := Lib.hid hkr
    generalize hY : r.hd ++ [tv] = Y at *
    replace hY := Lib.hid hY
    go_upto_region 5 with fail
    have hbd : Below w.heap.size w wr.drew := bdrewN hO.out.bel 1
    have hO5 : Hid (TwnAt w (.slice (some ad) n cap) R i v tvs wr.drew) := hO.out.below (below_drewN wr 1)
    have hS5 := hS.out _ hbd hO5.out.box
    refine wp_region_held_drew (S := fun W => (∀ j u, Y[j]? = some u → W.cell? ((ad.add (i * 57)).add j) = some u) ∧ W.cell? ⟨w.heap.size, 0, none⟩ = some (.slice (some ad) n cap) ∧ w.heap.size < W.heap.size) (by kernel_rfl) hS5 (fun hHeld => ?_)
    clear hS5 hbd hO c0 l0
    generalize wr.drew = wa0 at *
    refine wpAnyH_take (i := 0) (oi := { dst := some 12, op := .fieldAddr _ (.tmp 3) 0, type := _, pos := _, after := _, guard := _ }) (v := ?_) rfl (by kernel_rfl) (by kernel_rfl) (by kernel_rfl) (fun _ _ _ h => h) (Or.inl ⟨by rfl, ?_⟩) (by assumption) ?_
    rotate_left
    · (intro w hSw; (try dsimp only at hSw); go_simp) <;> with_reducible rfl
    try simp only [Act.put, List.setIfInBounds_toArray, List.set_cons_zero, List.set_cons_succ]
    refine wpAnyH_take (i := 2) (oi := { dst := some 14, op := .fieldAddr _ (.tmp 1) 0, type := _, pos := _, after := _, guard := _ }) (v := ?_) rfl (by kernel_rfl) (by kernel_rfl) (by kernel_rfl) (fun _ _ _ h => h) (Or.inl ⟨by rfl, ?_⟩) (by assumption) ?_
    rotate_left
    · (intro w hSw; (try dsimp only at hSw); go_simp) <;> with_reducible rfl
    try simp only [Act.put, List.setIfInBounds_toArray, List.set_cons_zero, List.set_cons_succ]
    refine wpAnyH_take (i := 3) (oi := { dst := some 15, op := .load _ (.tmp 14), type := _, pos := _, after := _, guard := _ }) (v := ?_) rfl (by kernel_rfl) (by kernel_rfl) (by kernel_rfl) (fun _ _ _ h => h) (Or.inl ⟨by rfl, ?_⟩) (by assumption) ?_
    rotate_left
    · (intro w hSw; (try dsimp only at hSw); go_simp) <;> with_reducible rfl
    try simp only [Act.put, List.setIfInBounds_toArray, List.set_cons_zero, List.set_cons_succ]
    refine wpAnyH_take (i := 4) (oi := { dst := some 16, op := .move (.tmp 4), type := _, pos := _, after := _, guard := _ }) (v := ?_) rfl (by kernel_rfl) (by kernel_rfl) (by kernel_rfl) (fun _ _ _ h => h) (Or.inl ⟨by rfl, ?_⟩) (by assumption) ?_
    rotate_left
    · (intro w hSw; (try dsimp only at hSw); go_simp) <;> with_reducible rfl
    try simp only [Act.put, List.setIfInBounds_toArray, List.set_cons_zero, List.set_cons_succ]
    refine wpAnyH_take (i := 5) (oi := { dst := some 17, op := .indexAddr _ (.tmp 15) (.tmp 16), type := _, pos := _, after := _, guard := _ }) (v := ?_) rfl (by kernel_rfl) (by kernel_rfl) (by kernel_rfl) (fun _ _ _ h => h) (Or.inl ⟨by rfl, ?_⟩) (by assumption) ?_
    rotate_left
    · (intro w hSw; (try dsimp only at hSw); go_simp) <;> with_reducible rfl
    try simp only [Act.put, List.setIfInBounds_toArray, List.set_cons_zero, List.set_cons_succ]
    refine wpAnyH_take (i := 6) (oi := { dst := some 18, op := .load _ (.tmp 17), type := _, pos := _, after := _, guard := _ }) (v := .agg Y.toArray) rfl (by kernel_rfl) (by kernel_rfl) (by kernel_rfl) (fun _ _ _ h => h) (Or.inl ⟨by rfl, fun W hW => ex_load 97 (.tmp 17) rfl (ad.add (i * 57)) rfl Y d0 hW.1 hd0 hd1 (by rw [rowSize, hlen])⟩) (by assumption) ?_
    try simp only [Act.put, List.setIfInBounds_toArray, List.set_cons_zero, List.set_cons_succ]
    refine wpAnyH_ready (rs := [1, 7]) (by kernel_rfl) (by simp) ?_
    refine AllReadyH.cons (o := { dst := some 13, op := .load _ (.tmp 12), type := _, pos := _, after := _, guard := _ }) rfl (fun K6 hK6 => ?_) ?_
    · have o6 : wa0.cell? ⟨w.heap.size + 2, 0, none⟩ = some v := hO5.out.out.cell (i := 0) rfl
      have l6 := hO5.out.out.lt
      go_simp
      refine hK6.out _ _ (hS.out _ hO5.out.bel hO5.out.box) (fun hHeld => ?_)
      clear hK6 K6 o6 l6
      try simp only [Act.put, List.setIfInBounds_toArray, List.set_cons_zero, List.set_cons_succ]
      refine wpAnyH_ready (rs := [7]) (by kernel_rfl) (by simp) ?_
      refine AllReadyH.cons (o := { dst := some 19, op := .call { callee := .value (.func 78), args := _, argTypes := _ }, type := _, pos := _, after := _, guard := _ }) rfl (fun K6 hK6 => ?_) AllReadyH.nil
      go_simp
      refine (hP.out _ hO5.out.bel).mono ?_
      rintro e wa1 ⟨tv7, rfl, hT7, hb7⟩
      have hT5 := Lib.hid (hT7.mono hO5.out.bel.size)
      replace hO5 := Lib.hid (hO5.out.below hb7)
      refine hK6.out _ _ (hS.out _ hO5.out.bel hO5.out.box) (fun hHeld => ?_)
      clear hK6 K6 hT7 hb7
      have hZ1 : (r.hd ++ [tv7]).length = 57 := by simp [hkr.out.hd.length]
      have hZo : Hid (∀ u ∈ r.hd ++ [tv7], u.oneCell' = true) := by
        refine Lib.hid ?_
        intro u hu
        rcases List.mem_append.1 hu with hu | hu
        · exact Fits.one hkr.out.hd u hu
        · simp at hu
          subst hu
          obtain ⟨_, rfl, _⟩ := hT5.out
          rfl
      try simp only [Act.put, List.setIfInBounds_toArray, List.set_cons_zero, List.set_cons_succ]
      refine wpAnyH_ready (rs := [8]) (by kernel_rfl) (by simp) ?_
      refine AllReadyH.cons (o := { dst := some 20, op := .buildSlice 36 1 #[(0, .tmp 19)], type := _, pos := _, after := _, guard := _ }) rfl (fun K6 hK6 => ?_) AllReadyH.nil
      refine step_val rfl (ex_buildSlice1 36 97 (.tmp 19) rfl i0 z0 (r.hd ++ [tv7]).toArray Try.underlying36 hi hz0 (by simp [hZ1, hz1]) (by omega) (by omega) rfl) ?_
      replace hO5 := Lib.hid (hO5.out.below (below_alloc wa1 (.cells (r.hd ++ [tv7]).toArray 97)))
      replace hT5 := Lib.hid (hT5.out.below (below_alloc wa1 (.cells (r.hd ++ [tv7]).toArray 97)))
      have kn := Lib.hid (Blk.new wa1 (r.hd ++ [tv7]).toArray 97)
      refine hK6.out _ _ (hS.out _ hO5.out.bel hO5.out.box) (fun hHeld => ?_)
      clear hK6 K6
      generalize wa1.alloc (.cells (r.hd ++ [tv7]).toArray 97) = wa2 at *
      generalize wa1.heap.size = bn at *
      try simp only [Act.put, List.setIfInBounds_toArray, List.set_cons_zero, List.set_cons_succ]
      refine wpAnyH_ready (rs := [9]) (by kernel_rfl) (by simp) ?_
      refine AllReadyH.cons (o := { dst := some 21, op := .call { callee := .builtin .append, args := #[.tmp 13, .tmp 20], argTypes := #[36, 36] }, type := _, pos := _, after := _, guard := _ }) rfl (fun K6 hK6 => ?_) AllReadyH.nil
      refine step_append_big rfl (.tmp 13) (.tmp 20) 36 rfl w.heap.size 97 i0 z0 57 160 Try.underlying36 hi hz0 hz1 hz2 hz3 (by decide) v i (rowsFlat (R.take i) tvs) rfl hO5.out.row ⟨bn, 0, none⟩ 1 1 (r.hd ++ [tv7]) rfl (by simp [hZ1]) (fun j u hj => by rw [add_head]; exact kn.out.cell (by simpa using hj)) hZo.out (by unfold maxLen; omega) (by omega) hO5.out.bel.size ?_
      intro v1 wa3 hown hg _
      obtain ⟨g1', cp1, rfl⟩ : ∃ g c, v1 = .slice (some ⟨g, 0, none⟩) (i + 1) c := by
        rcases hown.2 with ⟨_, h⟩ | ⟨g, c, _, h, _⟩
        · omega
        · exact ⟨g, c, h⟩
      obtain ⟨e1, e2, e3, e4, e5, hO9⟩ := hO5.out.append hr hT5.out hown hg
      replace hO9 := Lib.hid hO9
      refine hK6.out _ _ (hS.out _ e4 e5) (fun hHeld => ?_)
      clear hK6 K6 hown hg hO5 hT5 kn e4 e5
      try simp only [Act.put, List.setIfInBounds_toArray, List.set_cons_zero, List.set_cons_succ]
      refine wpAnyH_take (i := 10) (oi := { dst := some 22, op := .fieldAddr _ (.tmp 3) 0, type := _, pos := _, after := _, guard := _ }) (v := ?_) rfl (by kernel_rfl) (by kernel_rfl) (by kernel_rfl) (fun _ _ _ h => h) (Or.inl ⟨by rfl, ?_⟩) (by assumption) ?_
      rotate_left
      · (intro w hSw; (try dsimp only at hSw); go_simp) <;> with_reducible rfl
      try simp only [Act.put, List.setIfInBounds_toArray, List.set_cons_zero, List.set_cons_succ]
      refine wpAnyH_ready (rs := [11]) (by kernel_rfl) (by simp) ?_
      refine AllReadyH.cons (o := { dst := none, op := .store _ (.tmp 22) (.tmp 21), type := _, pos := _, after := _, guard := _ }) rfl (fun K6 hK6 => ?_) AllReadyH.nil
      go_simp
      refine hK6.out _ _ (hS.out _ hO9.out.bel hO9.out.box) (fun hHeld => ?_)
      clear hK6 K6 e1 e2 e3
      generalize wa3.setCell ⟨w.heap.size + 2, 0, none⟩ (.slice (some ⟨g1', 0, none⟩) (i + 1) cp1) = w10 at *
      try simp only [Act.put, List.setIfInBounds_toArray, List.set_cons_zero, List.set_cons_succ]
      refine wpAnyH_done (by kernel_rfl) ?_ _
      clear hHeld hS hP
      go_wp2_with fail
      exact hK (n - (i + 1)) _ _ (by omega) ⟨i + 1, _, tvs ++ [tv7], by omega, hO9, by kernel_rfl, rfl, by kernel_rfl, by kernel_rfl, by kernel_rfl, by kernel_rfl⟩
    refine AllReadyH.cons (o := { dst := some 19, op := .call { callee := .value (.func 78), args := _, argTypes := _ }, type := _, pos := _, after := _, guard := _ }) rfl (fun K6 hK6 => ?_) AllReadyH.nil
    go_simp
    refine (hP.out _ hO5.out.bel).mono ?_
    rintro e wa1 ⟨tv7, rfl, hT7, hb7⟩
    have hT5 := Lib.hid (hT7.mono hO5.out.bel.size)
    replace hO5 := Lib.hid (hO5.out.below hb7)
    refine hK6.out _ _ (hS.out _ hO5.out.bel hO5.out.box) (fun hHeld => ?_)
    clear hK6 K6 hT7 hb7
    have hZ1 : (r.hd ++ [tv7]).length = 57 := by simp [hkr.out.hd.length]
    have hZo : Hid (∀ u ∈ r.hd ++ [tv7], u.oneCell' = true) := by
      refine Lib.hid ?_
      intro u hu
      rcases List.mem_append.1 hu with hu | hu
      · exact Fits.one hkr.out.hd u hu
      · simp at hu
        subst hu
        obtain ⟨_, rfl, _⟩ := hT5.out
        rfl
    try simp only [Act.put, List.setIfInBounds_toArray, List.set_cons_zero, List.set_cons_succ]
    refine wpAnyH_ready (rs := [1, 8]) (by kernel_rfl) (by simp) ?_
    refine AllReadyH.cons (o := { dst := some 13, op := .load _ (.tmp 12), type := _, pos := _, after := _, guard := _ }) rfl (fun K6 hK6 => ?_) ?_
    · have o6 : wa1.cell? ⟨w.heap.size + 2, 0, none⟩ = some v := hO5.out.out.cell (i := 0) rfl
      have l6 := hO5.out.out.lt
      go_simp
      refine hK6.out _ _ (hS.out _ hO5.out.bel hO5.out.box) (fun hHeld => ?_)
      clear hK6 K6 o6 l6
      try simp only [Act.put, List.setIfInBounds_toArray, List.set_cons_zero, List.set_cons_succ]
      refine wpAnyH_ready (rs := [8]) (by kernel_rfl) (by simp) ?_
      refine AllReadyH.cons (o := { dst := some 20, op := .buildSlice 36 1 #[(0, .tmp 19)], type := _, pos := _, after := _, guard := _ }) rfl (fun K6 hK6 => ?_) AllReadyH.nil
      refine step_val rfl (ex_buildSlice1 36 97 (.tmp 19) rfl i0 z0 (r.hd ++ [tv7]).toArray Try.underlying36 hi hz0 (by simp [hZ1, hz1]) (by omega) (by omega) rfl) ?_
      replace hO5 := Lib.hid (hO5.out.below (below_alloc wa1 (.cells (r.hd ++ [tv7]).toArray 97)))
      replace hT5 := Lib.hid (hT5.out.below (below_alloc wa1 (.cells (r.hd ++ [tv7]).toArray 97)))
      have kn := Lib.hid (Blk.new wa1 (r.hd ++ [tv7]).toArray 97)
      refine hK6.out _ _ (hS.out _ hO5.out.bel hO5.out.box) (fun hHeld => ?_)
      clear hK6 K6
      generalize wa1.alloc (.cells (r.hd ++ [tv7]).toArray 97) = wa2 at *
      generalize wa1.heap.size = bn at *
      try simp only [Act.put, List.setIfInBounds_toArray, List.set_cons_zero, List.set_cons_succ]
      refine wpAnyH_ready (rs := [9]) (by kernel_rfl) (by simp) ?_
      refine AllReadyH.cons (o := { dst := some 21, op := .call { callee := .builtin .append, args := #[.tmp 13, .tmp 20], argTypes := #[36, 36] }, type := _, pos := _, after := _, guard := _ }) rfl (fun K6 hK6 => ?_) AllReadyH.nil
      refine step_append_big rfl (.tmp 13) (.tmp 20) 36 rfl w.heap.size 97 i0 z0 57 160 Try.underlying36 hi hz0 hz1 hz2 hz3 (by decide) v i (rowsFlat (R.take i) tvs) rfl hO5.out.row ⟨bn, 0, none⟩ 1 1 (r.hd ++ [tv7]) rfl (by simp [hZ1]) (fun j u hj => by rw [add_head]; exact kn.out.cell (by simpa using hj)) hZo.out (by unfold maxLen; omega) (by omega) hO5.out.bel.size ?_
      intro v1 wa3 hown hg _
      obtain ⟨g1', cp1, rfl⟩ : ∃ g c, v1 = .slice (some ⟨g, 0, none⟩) (i + 1) c := by
        rcases hown.2 with ⟨_, h⟩ | ⟨g, c, _, h, _⟩
        · omega
        · exact ⟨g, c, h⟩
      obtain ⟨e1, e2, e3, e4, e5, hO9⟩ := hO5.out.append hr hT5.out hown hg
      replace hO9 := Lib.hid hO9
      refine hK6.out _ _ (hS.out _ e4 e5) (fun hHeld => ?_)
      clear hK6 K6 hown hg hO5 hT5 kn e4 e5
      try simp only [Act.put, List.setIfInBounds_toArray, List.set_cons_zero, List.set_cons_succ]
      refine wpAnyH_take (i := 10) (oi := { dst := some 22, op := .fieldAddr _ (.tmp 3) 0, type := _, pos := _, after := _, guard := _ }) (v := ?_) rfl (by kernel_rfl) (by kernel_rfl) (by kernel_rfl) (fun _ _ _ h => h) (Or.inl ⟨by rfl, ?_⟩) (by assumption) ?_
      rotate_left
      · (intro w hSw; (try dsimp only at hSw); go_simp) <;> with_reducible rfl
      try simp only [Act.put, List.setIfInBounds_toArray, List.set_cons_zero, List.set_cons_succ]
      refine wpAnyH_ready (rs := [11]) (by kernel_rfl) (by simp) ?_
      refine AllReadyH.cons (o := { dst := none, op := .store _ (.tmp 22) (.tmp 21), type := _, pos := _, after := _, guard := _ }) rfl (fun K6 hK6 => ?_) AllReadyH.nil
      go_simp
      refine hK6.out _ _ (hS.out _ hO9.out.bel hO9.out.box) (fun hHeld => ?_)
      clear hK6 K6 e1 e2 e3
      generalize wa3.setCell ⟨w.heap.size + 2, 0, none⟩ (.slice (some ⟨g1', 0, none⟩) (i + 1) cp1) = w10 at *
      try simp only [Act.put, List.setIfInBounds_toArray, List.set_cons_zero, List.set_cons_succ]
      refine wpAnyH_done (by kernel_rfl) ?_ _
      clear hHeld hS hP
      go_wp2_with fail
      exact hK (n - (i + 1)) _ _ (by omega) ⟨i + 1, _, tvs ++ [tv7], by omega, hO9, by kernel_rfl, rfl, by kernel_rfl, by kernel_rfl, by kernel_rfl, by kernel_rfl⟩
    refine AllReadyH.cons (o := { dst := some 20, op := .buildSlice 36 1 #[(0, .tmp 19)], type := _, pos := _, after := _, guard := _ }) rfl (fun K6 hK6 => ?_) AllReadyH.nil
    refine step_val rfl (ex_buildSlice1 36 97 (.tmp 19) rfl i0 z0 (r.hd ++ [tv7]).toArray Try.underlying36 hi hz0 (by simp [hZ1, hz1]) (by omega) (by omega) rfl) ?_
    replace hO5 := Lib.hid (hO5.out.below (below_alloc wa1 (.cells (r.hd ++ [tv7]).toArray 97)))
    replace hT5 := Lib.hid (hT5.out.below (below_alloc wa1 (.cells (r.hd ++ [tv7]).toArray 97)))
    have kn := Lib.hid (Blk.new wa1 (r.hd ++ [tv7]).toArray 97)
    refine hK6.out _ _ (hS.out _ hO5.out.bel hO5.out.box) (fun hHeld => ?_)
    clear hK6 K6
    generalize wa1.alloc (.cells (r.hd ++ [tv7]).toArray 97) = wa2 at *
    generalize wa1.heap.size = bn at *
    try simp only [Act.put, List.setIfInBounds_toArray, List.set_cons_zero, List.set_cons_succ]
    refine wpAnyH_ready (rs := [1]) (by kernel_rfl) (by simp) ?_
    refine AllReadyH.cons (o := { dst := some 13, op := .load _ (.tmp 12), type := _, pos := _, after := _, guard := _ }) rfl (fun K6 hK6 => ?_) AllReadyH.nil
    have o6 : wa2.cell? ⟨w.heap.size + 2, 0, none⟩ = some v := hO5.out.out.cell (i := 0) rfl
    have l6 := hO5.out.out.lt
    go_simp
    refine hK6.out _ _ (hS.out _ hO5.out.bel hO5.out.box) (fun hHeld => ?_)
    clear hK6 K6 o6 l6
    try simp only [Act.put, List.setIfInBounds_toArray, List.set_cons_zero, List.set_cons_succ]
    refine wpAnyH_ready (rs := [9]) (by kernel_rfl) (by simp) ?_
    refine AllReadyH.cons (o := { dst := some 21, op := .call { callee := .builtin .append, args := #[.tmp 13, .tmp 20], argTypes := #[36, 36] }, type := _, pos := _, after := _, guard := _ }) rfl (fun K6 hK6 => ?_) AllReadyH.nil
    refine step_append_big rfl (.tmp 13) (.tmp 20) 36 rfl w.heap.size 97 i0 z0 57 160 Try.underlying36 hi hz0 hz1 hz2 hz3 (by decide) v i (rowsFlat (R.take i) tvs) rfl hO5.out.row ⟨bn, 0, none⟩ 1 1 (r.hd ++ [tv7]) rfl (by simp [hZ1]) (fun j u hj => by rw [add_head]; exact kn.out.cell (by simpa using hj)) hZo.out (by unfold maxLen; omega) (by omega) hO5.out.bel.size ?_
    intro v1 wa3 hown hg _
    obtain ⟨g1', cp1, rfl⟩ : ∃ g c, v1 = .slice (some ⟨g, 0, none⟩) (i + 1) c := by
      rcases hown.2 with ⟨_, h⟩ | ⟨g, c, _, h, _⟩
      · omega
      · exact ⟨g, c, h⟩
    obtain ⟨e1, e2, e3, e4, e5, hO9⟩ := hO5.out.append hr hT5.out hown hg
    replace hO9 := Lib.hid hO9
    refine hK6.out _ _ (hS.out _ e4 e5) (fun hHeld => ?_)
    clear hK6 K6 hown hg hO5 hT5 kn e4 e5
    try simp only [Act.put, List.setIfInBounds_toArray, List.set_cons_zero, List.set_cons_succ]
    refine wpAnyH_take (i := 10) (oi := { dst := some 22, op := .fieldAddr _ (.tmp 3) 0, type := _, pos := _, after := _, guard := _ }) (v := ?_) rfl (by kernel_rfl) (by kernel_rfl) (by kernel_rfl) (fun _ _ _ h => h) (Or.inl ⟨by rfl, ?_⟩) (by assumption) ?_
    rotate_left
    · (intro w hSw; (try dsimp only at hSw); go_simp) <;> with_reducible rfl
    try simp only [Act.put, List.setIfInBounds_toArray, List.set_cons_zero, List.set_cons_succ]
    refine wpAnyH_ready (rs := [11]) (by kernel_rfl) (by simp) ?_
    refine AllReadyH.cons (o := { dst := none, op := .store _ (.tmp 22) (.tmp 21), type := _, pos := _, after := _, guard := _ }) rfl (fun K6 hK6 => ?_) AllReadyH.nil
    go_simp
    refine hK6.out _ _ (hS.out _ hO9.out.bel hO9.out.box) (fun hHeld => ?_)
    clear hK6 K6 e1 e2 e3
    generalize wa3.setCell ⟨w.heap.size + 2, 0, none⟩ (.slice (some ⟨g1', 0, none⟩) (i + 1) cp1) = w10 at *
    try simp only [Act.put, List.setIfInBounds_toArray, List.set_cons_zero, List.set_cons_succ]
    refine wpAnyH_done (by kernel_rfl) ?_ _
    clear hHeld hS hP
    go_wp2_with fail
    exact hK (n - (i + 1)) _ _ (by omega) ⟨i + 1, _, tvs ++ [tv7], by omega, hO9, by kernel_rfl, rfl, by kernel_rfl, by kernel_rfl, by kernel_rfl, by kernel_rfl⟩
  have g1 : decide ((i : Int) < (n : Int)) = false := by simp; omega
  have g2 : ¬ (i : Int) < (n : Int) := by omega
  obtain rfl : i = n := by omega
  have hF := hO.out
  rw [hnR.out] at hF
  replace hF := Lib.hid hF.fin
  have o0 := hO.out.out.cell (i := 0) rfl
  have r0 := hO.out.res.cell (i := 0) rfl
  have rf := hO.out.res.free 0
  have rl := hO.out.res.lt
  obtain ⟨av, nv, cv, rfl⟩ : ∃ a n c, v = .slice a n c := by
    rcases hO.out.row.2 with ⟨h, _⟩ | ⟨_, _, _, h, _⟩
    · exact ⟨_, _, _, h⟩
    · exact ⟨_, _, _, h⟩
  go_wp2_with fail
  have kb := (hO.out.res.set 0 (.slice av nv cv)).congr (c' := #[.slice av nv cv]) rfl
  have hT : Touch [w.heap.size + 1] wr (wr.setCell ⟨w.heap.size + 1, 0, none⟩ (.slice av nv cv)) := (Touch.refl [w.heap.size + 1] wr).setCell (p := ⟨w.heap.size + 1, 0, none⟩) (.inl (by simp)) _
  refine bodyPost_ret (v := .agg #[.slice av nv cv]) (results_cell_row (p := 2) (ty := 38) (by kernel_rfl) _ _ (w.heap.size + 1) 38 _ (0, 0) _ (by rfl) kb.out Try.underlying38 rfl (by kernel_rfl)) rfl ⟨_, rfl, hF.out.blk (fun g c U hU hg => hg.touch hT ?_), hT.below hO.out.bel hO.out.bel.size (by simp)⟩
  have e1 := hg.ne hO.out.res (by rcases hU with rfl | rfl <;> decide)
  simpa using e1
end Go.Proofs.Ytmdohnbhogfopaa
/- Left: is a twin, and its room, as it was? -/
namespace Go.Proofs.Ytmdohnbhogfopaa
open Go.RowKit
set_option linter.unusedSimpArgs false
set_option linter.unusedVariables false
set_option maxRecDepth 100000
theorem markL_ok : HeldOk markL := by
  have h : HeldOk zeroH := zeroH_ok
  exact ⟨⟨false, rfl⟩, ⟨-77, rfl, by decide⟩, h.2.2⟩
theorem equal_held1 (W : World) (cs cs' : List Value) (h : HeldOk cs) (h' : HeldOk cs') : (Op.equalIn 10000 163 (.agg cs.toArray) (.agg cs'.toArray)).run Try.prog W = .ok (sameL cs cs') W :=
  equal_ks Try.underlying163 (by kernel_rfl) (by kernel_rfl) (by kernel_rfl) W cs cs' h h'
theorem guard_held1 : Try.prog.eqGuardType Try.prog.depth 163 = false := by kernel_rfl
theorem TwinTab.tab {lo : Nat} {w : World} {v : Value} {Ts : List (List Value)} (h : TwinTab lo w v Ts) (hk : ∀ t ∈ Ts, HeldOk t) (hn : Ts.length ≤ 1000000) : TabAt lo w v Ts := by
  obtain ⟨g, rfl, hown⟩ := h
  have hlt := hown.lt g rfl
  refine .inr ⟨_, _, rfl, by omega, by unfold maxLen; omega, hlt.1, fun j u hj => ?_⟩
  have hj2 := (List.getElem?_eq_some_iff.1 hj).1
  have hl := flat_length hk
  rw [add_head, hown.cellAt j (by omega), List.getElem?_append_left (by omega)]
  exact hj
theorem TwinTab.mark {lo : Nat} {w : World} {g : Nat} {Ts : List (List Value)} (h : w.ownsRow lo 163 56 (.slice (some ⟨g, 0, none⟩) (Ts.length + 2) (Ts.length + 2)) (Ts.length + 2) (Ts.flatten ++ (markL ++ markL))) (hk : ∀ t ∈ Ts, HeldOk t)
    {i : Nat} (h1 : Ts.length ≤ i) (h2 : i < Ts.length + 2) : ∀ j u, markL[j]? = some u → w.cell? (((⟨g, 0, none⟩ : Addr).add (i * 56)).add j) = some u := fun j u hj => by
  have hj2 : j < 56 := (List.getElem?_eq_some_iff.1 hj).1
  have hl := flat_length hk
  have hm : markL.length = 56 := rfl
  rw [add_head, Addr.add_mid, h.cellAt _ (by omega), List.getElem?_append_right (by omega)]
  by_cases e : i = Ts.length
  · subst e
    rw [List.getElem?_append_left (by omega), hl, Nat.add_sub_cancel_left]
    exact hj
  · obtain rfl : i = Ts.length + 1 := by omega
    rw [List.getElem?_append_right (by omega), hl, hm]
    have : (Ts.length + 1) * 56 + j - Ts.length * 56 - 56 = j := by omega
    rw [this]
    exact hj
def InvLf (w w2 : World) (ad : Addr) (n m : Nat) (k : Nat) (a : Act) (wr : World) : Prop :=
  ∃ i, i + k = m ∧ n ≤ i ∧ wr = w2 ∧ a.tmps.size = 43 ∧ a.defers = [] ∧ slot a 2 = .pointer (some ⟨w.heap.size, 0, none⟩) ∧ slot a 3 = .pointer (some ⟨w.heap.size + 1, 0, none⟩) ∧ slot a 5 = .slice (some ad) m m ∧ slot a 6 = .int .i64 i
set_option maxHeartbeats 4000000 in
theorem leftR (lo : Nat) (w : World) (r : RowC) (tv1 tv : Value) (h1 : TwinTab lo w tv1 r.tab) (h : TabAt 0 w tv r.tab) (hk : RowOk r) (hn : r.tab.length ≤ 1000000) :
    Calls Try.prog 84 #[.agg (r.hd ++ [tv1]).toArray, .agg (r.hd ++ [tv]).toArray] w fun e w' => e = .returned (.bool true) ∧ Below w.heap.size w w' := by
  obtain ⟨d0, hd0, hd1⟩ := rowRow
  obtain ⟨d1, he0, he1⟩ := heldRow
  obtain ⟨b, c, hhd, hfc, hlc⟩ := hk.hd.split
  have hsz : ∀ v', (r.hd ++ [v']).toArray.size = 57 := fun v' => by simp [hk.hd.length]
  have P1 : Hid (∀ W tv, TabAt 0 W tv r.tab → Calls Try.prog 69 #[.agg (r.hd ++ [tv]).toArray] W fun e w' => ∃ tv', e = .returned (.agg (r.hd ++ [tv']).toArray) ∧ OwnTab 204 W.heap.size w' tv' r.tab ∧ Below W.heap.size W w') := fun W tv ht => otherR W r tv ht hk hn
  have P2 : Hid (∀ W ta tb, TabAt 0 W ta r.tab → TabAt 0 W tb r.tab → Calls Try.prog 68 #[.agg (r.hd ++ [ta]).toArray, .agg (r.hd ++ [tb]).toArray] W fun e w' => e = .returned (.bool true) ∧ Below W.heap.size W w') := fun W ta tb ha hb => by
    have := sameR W b c c ta tb r.tab ha hb hfc hfc hk.tab hn
    rw [sameL_self hfc] at this
    rw [hhd]
    exact this
  have ht1 := Lib.hid ((h1.tab hk.tab hn).mono (Nat.zero_le lo))
  replace h := Lib.hid h
  obtain ⟨g, rfl, hown⟩ := h1
  have hmk : Hid (∀ W, Below w.heap.size w W → ∀ i, r.tab.length ≤ i → i < r.tab.length + 2 → ∀ j u, markL[j]? = some u → W.cell? (((⟨g, 0, none⟩ : Addr).add (i * 56)).add j) = some u) := fun W hW i h1 h2 j u hj => by
    have := TwinTab.mark hown hk.tab h1 h2 j u hj
    exact below_cell this hW (World.block_lt_of_cell? w _ this)
  have hX : (r.hd ++ [Value.slice (some ⟨g, 0, none⟩) r.tab.length (r.tab.length + 2)]).toArray[56]? = some (Value.slice (some ⟨g, 0, none⟩) r.tab.length (r.tab.length + 2)) := by simp [hk.hd.length]
  have hX1 := hsz (Value.slice (some ⟨g, 0, none⟩) r.tab.length (r.tab.length + 2))
  have hY1 := hsz tv
  clear hk hown hhd hfc hlc hsz
  obtain ⟨m, hm⟩ : ∃ m : Nat, m = r.tab.length + 2 := ⟨_, rfl⟩
  rw [← hm] at ht1 hmk hX hX1 ⊢
  generalize hne : r.tab.length = n at *
  replace hne := Lib.hid hne
  generalize hade : (⟨g, 0, none⟩ : Addr) = ad at *
  clear hade
  have gm : IntKind.i64.wrap ((n : Int) + 2) = (m : Int) := by rw [wrap_i64_small _ (by omega) (by omega)]; omega
  generalize hXe : (r.hd ++ [Value.slice (some ad) n m]).toArray = X at *
  generalize hYe : (r.hd ++ [tv]).toArray = Y at *
  have P11 : Hid (∀ W, Below w.heap.size w W → Calls Try.prog 69 #[.agg X] W fun e w' => ∃ tv', e = .returned (.agg (r.hd ++ [tv']).toArray) ∧ OwnTab 204 W.heap.size w' tv' r.tab ∧ Below W.heap.size W w') := fun W hW => by
    rw [← hXe]
    exact P1.out W _ (ht1.out.keep (KeepC.of_below hW))
  have P12 : Hid (∀ W, Below w.heap.size w W → Calls Try.prog 69 #[.agg Y] W fun e w' => ∃ tv', e = .returned (.agg (r.hd ++ [tv']).toArray) ∧ OwnTab 204 W.heap.size w' tv' r.tab ∧ Below W.heap.size W w') := fun W hW => by
    rw [← hYe]
    exact P1.out W _ (h.out.keep (KeepC.of_below hW))
  clear P1 ht1 h hXe hYe
  replace hX := Lib.hid hX
  go_enter Try.func84, Try.ntmps84
  go_upto_region 1 with (first | refine wpList_val rfl (ex_box 97 (.tmp 0) rfl X rfl) ?_ | refine wpList_val rfl (ex_box 97 (.tmp 1) rfl Y rfl) ?_ | fail)
  have hb1 : Below w.heap.size w ((w.alloc (.cells X 97)).alloc (.cells Y 97)) := (below_alloc _ _).trans ((below_alloc _ _).mono (by simp))
  have k0 : Blk ((w.alloc (.cells X 97)).alloc (.cells Y 97)) w.heap.size X 97 := (Blk.new w _ _).alloc _
  have k1 : Blk ((w.alloc (.cells X 97)).alloc (.cells Y 97)) (w.heap.size + 1) Y 97 := by
    have := Blk.new (w.alloc (.cells X 97)) Y 97
    simpa using this
  generalize (w.alloc (.cells X 97)).alloc (.cells Y 97) = w1 at *
  have hS : Hid (∀ W, Below w1.heap.size w1 W → W.rangeAt w.heap.size 0 X.toList ∧ W.rangeAt (w.heap.size + 1) 0 Y.toList) := fun W hW =>
    ⟨fun j u hj => by
      have := (k0.below hW k0.lt).cell (i := j) (v := u) (by simpa using hj)
      simpa using this, fun j u hj => by
      have := (k1.below hW k1.lt).cell (i := j) (v := u) (by simpa using hj)
      simpa using this⟩
  replace hb1 := Lib.hid hb1
  replace k0 := Lib.hid k0
  clear k1
  have hbd : Below w1.heap.size w1 w1.drew := below_drewN w1 1
  refine wp_region_held_drew (S := fun W => W.rangeAt w.heap.size 0 X.toList ∧ W.rangeAt (w.heap.size + 1) 0 Y.toList) (by kernel_rfl) (hS.out _ hbd) (fun hHeld => ?_)
  replace hbd := Lib.hid hbd
  generalize w1.drew = wa0 at *
  refine wpAnyH_take (i := 0) (oi := { dst := some 7, op := .load _ (.tmp 2), type := _, pos := _, after := _, guard := _ }) (v := .agg X) rfl (by kernel_rfl) (by kernel_rfl) (by kernel_rfl) (fun _ _ _ h => h) (yieldsIf_load_mid (by rfl) _ _ rfl _ _ rfl X.toList _ (fun W hW => hW.1) hd0 hd1 (by rw [rowSize]; simp [hX1])) (by assumption) ?_
  try simp only [Act.put, List.setIfInBounds_toArray, List.set_cons_zero, List.set_cons_succ]
  refine wpAnyH_take (i := 2) (oi := { dst := some 9, op := .load _ (.tmp 3), type := _, pos := _, after := _, guard := _ }) (v := .agg Y) rfl (by kernel_rfl) (by kernel_rfl) (by kernel_rfl) (fun _ _ _ h => h) (yieldsIf_load_mid (by rfl) _ _ rfl _ _ rfl Y.toList _ (fun W hW => hW.2) hd0 hd1 (by rw [rowSize]; simp [hY1])) (by assumption) ?_
  try simp only [Act.put, List.setIfInBounds_toArray, List.set_cons_zero, List.set_cons_succ]
  refine wpAnyH_ready (rs := [1]) (by kernel_rfl) (by simp) ?_
  refine AllReadyH.cons (o := { dst := some 8, op := .call { callee := .value (.func 69), args := _, argTypes := _ }, type := _, pos := _, after := _, guard := _ }) rfl (fun K6 hK6 => ?_) AllReadyH.nil
  go_simp
  refine (P11.out _ (bthen hb1.out hbd.out)).mono ?_
  rintro e wa1 ⟨ta, rfl, hTa, hb7⟩
  replace hTa := Lib.hid hTa
  replace hbd := Lib.hid (bthen hbd.out hb7)
  refine hK6.out _ _ (hS.out _ hbd.out) (fun hHeld => ?_)
  clear hK6 K6 hb7
  try simp only [Act.put, List.setIfInBounds_toArray, List.set_cons_zero, List.set_cons_succ]
  refine wpAnyH_ready (rs := [3]) (by kernel_rfl) (by simp) ?_
  refine AllReadyH.cons (o := { dst := some 10, op := .call { callee := .value (.func 69), args := _, argTypes := _ }, type := _, pos := _, after := _, guard := _ }) rfl (fun K6 hK6 => ?_) AllReadyH.nil
  go_simp
  refine (P12.out _ (bthen hb1.out hbd.out)).mono ?_
  rintro e wa2 ⟨tb, rfl, hTb, hb7⟩
  replace hTa := Lib.hid (hTa.out.below hb7 (Nat.le_refl _))
  replace hTb := Lib.hid hTb
  replace hbd := Lib.hid (bthen hbd.out hb7)
  refine hK6.out _ _ (hS.out _ hbd.out) (fun hHeld => ?_)
  clear hK6 K6 hb7
  try simp only [Act.put, List.setIfInBounds_toArray, List.set_cons_zero, List.set_cons_succ]
  refine wpAnyH_ready (rs := [4]) (by kernel_rfl) (by simp) ?_
  refine AllReadyH.cons (o := { dst := some 11, op := .call { callee := .value (.func 68), args := _, argTypes := _ }, type := _, pos := _, after := _, guard := _ }) rfl (fun K6 hK6 => ?_) AllReadyH.nil
  go_simp
  refine (P2.out _ _ _ (hTa.out.tab.mono (Nat.zero_le _)) (hTb.out.tab.mono (Nat.zero_le _))).mono ?_
  rintro e wa3 ⟨rfl, hb7⟩
  replace hbd := Lib.hid (bthen hbd.out hb7)
  refine hK6.out _ _ (hS.out _ hbd.out) (fun hHeld => ?_)
  clear hK6 K6 hb7 hTa hTb
  try simp only [Act.put, List.setIfInBounds_toArray, List.set_cons_zero, List.set_cons_succ]
  refine wpAnyH_take (i := 5) (oi := { dst := some 12, op := .unOp _ _ (.tmp 11), type := _, pos := _, after := _, guard := _ }) (v := ?_) rfl (by kernel_rfl) (by kernel_rfl) (by kernel_rfl) (fun _ _ _ h => h) (Or.inl ⟨by rfl, ?_⟩) (by assumption) ?_
  rotate_left
  · (intro w hSw; (try dsimp only at hSw); go_simp) <;> with_reducible rfl
  try simp only [Act.put, List.setIfInBounds_toArray, List.set_cons_zero, List.set_cons_succ]
  refine wpAnyH_done (by kernel_rfl) ?_ _
  clear hHeld hS P11 P12 P2
  have hbw := Lib.hid (bthen hb1.out hbd.out)
  have k3 := Lib.hid (k0.out.below hbd.out k0.out.lt)
  have c56 : wa3.cell? ⟨w.heap.size, 56, none⟩ = some (.slice (some ad) n m) := k3.out.cell hX.out
  have l3 := k3.out.lt
  have lm1 : n ≤ m := by omega
  have lm2 : decide ((n : Int) ≤ (m : Int)) = true := by simp; omega
  clear hb1 hbd k0
  replace hm := Lib.hid hm
  go_wp2_with fail
  refine wp_loop_k (InvLf w wa3 ad n m) (m - n) ?_ ?_
  · exact ⟨n, by have := hm.out; omega, Nat.le_refl _, rfl, by kernel_rfl, rfl, by kernel_rfl, by kernel_rfl, by kernel_rfl, by kernel_rfl⟩
  intro gk a wr hI K hK
  obtain ⟨i, hi0, hni, rfl, hs', hd', k2', k3', k5', k6'⟩ := hI
  rw [fr43 a hs' hd']; simp only [k2', k3', k5', k6']; clear hs' hd' k2' k3' k5' k6'
  by_cases hl : i < m
  · have g1 : decide ((i : Int) < (m : Int)) = true := by simp; omega
    have g2 : (i : Int) < (m : Int) := by omega
    have g3 : IntKind.i64.wrap ((i : Int) + 1) = ((i + 1 : Nat) : Int) := by rw [wrap_i64_small _ (by have := hm.out; omega) (by have := hm.out; omega)]; omega
    have hci := Lib.hid (hmk.out _ hbw.out i hni hl)
    go_wp2_with (first | refine wpList_val rfl (ex_load 163 (.tmp 38) rfl (ad.add (i * 56)) rfl markL d1 hci.out he0 he1 (by rw [heldSize]; rfl)) ?_ | refine wpList_val rfl (ex_build 94 #[(0, .const (.int .i64 (-77)))] rfl _ rfl markC.toArray built_markC) ?_ | refine wpList_val rfl (ex_build 163 #[(1, .tmp 40)] rfl [(1, .agg markC.toArray)] (by rfl) markL.toArray built_mark) ?_ | refine wpList_val rfl (ex_neqS true 163 _ (.tmp 39) (.tmp 41) rfl markL markL rfl rfl guard_held1 (by rw [equal_held1 _ _ _ markL_ok markL_ok, sameL_self markL_ok])) ?_ | fail)
    exact hK (m - (i + 1)) _ _ (by omega) ⟨i + 1, by omega, by omega, rfl, by kernel_rfl, rfl, by kernel_rfl, by kernel_rfl, by kernel_rfl, by kernel_rfl⟩
  · have g1 : decide ((i : Int) < (m : Int)) = false := by simp; omega
    have g2 : ¬ (i : Int) < (m : Int) := by omega
    go_wp2_with fail
    go_ret
    exact ⟨rfl, hbw.out⟩
end Go.Proofs.Ytmdohnbhogfopaa
/- LeftWord: are twins, and their rooms, as they were? -/
namespace Go.Proofs.Ytmdohnbhogfopaa
open Go.RowKit
set_option linter.unusedSimpArgs false
set_option linter.unusedVariables false
set_option maxRecDepth 100000
theorem TwinWd.len {lo : Nat} {w : World} {v : Value} {R : List RowC} (h : TwinWd lo w v R) (hk : ∀ r ∈ R, RowOk r) : ∃ ao n cap, n = R.length ∧ v = .slice ao n cap ∧
    ∀ r i, R[i]? = some r → ∃ ad, ao = some ad ∧ ∃ tv, TwinTab lo w tv r.tab ∧ ∀ j u, (r.hd ++ [tv])[j]? = some u → w.cell? ((ad.add (i * 57)).add j) = some u := by
  rcases h with ⟨rfl, rfl⟩ | ⟨g, cap, cur, tvs, h1, h2, h3, h4, h5, h6, h7, h8, h9⟩
  · exact ⟨none, 0, 0, rfl, rfl, fun r i h => by simp at h⟩
  · refine ⟨_, _, cap, rfl, h1, fun r i hi => ⟨_, rfl, ?_⟩⟩
    have hil := (List.getElem?_eq_some_iff.1 hi).1
    obtain ⟨tv, ht⟩ : ∃ tv, tvs[i]? = some tv := ⟨_, List.getElem?_eq_getElem (by omega)⟩
    refine ⟨tv, h9 i r tv hi ht, fun j u hj => ?_⟩
    have := rowsFlat_get h8 hk hi ht j u hj
    rw [← h7, List.getElem?_take] at this
    split at this
    · rw [add_head, Addr.add_mid]
      exact h5.cell (by simpa using this)
    · simp at this
def InvLw (w : World) (n : Nat) (tv wv : Value) (k : Nat) (a : Act) (wr : World) : Prop :=
  ∃ i, i + k = n ∧ Hid (Below w.heap.size w wr ∧ Blk wr w.heap.size #[tv] 38 ∧ Blk wr (w.heap.size + 1) #[wv] 38) ∧ a.tmps.size = 32 ∧ a.defers = [] ∧ slot a 2 = .pointer (some ⟨w.heap.size, 0, none⟩) ∧ slot a 3 = .pointer (some ⟨w.heap.size + 1, 0, none⟩) ∧ slot a 5 = .int .i64 i
set_option maxHeartbeats 4000000 in
theorem leftWordR (lo : Nat) (w : World) (tw ww : Value) (R : List RowC) (h1 : TwinWd lo w tw R) (h : WordAt 0 w ww R) (hk : ∀ r ∈ R, RowOk r) (hn : R.length ≤ 1000000) (ht : ∀ r ∈ R, r.tab.length ≤ 1000000) :
    Calls Try.prog 36 #[.agg #[tw], .agg #[ww]] w fun e w' => e = .returned (.bool true) ∧ Below w.heap.size w w' := by
  obtain ⟨d0, hd0, hd1⟩ := rowRow
  obtain ⟨ao, n, cap, hnE, rfl, hT⟩ := h1.len hk
  obtain ⟨ao', n', cap', hnE', rfl, hT'⟩ := h.len
  obtain rfl : n' = n := by omega
  rw [← hnE] at hn
  clear h1 h
  replace hT := Lib.hid hT
  replace hT' := Lib.hid hT'
  replace hk := Lib.hid hk
  replace ht := Lib.hid ht
  replace hnE := Lib.hid hnE
  clear hnE'
  have g0 : ((n' : Int) != (n' : Int)) = false := by simp
  go_enter Try.func36, Try.ntmps36
  go_wp2_with fail
  refine wp_loop_k (InvLw w n' (.slice ao n' cap) (.slice ao' n' cap')) n' ?_ ?_
  · refine ⟨0, by omega, ⟨(below_alloc _ _).trans ((below_alloc _ _).mono (by simp)), (Blk.new w _ _).alloc _, ?_⟩, by kernel_rfl, rfl, by kernel_rfl, by kernel_rfl, by kernel_rfl⟩
    have := Blk.new (w.alloc (.cells #[.slice ao n' cap] 38)) #[.slice ao' n' cap'] 38
    simpa using this
  intro gk a wr hI K hK
  obtain ⟨i, hi0, hO, hs', hd', k2', k3', k5'⟩ := hI
  rw [fr32 a hs' hd']; simp only [k2', k3', k5']; clear hs' hd' k2' k3' k5'
  have c0 : wr.cell? ⟨w.heap.size, 0, none⟩ = some (.slice ao n' cap) := hO.out.2.1.cell (i := 0) rfl
  have l0 := hO.out.2.1.lt
  by_cases hl : i < n'
  · have g1 : decide ((i : Int) < (n' : Int)) = true := by simp; omega
    have g2 : (i : Int) < (n' : Int) := by omega
    have g3 : IntKind.i64.wrap ((i : Int) + 1) = ((i + 1 : Nat) : Int) := by rw [wrap_i64_small _ (by omega) (by omega)]; omega
    obtain ⟨r, hr⟩ : ∃ r, R[i]? = some r := ⟨_, List.getElem?_eq_getElem (by have := hnE.out; omega)⟩
    have hkr := hk.out r (List.mem_of_getElem? hr)
    have htr := ht.out r (List.mem_of_getElem? hr)
    obtain ⟨ad, rfl, tv, htv, hcs⟩ := hT.out r i hr
    obtain ⟨ad', rfl, tv', htv', hcs'⟩ := hT'.out r i hr
    have hl1 : (r.hd ++ [tv]).length = 57 := by simp [hkr.hd.length]
    have hl2 : (r.hd ++ [tv']).length = 57 := by simp [hkr.hd.length]
    have hS : Hid (∀ W, Below wr.heap.size wr W → (∀ j u, (r.hd ++ [tv])[j]? = some u → W.cell? ((ad.add (i * 57)).add j) = some u) ∧ (∀ j u, (r.hd ++ [tv'])[j]? = some u → W.cell? ((ad'.add (i * 57)).add j) = some u) ∧
        W.cell? ⟨w.heap.size, 0, none⟩ = some (.slice (some ad) n' cap) ∧ W.cell? ⟨w.heap.size + 1, 0, none⟩ = some (.slice (some ad') n' cap') ∧ w.heap.size < W.heap.size ∧ w.heap.size + 1 < W.heap.size) := fun W hW => by
      have hW' := bthen hO.out.1 hW
      exact ⟨fun j u hj => below_cell (hcs j u hj) hW' (World.block_lt_of_cell? w _ (hcs j u hj)), fun j u hj => below_cell (hcs' j u hj) hW' (World.block_lt_of_cell? w _ (hcs' j u hj)), (hO.out.2.1.below hW hO.out.2.1.lt).cell (i := 0) rfl, (hO.out.2.2.below hW hO.out.2.2.lt).cell (i := 0) rfl, (hO.out.2.1.below hW hO.out.2.1.lt).lt, (hO.out.2.2.below hW hO.out.2.2.lt).lt⟩
    have hP : Hid (∀ W, Below wr.heap.size wr W → Calls Try.prog 84 #[.agg (r.hd ++ [tv]).toArray, .agg (r.hd ++ [tv']).toArray] W fun e w' => e = .returned (.bool true) ∧ Below W.heap.size W w') := fun W hW => by
      have hW' := bthen hO.out.1 hW
      exact leftR lo W r tv tv' (htv.below hW') (htv'.keep (KeepC.of_below hW')) hkr htr
    have hnx : Hid (∀ W, Below wr.heap.size wr W → Below w.heap.size w W ∧ Blk W w.heap.size #[.slice (some ad) n' cap] 38 ∧ Blk W (w.heap.size + 1) #[.slice (some ad') n' cap'] 38) := fun W hW => ⟨bthen hO.out.1 hW, hO.out.2.1.below hW hO.out.2.1.lt, hO.out.2.2.below hW hO.out.2.2.lt⟩
    clear hcs hcs' htv htv' hkr
    generalize r.hd ++ [tv] = Y at *
    generalize r.hd ++ [tv'] = Z at *
    go_upto_region 6 with fail
    have hbd : Below wr.heap.size wr wr.drew := below_drewN wr 1
    refine wp_region_held_drew (S := fun W => (∀ j u, Y[j]? = some u → W.cell? ((ad.add (i * 57)).add j) = some u) ∧ (∀ j u, Z[j]? = some u → W.cell? ((ad'.add (i * 57)).add j) = some u) ∧
        W.cell? ⟨w.heap.size, 0, none⟩ = some (.slice (some ad) n' cap) ∧ W.cell? ⟨w.heap.size + 1, 0, none⟩ = some (.slice (some ad') n' cap') ∧ w.heap.size < W.heap.size ∧ w.heap.size + 1 < W.heap.size) (by kernel_rfl) (hS.out _ hbd) (fun hHeld => ?_)
    replace hbd := Lib.hid hbd
    refine wpAnyH_take (i := 0) (oi := { dst := some 20, op := .fieldAddr _ (.tmp 2) 0, type := _, pos := _, after := _, guard := _ }) (v := ?_) rfl (by kernel_rfl) (by kernel_rfl) (by kernel_rfl) (fun _ _ _ h => h) (Or.inl ⟨by rfl, ?_⟩) (by assumption) ?_
    rotate_left
    · (intro w hSw; (try dsimp only at hSw); go_simp) <;> with_reducible rfl
    try simp only [Act.put, List.setIfInBounds_toArray, List.set_cons_zero, List.set_cons_succ]
    refine wpAnyH_take (i := 1) (oi := { dst := some 21, op := .load _ (.tmp 20), type := _, pos := _, after := _, guard := _ }) (v := ?_) rfl (by kernel_rfl) (by kernel_rfl) (by kernel_rfl) (fun _ _ _ h => h) (Or.inl ⟨by rfl, ?_⟩) (by assumption) ?_
    rotate_left
    · (intro w hSw; (try dsimp only at hSw); go_simp) <;> with_reducible rfl
    try simp only [Act.put, List.setIfInBounds_toArray, List.set_cons_zero, List.set_cons_succ]
    refine wpAnyH_take (i := 2) (oi := { dst := some 22, op := .move (.tmp 5), type := _, pos := _, after := _, guard := _ }) (v := ?_) rfl (by kernel_rfl) (by kernel_rfl) (by kernel_rfl) (fun _ _ _ h => h) (Or.inl ⟨by rfl, ?_⟩) (by assumption) ?_
    rotate_left
    · (intro w hSw; (try dsimp only at hSw); go_simp) <;> with_reducible rfl
    try simp only [Act.put, List.setIfInBounds_toArray, List.set_cons_zero, List.set_cons_succ]
    refine wpAnyH_take (i := 3) (oi := { dst := some 23, op := .indexAddr _ (.tmp 21) (.tmp 22), type := _, pos := _, after := _, guard := _ }) (v := ?_) rfl (by kernel_rfl) (by kernel_rfl) (by kernel_rfl) (fun _ _ _ h => h) (Or.inl ⟨by rfl, ?_⟩) (by assumption) ?_
    rotate_left
    · (intro w hSw; (try dsimp only at hSw); go_simp) <;> with_reducible rfl
    try simp only [Act.put, List.setIfInBounds_toArray, List.set_cons_zero, List.set_cons_succ]
    refine wpAnyH_take (i := 4) (oi := { dst := some 24, op := .load _ (.tmp 23), type := _, pos := _, after := _, guard := _ }) (v := .agg Y.toArray) rfl (by kernel_rfl) (by kernel_rfl) (by kernel_rfl) (fun _ _ _ h => h) (Or.inl ⟨by rfl, fun W hW => ex_load 97 (.tmp 23) rfl (ad.add (i * 57)) rfl Y d0 hW.1 hd0 hd1 (by rw [rowSize, hl1])⟩) (by assumption) ?_
    try simp only [Act.put, List.setIfInBounds_toArray, List.set_cons_zero, List.set_cons_succ]
    refine wpAnyH_take (i := 5) (oi := { dst := some 25, op := .fieldAddr _ (.tmp 3) 0, type := _, pos := _, after := _, guard := _ }) (v := ?_) rfl (by kernel_rfl) (by kernel_rfl) (by kernel_rfl) (fun _ _ _ h => h) (Or.inl ⟨by rfl, ?_⟩) (by assumption) ?_
    rotate_left
    · (intro w hSw; (try dsimp only at hSw); go_simp) <;> with_reducible rfl
    try simp only [Act.put, List.setIfInBounds_toArray, List.set_cons_zero, List.set_cons_succ]
    refine wpAnyH_take (i := 6) (oi := { dst := some 26, op := .load _ (.tmp 25), type := _, pos := _, after := _, guard := _ }) (v := ?_) rfl (by kernel_rfl) (by kernel_rfl) (by kernel_rfl) (fun _ _ _ h => h) (Or.inl ⟨by rfl, ?_⟩) (by assumption) ?_
    rotate_left
    · (intro w hSw; (try dsimp only at hSw); go_simp) <;> with_reducible rfl
    try simp only [Act.put, List.setIfInBounds_toArray, List.set_cons_zero, List.set_cons_succ]
    refine wpAnyH_take (i := 7) (oi := { dst := some 27, op := .move (.tmp 5), type := _, pos := _, after := _, guard := _ }) (v := ?_) rfl (by kernel_rfl) (by kernel_rfl) (by kernel_rfl) (fun _ _ _ h => h) (Or.inl ⟨by rfl, ?_⟩) (by assumption) ?_
    rotate_left
    · (intro w hSw; (try dsimp only at hSw); go_simp) <;> with_reducible rfl
    try simp only [Act.put, List.setIfInBounds_toArray, List.set_cons_zero, List.set_cons_succ]
    refine wpAnyH_take (i := 8) (oi := { dst := some 28, op := .indexAddr _ (.tmp 26) (.tmp 27), type := _, pos := _, after := _, guard := _ }) (v := ?_) rfl (by kernel_rfl) (by kernel_rfl) (by kernel_rfl) (fun _ _ _ h => h) (Or.inl ⟨by rfl, ?_⟩) (by assumption) ?_
    rotate_left
    · (intro w hSw; (try dsimp only at hSw); go_simp) <;> with_reducible rfl
    try simp only [Act.put, List.setIfInBounds_toArray, List.set_cons_zero, List.set_cons_succ]
    refine wpAnyH_take (i := 9) (oi := { dst := some 29, op := .load _ (.tmp 28), type := _, pos := _, after := _, guard := _ }) (v := .agg Z.toArray) rfl (by kernel_rfl) (by kernel_rfl) (by kernel_rfl) (fun _ _ _ h => h) (Or.inl ⟨by rfl, fun W hW => ex_load 97 (.tmp 28) rfl (ad'.add (i * 57)) rfl Z d0 hW.2.1 hd0 hd1 (by rw [rowSize, hl2])⟩) (by assumption) ?_
    try simp only [Act.put, List.setIfInBounds_toArray, List.set_cons_zero, List.set_cons_succ]
    refine wpAnyH_ready (rs := [10]) (by kernel_rfl) (by simp) ?_
    refine AllReadyH.cons (o := { dst := some 30, op := .call { callee := .value (.func 84), args := #[.tmp 24, .tmp 29], argTypes := _ }, type := _, pos := _, after := _, guard := _ }) rfl (fun K6 hK6 => ?_) AllReadyH.nil
    go_simp
    refine (hP.out _ hbd.out).mono ?_
    rintro e wz ⟨rfl, hb7⟩
    have hbz := Lib.hid (bthen hbd.out hb7)
    refine hK6.out _ _ (hS.out _ hbz.out) (fun hHeld => ?_)
    clear hK6 K6 hb7 hbd
    try simp only [Act.put, List.setIfInBounds_toArray, List.set_cons_zero, List.set_cons_succ]
    refine wpAnyH_take (i := 11) (oi := { dst := some 31, op := .unOp _ _ (.tmp 30), type := _, pos := _, after := _, guard := _ }) (v := ?_) rfl (by kernel_rfl) (by kernel_rfl) (by kernel_rfl) (fun _ _ _ h => h) (Or.inl ⟨by rfl, ?_⟩) (by assumption) ?_
    rotate_left
    · (intro w hSw; (try dsimp only at hSw); go_simp) <;> with_reducible rfl
    try simp only [Act.put, List.setIfInBounds_toArray, List.set_cons_zero, List.set_cons_succ]
    refine wpAnyH_done (by kernel_rfl) ?_ _
    have hN := hnx.out _ hbz.out
    replace hN := Lib.hid hN
    clear hHeld hS hP hnx hbz
    go_wp2_with fail
    exact hK (n' - (i + 1)) _ _ (by omega) ⟨i + 1, by omega, hN, by kernel_rfl, rfl, by kernel_rfl, by kernel_rfl, by kernel_rfl⟩
  have g1 : decide ((i : Int) < (n' : Int)) = false := by simp; omega
  have g2 : ¬ (i : Int) < (n' : Int) := by omega
  go_wp2_with fail
  go_ret
  exact ⟨rfl, hO.out.1⟩
end Go.Proofs.Ytmdohnbhogfopaa
