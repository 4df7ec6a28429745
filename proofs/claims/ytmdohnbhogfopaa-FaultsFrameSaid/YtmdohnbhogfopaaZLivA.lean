/- post: a tick's post of a number. -/
import Derived.Test.YtmdohnbhogfopaaZAskFK
import Derived.Test.YtmdohnbhogfopaaZBigIM
namespace Go.Proofs.Ytmdohnbhogfopaa
open Go.RowKit Go.Maps
set_option linter.unusedSimpArgs false
set_option linter.unusedVariables false
set_option maxRecDepth 100000
def cellN (n : Int) : List Value := .int .i64 (n + 5) :: ([.bool true, .int .i64 1, .int .u8 1, .int .u8 0, .int .u32 0, .int .u32 n] ++ zeroC.drop 7)
def rowN (n : Int) : RowC := ⟨.bool true :: cellN n, [.bool true :: cellN n]⟩
def postC (n : Int) : PostC := ⟨1 + n % 2, List.replicate 4 (rowN n)⟩
theorem cellN_length (n : Int) : (cellN n).length = 55 := rfl
theorem cellN_fits (n : Int) (hn : 0 ≤ n ∧ n < 256) : Fits cellKs (cellN n) := by
  have h0 : Fits (heldKs.drop 8) (zeroH.drop 8) := Fits.drop zeroH_ok 8
  have e : cellKs = some .i64 :: (saidKs ++ heldKs.drop 8) := rfl
  rw [e]
  refine ⟨⟨_, rfl, wfI _ (by omega) (by omega)⟩, Fits.append ⟨⟨true, rfl⟩, ⟨1, rfl, rfl⟩, ⟨1, rfl, rfl⟩, ⟨0, rfl, rfl⟩, ⟨0, rfl, rfl⟩, ⟨n, rfl, wfR .u32 _ 0 4294967295 (by decide) (by decide) (by omega)⟩, trivial⟩ h0⟩
theorem rowN_ok (n : Int) (hn : 0 ≤ n ∧ n < 256) : RowOk (rowN n) := ⟨⟨⟨true, rfl⟩, cellN_fits n hn⟩, fun t ht => by
  simp [rowN] at ht
  subst ht
  exact ⟨⟨true, rfl⟩, cellN_fits n hn⟩⟩
theorem postC_ok (n : Int) (hn : 0 ≤ n ∧ n < 256) : PostOk (postC n) := by
  refine ⟨wfR .u8 _ 0 255 (by decide) (by decide) (by simp [postC]; omega), fun r hr => ?_, by simp [postC], fun r hr => ?_⟩
  · rw [List.eq_of_mem_replicate hr]
    exact rowN_ok n hn
  · rw [List.eq_of_mem_replicate hr]
    simp [rowN]
theorem elemCell : (Try.prog.info? 94).map (fun i => (i.size, i.zero.map (fun z => (z.cells.size, z.cells.toList)))) = some (55, some (55, zeroC)) := by kernel_rfl
theorem cellInfo : ∃ i z, Try.prog.info? 94 = some i ∧ i.zero = some z ∧ i.size = 55 ∧ z.cells.size = 55 ∧ z.cells.toList = zeroC := by
  have h := elemCell
  cases hi : Try.prog.info? 94 with
  | none => rw [hi] at h; cases h
  | some i =>
    rw [hi] at h
    simp only [Option.map_some, Option.some.injEq, Prod.mk.injEq] at h
    obtain ⟨h1, h3⟩ := h
    cases hz : i.zero with
    | none => rw [hz] at h3; cases h3
    | some z =>
      rw [hz] at h3
      simp only [Option.map_some, Option.some.injEq, Prod.mk.injEq] at h3
      exact ⟨i, z, rfl, hz, h1, h3.1, h3.2⟩
theorem built_cell {it : TypeInfo} {z : Value} {fs : Array Field} (hi : Try.prog.info? 94 = some it) (hz : it.zero = some z) (hu : Try.prog.underlying 94 = some (.struct fs))
    (hp : fs.toList.mapM (fun f => (Try.prog.info? f.type).map fun i => (f.offset, i.size)) = some [(0, 1), (1, 6), (7, 6), (13, 42)]) (hs : z.cells.toList = zeroC) (n : Int) :
    Try.prog.built 94 [(0, .int .i64 (n + 5)), (1, .agg #[.bool true, .int .i64 1, .int .u8 1, .int .u8 0, .int .u32 0, .int .u32 n])] = some (cellN n).toArray := by
  have hz55 : z.cells.size = 55 := by
    have := congrArg List.length hs
    simpa [zeroC] using this
  rw [built_places hi hz hu hp]
  generalize z.cells = Z at *
  have e1 : (Value.int .i64 (n + 5)).cells = #[.int .i64 (n + 5)] := rfl
  have e2 : (Value.agg #[.bool true, .int .i64 1, .int .u8 1, .int .u8 0, .int .u32 0, .int .u32 n]).cells = #[.bool true, .int .i64 1, .int .u8 1, .int .u8 0, .int .u32 0, .int .u32 n] := rfl
  rw [fill_one (off := 0) (size := 1) (by rfl) (by rfl) (by omega), e1, fill_one (off := 1) (size := 6) (by rfl) (by rfl) (by simp; omega), e2]
  simp only [Instr.fill]
  congr 1
  apply Array.ext'
  rw [hs]
  rfl
theorem built_row3 {it : TypeInfo} {z : Value} {fs : Array Field} (hi : Try.prog.info? 97 = some it) (hz : it.zero = some z) (hu : Try.prog.underlying 97 = some (.struct fs))
    (hp : fs.toList.mapM (fun f => (Try.prog.info? f.type).map fun i => (f.offset, i.size)) = some [(0, 1), (1, 55), (56, 1)]) (hs : z.cells.size = 57) (b : Bool) (c : List Value) (hc : c.length = 55) (a : Option Addr) (n k : Nat) :
    Try.prog.built 97 [(0, .bool b), (1, .agg c.toArray), (2, .slice a n k)] = some ((Value.bool b :: c) ++ [Value.slice a n k]).toArray := by
  rw [built_places hi hz hu hp]
  generalize z.cells = Z at *
  have e1 : (Value.bool b).cells = #[.bool b] := rfl
  have e2 : (Value.agg c.toArray).cells = c.toArray := rfl
  have e3 : (Value.slice a n k).cells = #[.slice a n k] := rfl
  rw [fill_one (off := 0) (size := 1) (by rfl) (by rfl) (by omega), e1, fill_one (off := 1) (size := 55) (by rfl) (by rw [e2]; simpa using hc) (by simp; omega), e2, fill_one (off := 56) (size := 1) (by rfl) (by rfl) (by simp [hc]; omega), e3]
  simp only [Instr.fill]
  congr 1
  apply Array.ext'
  have hl : Z.toList.length = 57 := by simpa using hs
  simp only [List.take_zero, List.nil_append, List.append_assoc, List.cons_append, List.take_succ_cons]
  simp
  rw [List.take_append_of_le_length (by omega), List.take_of_length_le (by omega), List.drop_eq_nil_of_le (by simp; omega)]
theorem cell_one (n : Int) : ∀ u ∈ cellN n, u.oneCell' = true := by
  intro u hu
  unfold cellN at hu
  rcases List.mem_cons.1 hu with rfl | hu
  · rfl
  rcases List.mem_append.1 hu with hu | hu
  · simp at hu
    rcases hu with rfl | rfl | rfl | rfl | rfl | rfl <;> rfl
  · exact Fits.one (Fits.drop zeroH_ok 8) u hu
def InvPost (w : World) (n : Int) (RN : List RowC) (k : Nat) (a : Act) (wr : World) : Prop :=
  ∃ i v tvs, i + k = 4 ∧ Hid (NoiseAt w.heap.size w (w.heap.size + 1) (1 + n % 2) RN i v tvs wr) ∧ a.tmps.size = 35 ∧ a.defers = [] ∧ slot a 0 = .int .u8 n ∧ slot a 2 = .pointer (some ⟨w.heap.size, 0, none⟩) ∧ slot a 3 = .pointer (some ⟨w.heap.size + 1, 0, none⟩) ∧ slot a 4 = .int .i64 i
set_option maxHeartbeats 4000000 in
theorem postW (w : World) (n : Int) (hn : 0 ≤ n ∧ n < 256) : Calls Try.prog 18 #[.int .u8 n] w fun e w' => ∃ v', e = .returned (.agg #[.int .u8 (postC n).s, v']) ∧ OwnWord 97 163 w.heap.size w' v' (postC n).R ∧ Below w.heap.size w w' := by
  obtain ⟨i0, z0, hi, hz0, hz1, hz2, hz3, hz4⟩ := rowInfo
  obtain ⟨i1, z1, hi1, hy0, hy1, hy2, hy3, hy4⟩ := heldInfo
  obtain ⟨i2, z2, hi2, hx0, hx1, hx2, hx4⟩ := cellInfo
  obtain ⟨d0, hd0, hd1⟩ := rowRow
  obtain ⟨d2, hf0, hf1⟩ := cellRow
  have e1 : Int.tmod n 2 = n % 2 := Int.tmod_eq_emod_of_nonneg hn.1
  have e2 : IntKind.u8.wrap (n % 2) = n % 2 := by rw [IntKind.wrap_u8]; omega
  have e3 : IntKind.u8.wrap (1 + n % 2) = 1 + n % 2 := by rw [IntKind.wrap_u8]; omega
  have e4 : IntKind.i64.wrap n = n := wrapI _ (by omega) (by omega)
  have e5 : IntKind.i64.wrap (n + 5) = n + 5 := wrapI _ (by omega) (by omega)
  have e6 : IntKind.u32.wrap n = n := by rw [IntKind.wrap_u32]; omega
  have B1 := built_cell hi2 hx0 Try.underlying94 (by kernel_rfl) hx4 n
  have B2 := built_held hi1 hy0 Try.underlying163 (by kernel_rfl) hy3 true (cellN n) (cellN_length n)
  have B3 := fun a k m => built_row3 hi hz0 Try.underlying97 (by kernel_rfl) hz3 true (cellN n) (cellN_length n) a k m
  have hr : rowN n = ⟨.bool true :: cellN n, [.bool true :: cellN n]⟩ := rfl
  have hl55 := cellN_length n
  have h1c := cell_one n
  have hpc : Hid (postC n = ⟨1 + n % 2, List.replicate 4 (rowN n)⟩) := rfl
  generalize rowN n = r at *
  have hRN : ∀ i, i < 4 → (List.replicate 4 r)[i]? = some r := fun i hi => by rw [List.getElem?_replicate, if_pos hi]
  have hlenN : (List.replicate 4 r).length = 4 := List.length_replicate
  generalize List.replicate 4 r = RN at *
  replace hRN := Lib.hid hRN
  replace hlenN := Lib.hid hlenN
  generalize cellN n = C at *
  have hN0 : Hid (NoiseAt w.heap.size w (w.heap.size + 1) (1 + n % 2) RN 0 (.slice none 0 0) [] ((w.alloc (.cells #[.int .u8 0, .slice none 0 0] 40)).alloc (.cells #[.int .u8 (1 + n % 2), .slice none 0 0] 40))) := ⟨blk_alloc2 _ _, by
    have := Blk.new (w.alloc (.cells #[.int .u8 0, .slice none 0 0] 40)) #[.int .u8 (1 + n % 2), .slice none 0 0] 40
    simpa using this, (Blk.new w _ _).alloc _, by omega, by simpa [rowsFlat] using World.ownsRow_nil _ _ _ _, rfl, by simp⟩
  replace B1 := Lib.hid B1
  replace B2 := Lib.hid B2
  replace B3 := Lib.hid B3
  replace h1c := Lib.hid h1c
  replace hr := Lib.hid hr
  go_enter Try.func18, Try.ntmps18
  go_wp2_with fail
  refine wp_loop_k (InvPost w n RN) 4 ?_ ?_
  · exact ⟨0, _, _, by omega, hN0, by kernel_rfl, rfl, by kernel_rfl, by kernel_rfl, by kernel_rfl, by kernel_rfl⟩
  clear hN0
  intro gk a wr hI K hK
  obtain ⟨i, v', tvs, hi0, hN, hs', hd', k0', k2', k3', k4'⟩ := hI
  rw [fr35 a hs' hd']; simp only [k0', k2', k3', k4']; clear hs' hd' k0' k2' k3' k4'
  by_cases hil : i < 4
  · have g1 : decide ((i : Int) < 4) = true := by simp; omega
    have g2 : (i : Int) < 4 := by omega
    have g3 : IntKind.i64.wrap ((i : Int) + 1) = ((i + 1 : Nat) : Int) := by rw [wrap_i64_small _ (by omega) (by omega)]; omega
    have hRi := hRN.out i hil
    have hc55 : C.toArray.size = 55 := by simp [hl55]
    have k5 := Lib.hid (Blk.new wr z2.cells 94)
    have hone : C.toArray.all (·.oneCell') = true := all_oneCell_toArray h1c.out
    go_upto_region 6 with (first | refine wpList_val rfl (ex_build 94 #[(0, .tmp 16), (1, .tmp 20)] rfl _ (by rfl) C.toArray B1.out) ?_ | refine wpList_val rfl (ex_alloc 94 rfl i2 z2 hi2 hx0) ?_ | refine wpList_skp rfl (ex_store_row 94 (.tmp 5) (.tmp 21) rfl wr.heap.size C.toArray rfl rfl 94 z2.cells k5.out (by rw [cellSize, hc55]) (by rw [hx2, hc55]) hone) ?_ | fail)
    have k6 := Lib.hid (k5.out.setRow C.toArray)
    have hb6 : Below wr.heap.size wr ((wr.alloc (.cells z2.cells 94)).setRow wr.heap.size C.toArray) := brow (below_alloc _ _) (Nat.le_refl _) _
    have hN6 := Lib.hid (hN.out.below hb6)
    clear hN hb6 k5
    generalize wr.heap.size = b5 at *
    generalize (wr.alloc (.cells z2.cells 94)).setRow b5 C.toArray = W6 at *
    have hY1 : (Value.bool true :: C).length = 56 := by simp [hl55]
    have hY2 : ((Value.bool true :: C) ++ [Value.slice (some ⟨W6.heap.size, 0, none⟩) 1 1]).length = 57 := by simp [hl55]
    have c1 : W6.cell? ⟨w.heap.size + 1, 1, none⟩ = some v' := hN6.out.post.cell (i := 1) rfl
    have lb3 := hN6.out.post.lt
    have lb6 := k6.out.lt
    have hb8 : Below W6.heap.size W6 ((W6.alloc (.cells (Value.bool true :: C).toArray 163)).alloc (.cells ((Value.bool true :: C) ++ [Value.slice (some ⟨W6.heap.size, 0, none⟩) 1 1]).toArray 97)) := blk_alloc2 _ _
    have hO8 := Lib.hid (hN6.out.below hb8)
    have kn8 : Hid (Blk ((W6.alloc (.cells (Value.bool true :: C).toArray 163)).alloc (.cells ((Value.bool true :: C) ++ [Value.slice (some ⟨W6.heap.size, 0, none⟩) 1 1]).toArray 97)) (W6.heap.size + 1) ((Value.bool true :: C) ++ [Value.slice (some ⟨W6.heap.size, 0, none⟩) 1 1]).toArray 97) := by
      have := Blk.new (W6.alloc (.cells (Value.bool true :: C).toArray 163)) ((Value.bool true :: C) ++ [Value.slice (some ⟨W6.heap.size, 0, none⟩) 1 1]).toArray 97
      have e : (W6.alloc (.cells (Value.bool true :: C).toArray 163)).heap.size = W6.heap.size + 1 := by simp
      rw [e] at this
      exact this
    have hT8 : Hid (OwnTab 163 w.heap.size ((W6.alloc (.cells (Value.bool true :: C).toArray 163)).alloc (.cells ((Value.bool true :: C) ++ [Value.slice (some ⟨W6.heap.size, 0, none⟩) 1 1]).toArray 97)) (.slice (some ⟨W6.heap.size, 0, none⟩) 1 1) r.tab) := by
      rw [hr.out]
      refine .inr ⟨W6.heap.size, 1, (Value.bool true :: C).toArray, rfl, by simp, by unfold maxLen; omega, hN6.out.bel.size, (Blk.new W6 _ _).alloc _, by simp [hl55], ?_⟩
      simp
      exact List.take_of_length_le (by omega)
    have hs8 := hO8.out.bel.size
    have hZo : Hid (∀ u ∈ (Value.bool true :: C) ++ [Value.slice (some ⟨W6.heap.size, 0, none⟩) 1 1], u.oneCell' = true) := fun u hu => by
      rcases List.mem_append.1 hu with hu | hu
      · rcases List.mem_cons.1 hu with rfl | hu
        · rfl
        · exact h1c.out u hu
      · simp at hu
        subst hu
        rfl
    have B3' := Lib.hid (B3.out (some ⟨W6.heap.size, 0, none⟩) 1 1)
    have hYe : Hid ((Value.bool true :: C) ++ [Value.slice (some ⟨W6.heap.size, 0, none⟩) 1 1] = r.hd ++ [Value.slice (some ⟨W6.heap.size, 0, none⟩) 1 1]) := congrArg (fun x : RowC => x.hd ++ [Value.slice (some ⟨W6.heap.size, 0, none⟩) 1 1]) hr.out.symm
    generalize hH : Value.bool true :: C = H at *
    generalize hY : H ++ [Value.slice (some ⟨W6.heap.size, 0, none⟩) 1 1] = Y at *
    clear hH hY
    go_wp2_with (first | refine wpList_val rfl (ex_load_row 94 (.tmp 5) rfl b5 rfl 94 C.toArray d2 k6.out hf0 hf1 (by rw [cellSize, hc55])) ?_ | refine wpList_val rfl (ex_build 163 #[(0, .const (.bool true)), (1, .tmp 26)] rfl _ (by rfl) H.toArray B2.out) ?_ | refine wpList_val rfl (ex_buildSlice1 95 163 (.tmp 27) rfl i1 z1 H.toArray Try.underlying95 hi1 hy0 (by rw [hy1]; simpa using hY1) (by omega) (by omega) rfl) ?_ | refine wpList_val rfl (ex_build 97 #[(0, .const (.bool true)), (1, .tmp 25), (2, .tmp 28)] rfl _ (by rfl) Y.toArray B3'.out) ?_ | refine wpList_val rfl (ex_buildSlice1 36 97 (.tmp 29) rfl i0 z0 Y.toArray Try.underlying36 hi hz0 (by rw [hz1]; simpa using hY2) (by omega) (by omega) rfl) ?_ | (at_builtin; refine wpList_append_own _ rfl _ _ 36 rfl w.heap.size 97 i0 z0 57 160 Try.underlying36 hi hz0 hz1 hz2 hz3 (by decide) _ i (rowsFlat (RN.take i) tvs) rfl hO8.out.row ⟨W6.heap.size + 1, 0, none⟩ 1 1 Y (by simp [Act.eval, Act.put]) (by simpa using hY2) (fun j u hj => by rw [add_head]; exact kn8.out.cell (by simpa using hj)) hZo.out (by unfold maxLen; omega) (by omega) hs8 ?_) | fail)
    intro v1 w9 hown hg _
    obtain ⟨g1', cp1, rfl⟩ : ∃ g c, v1 = .slice (some ⟨g, 0, none⟩) (i + 1) c := by
      rcases hown.2 with ⟨_, h⟩ | ⟨g, c, _, h, _⟩
      · omega
      · exact ⟨g, c, h⟩
    rw [hYe.out] at hown
    obtain ⟨e1', e2', e3', hN9⟩ := hO8.out.append hRi hT8.out hown hg
    replace hN9 := Lib.hid hN9
    clear hown hg hO8 hT8 kn8 hs8 c1 lb3 lb6 hN6 k6 hb8
    go_wp2_with fail
    exact hK (4 - (i + 1)) _ _ (by omega) ⟨i + 1, _, tvs ++ [_], by omega, hN9, by kernel_rfl, rfl, by kernel_rfl, by kernel_rfl, by kernel_rfl, by kernel_rfl⟩
  have g1 : decide ((i : Int) < 4) = false := by simp; omega
  have g2 : ¬ (i : Int) < 4 := by omega
  obtain rfl : i = 4 := by omega
  obtain ⟨va, vn, vc, rfl⟩ : ∃ a n c, v' = .slice a n c := by
    rcases hN.out.row.2 with ⟨rfl, _⟩ | ⟨_, _, _, rfl, _⟩
    · exact ⟨_, _, _, rfl⟩
    · exact ⟨_, _, _, rfl⟩
  have s0 := hN.out.post.cell (i := 0) rfl
  have s1 := hN.out.post.cell (i := 1) rfl
  have ls := hN.out.post.lt
  have r0 := hN.out.out.cell (i := 0) rfl
  have r1 := hN.out.out.cell (i := 1) rfl
  have rf := hN.out.out.free
  have rl := hN.out.out.lt
  have kr := Lib.hid hN.out.out
  have hF : Hid (OwnWord 97 163 w.heap.size wr (.slice va vn vc) RN) := by
    have h1 := hN.out
    rw [← hlenN.out] at h1
    exact h1.fin (Nat.le_refl _)
  have hbF := Lib.hid hN.out.bel
  have hfin := Lib.hid (fun w9 hT => PostR.laid (w := w) (r := ⟨1 + n % 2, RN⟩) (w2 := w9) hF.out hbF.out (KeepU.of_below hbF.out) (Nat.le_refl _) (b := w.heap.size) (Nat.le_refl _) kr.out hT)
  clear hN hF
  go_wp2_with fail
  refine postRet 2 (by kernel_rfl) w.heap.size (1 + n % 2) _ rfl (((kr.out.set 0 (.int .u8 (1 + n % 2))).set 1 (.slice va vn vc)).congr rfl) rfl ?_
  obtain ⟨v9, q1, q2, q3, _⟩ := hfin.out _ (((Touch.refl [w.heap.size] wr).setCell (p := ⟨w.heap.size, 0, none⟩) (.inl (by simp)) (.int .u8 (1 + n % 2))).setCell (p := ⟨w.heap.size, 1, none⟩) (.inl (by simp)) (.slice va vn vc))
  rw [hpc.out]
  exact ⟨v9, q1, q2, q3⟩
end Go.Proofs.Ytmdohnbhogfopaa
