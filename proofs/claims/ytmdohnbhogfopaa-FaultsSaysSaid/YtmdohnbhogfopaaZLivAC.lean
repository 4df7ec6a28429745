/- Several texts, one behind the other: LivA LivB LivC VoidA VoidB LawKitR LawKitQ. -/
import Derived.Test.YtmdohnbhogfopaaZAskFK
import Derived.Test.YtmdohnbhogfopaaZBigIM
import Derived.Test.YtmdohnbhogfopaaZAskN
import Derived.Test.YtmdohnbhogfopaaZLawBase
import Derived.Test.YtmdohnbhogfopaaZBigNS
import Derived.Lib.SmallJoins
import Derived.Test.YtmdohnbhogfopaaZLowA
import Derived.SizedLaws
/- post: a tick's post of a number. -/
namespace Go.Proofs.Ytmdohnbhogfopaa
open Go.RowKit Go.Maps
set_option linter.unusedSimpArgs false
set_option linter.unusedVariables false
set_option maxRecDepth 100000
def cellN (n : Int) : List Value := .int .i64 (n + 5) :: ([.bool true, .int .i64 1, .int .u8 1, .int .u8 0, .int .u32 0, .int .u32 n] ++ zeroC.drop 7)
def rowN (n : Int) : RowC := ⟨.bool true :: cellN n, [.bool true :: cellN n]⟩
def postC (n : Int) : PostC := ⟨1 + n % 2, List.replicate 4 (rowN n)⟩
theorem cellN_length (n : Int) : (cellN n).length = 55 := rfl
theorem cellN_fits (n : Int) (hn : 0 ≤ n ∧ n < 256) : Fits cellKs (cellN n) := by
  have h0 : Fits (heldKs.drop 8) (zeroH.drop 8) := Fits.drop zeroH_ok 8
  have e : cellKs = some .i64 :: (saidKs ++ heldKs.drop 8) := rfl
  rw [e]
  refine ⟨⟨_, rfl, wfI _ (by omega) (by omega)⟩, Fits.append ⟨⟨true, rfl⟩, ⟨1, rfl, rfl⟩, ⟨1, rfl, rfl⟩, ⟨0, rfl, rfl⟩, ⟨0, rfl, rfl⟩, ⟨n, rfl, wfR .u32 _ 0 4294967295 (by decide) (by decide) (by omega)⟩, trivial⟩ h0⟩
theorem rowN_ok (n : Int) (hn : 0 ≤ n ∧ n < 256) : RowOk (rowN n) := ⟨⟨⟨true, rfl⟩, cellN_fits n hn⟩, fun t ht => by
  simp [rowN] at ht
  subst ht
  exact ⟨⟨true, rfl⟩, cellN_fits n hn⟩⟩
theorem postC_ok (n : Int) (hn : 0 ≤ n ∧ n < 256) : PostOk (postC n) := by
  refine ⟨wfR .u8 _ 0 255 (by decide) (by decide) (by simp [postC]; omega), fun r hr => ?_, by simp [postC], fun r hr => ?_⟩
  · rw [List.eq_of_mem_replicate hr]
    exact rowN_ok n hn
  · rw [List.eq_of_mem_replicate hr]
    simp [rowN]
theorem elemCell : (Try.prog.info? 94).map (fun i => (i.size, i.zero.map (fun z => (z.cells.size, z.cells.toList)))) = some (55, some (55, zeroC)) := by kernel_rfl
theorem cellInfo : ∃ i z, Try.prog.info? 94 = some i ∧ i.zero = some z ∧ i.size = 55 ∧ z.cells.size = 55 ∧ z.cells.toList = zeroC := by
  have h := elemCell
  cases hi : Try.prog.info? 94 with
  | none => rw [hi] at h; cases h
  | some i =>
    rw [hi] at h
    simp only [Option.map_some, Option.some.injEq, Prod.mk.injEq] at h
    obtain ⟨h1, h3⟩ := h
    cases hz : i.zero with
    | none => rw [hz] at h3; cases h3
    | some z =>
      rw [hz] at h3
      simp only [Option.map_some, Option.some.injEq, Prod.mk.injEq] at h3
      exact ⟨i, z, rfl, hz, h1, h3.1, h3.2⟩
theorem built_cell {it : TypeInfo} {z : Value} {fs : Array Field} (hi : Try.prog.info? 94 = some it) (hz : it.zero = some z) (hu : Try.prog.underlying 94 = some (.struct fs))
    (hp : fs.toList.mapM (fun f => (Try.prog.info? f.type).map fun i => (f.offset, i.size)) = some [(0, 1), (1, 6), (7, 6), (13, 42)]) (hs : z.cells.toList = zeroC) (n : Int) :
    Try.prog.built 94 [(0, .int .i64 (n + 5)), (1, .agg #[.bool true, .int .i64 1, .int .u8 1, .int .u8 0, .int .u32 0, .int .u32 n])] = some (cellN n).toArray := by
  have hz55 : z.cells.size = 55 := by
    have := congrArg List.length hs
    simpa [zeroC] using this
  rw [built_places hi hz hu hp]
  generalize z.cells = Z at *
  have e1 : (Value.int .i64 (n + 5)).cells = #[.int .i64 (n + 5)] := rfl
  have e2 : (Value.agg #[.bool true, .int .i64 1, .int .u8 1, .int .u8 0, .int .u32 0, .int .u32 n]).cells = #[.bool true, .int .i64 1, .int .u8 1, .int .u8 0, .int .u32 0, .int .u32 n] := rfl
  rw [fill_one (off := 0) (size := 1) (by rfl) (by rfl) (by omega), e1, fill_one (off := 1) (size := 6) (by rfl) (by rfl) (by simp; omega), e2]
  simp only [Instr.fill]
  congr 1
  apply Array.ext'
  rw [hs]
  rfl
theorem built_row3 {it : TypeInfo} {z : Value} {fs : Array Field} (hi : Try.prog.info? 97 = some it) (hz : it.zero = some z) (hu : Try.prog.underlying 97 = some (.struct fs))
    (hp : fs.toList.mapM (fun f => (Try.prog.info? f.type).map fun i => (f.offset, i.size)) = some [(0, 1), (1, 55), (56, 1)]) (hs : z.cells.size = 57) (b : Bool) (c : List Value) (hc : c.length = 55) (a : Option Addr) (n k : Nat) :
    Try.prog.built 97 [(0, .bool b), (1, .agg c.toArray), (2, .slice a n k)] = some ((Value.bool b :: c) ++ [Value.slice a n k]).toArray := by
  rw [built_places hi hz hu hp]
  generalize z.cells = Z at *
  have e1 : (Value.bool b).cells = #[.bool b] := rfl
  have e2 : (Value.agg c.toArray).cells = c.toArray := rfl
  have e3 : (Value.slice a n k).cells = #[.slice a n k] := rfl
  rw [fill_one (off := 0) (size := 1) (by rfl) (by rfl) (by omega), e1, fill_one (off := 1) (size := 55) (by rfl) (by rw [e2]; simpa using hc) (by simp; omega), e2, fill_one (off := 56) (size := 1) (by rfl) (by rfl) (by simp [hc]; omega), e3]
  simp only [Instr.fill]
  congr 1
  apply Array.ext'
  have hl : Z.toList.length = 57 := by simpa using hs
  simp only [List.take_zero, List.nil_append, List.append_assoc, List.cons_append, List.take_succ_cons]
  simp
  rw [List.take_append_of_le_length (by omega), List.take_of_length_le (by omega), List.drop_eq_nil_of_le (by simp; omega)]
theorem cell_one (n : Int) : ∀ u ∈ cellN n, u.oneCell' = true := by
  intro u hu
  unfold cellN at hu
  rcases List.mem_cons.1 hu with rfl | hu
  · rfl
  rcases List.mem_append.1 hu with hu | hu
  · simp at hu
    rcases hu with rfl | rfl | rfl | rfl | rfl | rfl <;> rfl
  · exact Fits.one (Fits.drop zeroH_ok 8) u hu
def InvPost (w : World) (n : Int) (RN : List RowC) (k : Nat) (a : Act) (wr : World) : Prop :=
  ∃ i v tvs, i + k = 4 ∧ Hid (NoiseAt w.heap.size w (w.heap.size + 1) (1 + n % 2) RN i v tvs wr) ∧ a.tmps.size = 35 ∧ a.defers = [] ∧ slot a 0 = .int .u8 n ∧ slot a 2 = .pointer (some ⟨w.heap.size, 0, none⟩) ∧ slot a 3 = .pointer (some ⟨w.heap.size + 1, 0, none⟩) ∧ slot a 4 = .int .i64 i
set_option maxHeartbeats 4000000 in
theorem postW (w : World) (n : Int) (hn : 0 ≤ n ∧ n < 256) : Calls Try.prog 18 #[.int .u8 n] w fun e w' => ∃ v', e = .returned (.agg #[.int .u8 (postC n).s, v']) ∧ OwnWord 97 163 w.heap.size w' v' (postC n).R ∧ Below w.heap.size w w' := by
  obtain ⟨i0, z0, hi, hz0, hz1, hz2, hz3, hz4⟩ := rowInfo
  obtain ⟨i1, z1, hi1, hy0, hy1, hy2, hy3, hy4⟩ := heldInfo
  obtain ⟨i2, z2, hi2, hx0, hx1, hx2, hx4⟩ := cellInfo
  obtain ⟨d0, hd0, hd1⟩ := rowRow
  obtain ⟨d2, hf0, hf1⟩ := cellRow
  have e1 : Int.tmod n 2 = n % 2 := Int.tmod_eq_emod_of_nonneg hn.1
  have e2 : IntKind.u8.wrap (n % 2) = n % 2 := by rw [IntKind.wrap_u8]; omega
  have e3 : IntKind.u8.wrap (1 + n % 2) = 1 + n % 2 := by rw [IntKind.wrap_u8]; omega
  have e4 : IntKind.i64.wrap n = n := wrapI _ (by omega) (by omega)
  have e5 : IntKind.i64.wrap (n + 5) = n + 5 := wrapI _ (by omega) (by omega)
  have e6 : IntKind.u32.wrap n = n := by rw [IntKind.wrap_u32]; omega
  have B1 := built_cell hi2 hx0 Try.underlying94 (by kernel_rfl) hx4 n
  have B2 := built_held hi1 hy0 Try.underlying163 (by kernel_rfl) hy3 true (cellN n) (cellN_length n)
  have B3 := fun a k m => built_row3 hi hz0 Try.underlying97 (by kernel_rfl) hz3 true (cellN n) (cellN_length n) a k m
  have hr : rowN n = ⟨.bool true :: cellN n, [.bool true :: cellN n]⟩ := rfl
  have hl55 := cellN_length n
  have h1c := cell_one n
  have hpc : Hid (postC n = ⟨1 + n % 2, List.replicate 4 (rowN n)⟩) := rfl
  generalize rowN n = r at *
  have hRN : ∀ i, i < 4 → (List.replicate 4 r)[i]? = some r := fun i hi => by rw [List.getElem?_replicate, if_pos hi]
  have hlenN : (List.replicate 4 r).length = 4 := List.length_replicate
  generalize List.replicate 4 r = RN at *
  replace hRN := Lib.hid hRN
  replace hlenN := Lib.hid hlenN
  generalize cellN n = C at *
  have hN0 : Hid (NoiseAt w.heap.size w (w.heap.size + 1) (1 + n % 2) RN 0 (.slice none 0 0) [] ((w.alloc (.cells #[.int .u8 0, .slice none 0 0] 40)).alloc (.cells #[.int .u8 (1 + n % 2), .slice none 0 0] 40))) := ⟨blk_alloc2 _ _, by
    have := Blk.new (w.alloc (.cells #[.int .u8 0, .slice none 0 0] 40)) #[.int .u8 (1 + n % 2), .slice none 0 0] 40
    simpa using this, (Blk.new w _ _).alloc _, by omega, by simpa [rowsFlat] using World.ownsRow_nil _ _ _ _, rfl, by simp⟩
  replace B1 := Lib.hid B1
  replace B2 := Lib.hid B2
  replace B3 := Lib.hid B3
  replace h1c := Lib.hid h1c
  replace hr := Lib.hid hr
  go_enter Try.func18, Try.ntmps18
  go_wp2_with fail
  refine wp_loop_k (InvPost w n RN) 4 ?_ ?_
  · exact ⟨0, _, _, by omega, hN0, by kernel_rfl, rfl, by kernel_rfl, by kernel_rfl, by kernel_rfl, by kernel_rfl⟩
  clear hN0
  intro gk a wr hI K hK
  obtain ⟨i, v', tvs, hi0, hN, hs', hd', k0', k2', k3', k4'⟩ := hI
  rw [fr35 a hs' hd']; simp only [k0', k2', k3', k4']; clear hs' hd' k0' k2' k3' k4'
  by_cases hil : i < 4
  · have g1 : decide ((i : Int) < 4) = true := by simp; omega
    have g2 : (i : Int) < 4 := by omega
    have g3 : IntKind.i64.wrap ((i : Int) + 1) = ((i + 1 : Nat) : Int) := by rw [wrap_i64_small _ (by omega) (by omega)]; omega
    have hRi := hRN.out i hil
    have hc55 : C.toArray.size = 55 := by simp [hl55]
    have k5 := Lib.hid (Blk.new wr z2.cells 94)
    have hone : C.toArray.all (·.oneCell') = true := all_oneCell_toArray h1c.out
    go_upto_region 6 with (first | refine wpList_val rfl (ex_build 94 #[(0, .tmp 16), (1, .tmp 20)] rfl _ (by rfl) C.toArray B1.out) ?_ | refine wpList_val rfl (ex_alloc 94 rfl i2 z2 hi2 hx0) ?_ | refine wpList_skp rfl (ex_store_row 94 (.tmp 5) (.tmp 21) rfl wr.heap.size C.toArray rfl rfl 94 z2.cells k5.out (by rw [cellSize, hc55]) (by rw [hx2, hc55]) hone) ?_ | fail)
    have k6 := Lib.hid (k5.out.setRow C.toArray)
    have hb6 : Below wr.heap.size wr ((wr.alloc (.cells z2.cells 94)).setRow wr.heap.size C.toArray) := brow (below_alloc _ _) (Nat.le_refl _) _
    have hN6 := Lib.hid (hN.out.below hb6)
    clear hN hb6 k5
    generalize wr.heap.size = b5 at *
    generalize (wr.alloc (.cells z2.cells 94)).setRow b5 C.toArray = W6 at *
    have hY1 : (Value.bool true :: C).length = 56 := by simp [hl55]
    have hY2 : ((Value.bool true :: C) ++ [Value.slice (some ⟨W6.heap.size, 0, none⟩) 1 1]).length = 57 := by simp [hl55]
    have c1 : W6.cell? ⟨w.heap.size + 1, 1, none⟩ = some v' := hN6.out.post.cell (i := 1) rfl
    have lb3 := hN6.out.post.lt
    have lb6 := k6.out.lt
    have hb8 : Below W6.heap.size W6 ((W6.alloc (.cells (Value.bool true :: C).toArray 163)).alloc (.cells ((Value.bool true :: C) ++ [Value.slice (some ⟨W6.heap.size, 0, none⟩) 1 1]).toArray 97)) := blk_alloc2 _ _
    have hO8 := Lib.hid (hN6.out.below hb8)
    have kn8 : Hid (Blk ((W6.alloc (.cells (Value.bool true :: C).toArray 163)).alloc (.cells ((Value.bool true :: C) ++ [Value.slice (some ⟨W6.heap.size, 0, none⟩) 1 1]).toArray 97)) (W6.heap.size + 1) ((Value.bool true :: C) ++ [Value.slice (some ⟨W6.heap.size, 0, none⟩) 1 1]).toArray 97) := by
      have := Blk.new (W6.alloc (.cells (Value.bool true :: C).toArray 163)) ((Value.bool true :: C) ++ [Value.slice (some ⟨W6.heap.size, 0, none⟩) 1 1]).toArray 97
      have e : (W6.alloc (.cells (Value.bool true :: C).toArray 163)).heap.size = W6.heap.size + 1 := by simp
      rw [e] at this
      exact this
    have hT8 : Hid (OwnTab 163 w.heap.size ((W6.alloc (.cells (Value.bool true :: C).toArray 163)).alloc (.cells ((Value.bool true :: C) ++ [Value.slice (some ⟨W6.heap.size, 0, none⟩) 1 1]).toArray 97)) (.slice (some ⟨W6.heap.size, 0, none⟩) 1 1) r.tab) := by
      rw [hr.out]
      refine .inr ⟨W6.heap.size, 1, (Value.bool true :: C).toArray, rfl, by simp, by unfold maxLen; omega, hN6.out.bel.size, (Blk.new W6 _ _).alloc _, by simp [hl55], ?_⟩
      simp
      exact List.take_of_length_le (by omega)
    have hs8 := hO8.out.bel.size
    have hZo : Hid (∀ u ∈ (Value.bool true :: C) ++ [Value.slice (some ⟨W6.heap.size, 0, none⟩) 1 1], u.oneCell' = true) := fun u hu => by
      rcases List.mem_append.1 hu with hu | hu
      · rcases List.mem_cons.1 hu with rfl | hu
        · rfl
        · exact h1c.out u hu
      · simp at hu
        subst hu
        rfl
    have B3' := Lib.hid (B3.out (some ⟨W6.heap.size, 0, none⟩) 1 1)
    have hYe : Hid ((Value.bool true :: C) ++ [Value.slice (some ⟨W6.heap.size, 0, none⟩) 1 1] = r.hd ++ [Value.slice (some ⟨W6.heap.size, 0, none⟩) 1 1]) := congrArg (fun x : RowC => x.hd ++ [Value.slice (some ⟨W6.heap.size, 0, none⟩) 1 1]) hr.out.symm
    generalize hH : Value.bool true :: C = H at *
    generalize hY : H ++ [Value.slice (some ⟨W6.heap.size, 0, none⟩) 1 1] = Y at *
    clear hH hY
    go_wp2_with (first | refine wpList_val rfl (ex_load_row 94 (.tmp 5) rfl b5 rfl 94 C.toArray d2 k6.out hf0 hf1 (by rw [cellSize, hc55])) ?_ | refine wpList_val rfl (ex_build 163 #[(0, .const (.bool true)), (1, .tmp 26)] rfl _ (by rfl) H.toArray B2.out) ?_ | refine wpList_val rfl (ex_buildSlice1 95 163 (.tmp 27) rfl i1 z1 H.toArray Try.underlying95 hi1 hy0 (by rw [hy1]; simpa using hY1) (by omega) (by omega) rfl) ?_ | refine wpList_val rfl (ex_build 97 #[(0, .const (.bool true)), (1, .tmp 25), (2, .tmp 28)] rfl _ (by rfl) Y.toArray B3'.out) ?_ | refine wpList_val rfl (ex_buildSlice1 36 97 (.tmp 29) rfl i0 z0 Y.toArray Try.underlying36 hi hz0 (by rw [hz1]; simpa using hY2) (by omega) (by omega) rfl) ?_ | (at_builtin; refine wpList_append_own _ rfl _ _ 36 rfl w.heap.size 97 i0 z0 57 160 Try.underlying36 hi hz0 hz1 hz2 hz3 (by decide) _ i (rowsFlat (RN.take i) tvs) rfl hO8.out.row ⟨W6.heap.size + 1, 0, none⟩ 1 1 Y (by simp [Act.eval, Act.put]) (by simpa using hY2) (fun j u hj => by rw [add_head]; exact kn8.out.cell (by simpa using hj)) hZo.out (by unfold maxLen; omega) (by omega) hs8 ?_) | fail)
    intro v1 w9 hown hg _
    obtain ⟨g1', cp1, rfl⟩ : ∃ g c, v1 = .slice (some ⟨g, 0, none⟩) (i + 1) c := by
      rcases hown.2 with ⟨_, h⟩ | ⟨g, c, _, h, _⟩
      · omega
      · exact ⟨g, c, h⟩
    rw [hYe.out] at hown
    obtain ⟨e1', e2', e3', hN9⟩ := hO8.out.append hRi hT8.out hown hg
    replace hN9 := Lib.hid hN9
    clear hown hg hO8 hT8 kn8 hs8 c1 lb3 lb6 hN6 k6 hb8
    go_wp2_with fail
    exact hK (4 - (i + 1)) _ _ (by omega) ⟨i + 1, _, tvs ++ [_], by omega, hN9, by kernel_rfl, rfl, by kernel_rfl, by kernel_rfl, by kernel_rfl, by kernel_rfl⟩
  have g1 : decide ((i : Int) < 4) = false := by simp; omega
  have g2 : ¬ (i : Int) < 4 := by omega
  obtain rfl : i = 4 := by omega
  obtain ⟨va, vn, vc, rfl⟩ : ∃ a n c, v' = .slice a n c := by
    rcases hN.out.row.2 with ⟨rfl, _⟩ | ⟨_, _, _, rfl, _⟩
    · exact ⟨_, _, _, rfl⟩
    · exact ⟨_, _, _, rfl⟩
  have s0 := hN.out.post.cell (i := 0) rfl
  have s1 := hN.out.post.cell (i := 1) rfl
  have ls := hN.out.post.lt
  have r0 := hN.out.out.cell (i := 0) rfl
  have r1 := hN.out.out.cell (i := 1) rfl
  have rf := hN.out.out.free
  have rl := hN.out.out.lt
  have kr := Lib.hid hN.out.out
  have hF : Hid (OwnWord 97 163 w.heap.size wr (.slice va vn vc) RN) := by
    have h1 := hN.out
    rw [← hlenN.out] at h1
    exact h1.fin (Nat.le_refl _)
  have hbF := Lib.hid hN.out.bel
  have hfin := Lib.hid (fun w9 hT => PostR.laid (w := w) (r := ⟨1 + n % 2, RN⟩) (w2 := w9) hF.out hbF.out (KeepU.of_below hbF.out) (Nat.le_refl _) (b := w.heap.size) (Nat.le_refl _) kr.out hT)
  clear hN hF
  go_wp2_with fail
  refine postRet 2 (by kernel_rfl) w.heap.size (1 + n % 2) _ rfl (((kr.out.set 0 (.int .u8 (1 + n % 2))).set 1 (.slice va vn vc)).congr rfl) rfl ?_
  obtain ⟨v9, q1, q2, q3, _⟩ := hfin.out _ (((Touch.refl [w.heap.size] wr).setCell (p := ⟨w.heap.size, 0, none⟩) (.inl (by simp)) (.int .u8 (1 + n % 2))).setCell (p := ⟨w.heap.size, 1, none⟩) (.inl (by simp)) (.slice va vn vc))
  rw [hpc.out]
  exact ⟨v9, q1, q2, q3⟩
end Go.Proofs.Ytmdohnbhogfopaa
/- The chapter's examples. -/
namespace Go.Proofs.Ytmdohnbhogfopaa
open Go.RowKit Go.Maps
set_option linter.unusedSimpArgs false
set_option linter.unusedVariables false
set_option maxRecDepth 100000
def F4 : FaultC := ⟨4, 1, -1, [⟨5, 9, 15, 1, 0⟩]⟩
theorem F4_ok : FaultOk F4 := ⟨by decide, by decide, by decide, by decide, fun s hs => by
  simp [F4] at hs
  subst hs
  exact ⟨rfl, rfl, rfl, rfl, rfl⟩⟩
theorem says4 (T : Int × Int → Option PostC) (G : Int → Option Int) (p : PostC) : saysP F4 T G 4 4 p = p := by
  have h1 : isF F4 4 = true := by kernel_rfl
  have h2 : toldB F4 4 4 = true := by kernel_rfl
  have h3 : (spellF F4 4 4).kd = 0 := by kernel_rfl
  unfold saysP kindP
  rw [h1, h2, h3]
  simp
theorem says5 (T : Int × Int → Option PostC) (G : Int → Option Int) (p : PostC) : saysP F4 T G 5 4 p = ⟨0, []⟩ := by
  have h1 : isF F4 4 = true := by kernel_rfl
  have h2 : toldB F4 5 4 = true := by kernel_rfl
  have h3 : (spellF F4 5 4).kd = 1 := by kernel_rfl
  unfold saysP kindP
  rw [h1, h2, h3]
  simp
theorem OwnWord.sl {T E : TypeId} {lo : Nat} {w : World} {v : Value} {R : List RowC} (h : OwnWord T E lo w v R) : ∃ a n c, v = .slice a n c := by
  rcases h with ⟨rfl, _⟩ | ⟨_, _, _, _, rfl, _⟩
  · exact ⟨_, _, _, rfl⟩
  · exact ⟨_, _, _, rfl⟩
theorem OwnWord.at0 {T E : TypeId} {lo : Nat} {w : World} {v : Value} {R : List RowC} (h : OwnWord T E lo w v R) (hk : ∀ r ∈ R, RowOk r) : WordAt 0 w v R := (h.word hk).mono (Nat.zero_le _)
theorem OldOut.none : OldOut (fun _ => none) (fun _ => none) := fun x g h => by cases h
theorem PostOk.big {p : PostC} (h : PostOk p) : p.R.length ≤ 1000000 ∧ ∀ r ∈ p.R, r.tab.length ≤ 1000000 := ⟨by have := h.n; omega, fun r hr => by have := h.t r hr; omega⟩
/-- A post and itself are alike. -/
theorem alikeSelf (w : World) (p : PostC) (hp : PostOk p) (v v' : Value) (hw : WordAt 0 w v p.R) (hw' : WordAt 0 w v' p.R) :
    Calls Try.prog 20 #[.agg #[.int .u8 p.s, v], .agg #[.int .u8 p.s, v']] w fun e w' => e = .returned (.bool true) ∧ Below w.heap.size w w' := by
  have := alikeR w p.s p.s v v' p.R p.R hw hw' rfl (RowsNear.self _) hp.R hp.R hp.big.1 hp.big.2
  rw [sameRows_self hp.R] at this
  exact this
theorem emptyTrue (w : World) (a : Option Addr) (c : Nat) : Calls Try.prog 19 #[.agg #[.int .u8 0, .slice a 0 c]] w fun e w' => e = .returned (.bool true) ∧ Below w.heap.size w w' := by
  refine (emptyR w 0 a 0 c).mono ?_
  rintro e w' ⟨rfl, hb⟩
  exact ⟨rfl, hb⟩
theorem SpAt.of_blk {w : World} {b : Nat} {S : List SpellC} {cs : Array Value} {U : TypeId} (h : Blk w b cs U) (e : cs = (spFlat S).toArray) (hn : S.length ≤ maxLen) : SpAt 0 w (.slice (some ⟨b, 0, none⟩) S.length S.length) S := by
  refine .inr ⟨_, _, rfl, Nat.le_refl _, hn, Nat.zero_le _, fun i s hs j u hj => ?_⟩
  have e1 : ((⟨b, 0, none⟩ : Addr).add (i * 5)).add j = ⟨b, i * 5 + j, none⟩ := by rw [add_add', add_head]
  rw [e1]
  refine h.cell ?_
  rw [e]
  simpa using spFlat_get hs j u hj
set_option maxHeartbeats 8000000 in
theorem lives29 (w : World) : Calls Try.prog 15 #[] w fun e w' => e = .returned (.bool true) ∧ Below w.heap.size w w' := by
  have hN := Lib.hid (fun (w1 : World) v hs => (show Calls Try.prog 16 #[.int .i64 4, .agg #[.int .i64 1, .int .i64 (-1), v]] w1 _ from newOk w1 F4 F4_ok v hs))
  have hp1 := Lib.hid (postC_ok 1 (by omega))
  have hP := Lib.hid (fun W => postW W 1 (by omega))
  have hmx := mixI_zero
  have i4 : isF F4 4 = true := by kernel_rfl
  have i8 : isF F4 8 = false := by kernel_rfl
  have hb1 := Lib.hid (below_alloc w (.cells #[.int .i64 5, .int .i64 9, .int .u8 15, .int .u8 1, .int .u64 0] 27))
  have k1 : Hid (SpAt 0 (w.alloc (.cells #[.int .i64 5, .int .i64 9, .int .u8 15, .int .u8 1, .int .u64 0] 27)) (.slice (some ⟨w.heap.size, 0, none⟩) 1 1) F4.S) := SpAt.of_blk (S := F4.S) (Blk.new w #[.int .i64 5, .int .i64 9, .int .u8 15, .int .u8 1, .int .u64 0] 27) rfl (by decide)
  have s4 := fun T G => says4 T G (postC 1)
  have s5 := fun T G => says5 T G (postC 1)
  replace s4 := Lib.hid s4
  replace s5 := Lib.hid s5
  generalize postC 1 = p1 at *
  go_enter Try.func15, Try.ntmps15
  go_wp2_with fail
  refine (hN.out _ _ k1.out).mono ?_
  rintro e w2 ⟨pm, bt, bl, M, rfl, hM, hb2, hMg, g1, g2, g3, g4⟩
  replace hb2 := Lib.hid (bthen hb1.out hb2)
  have gw : w.heap.size ≤ pm ∧ w.heap.size ≤ bt ∧ w.heap.size ≤ bl := by
    have := hb1.out.size
    omega
  replace hM := Lib.hid hM
  clear hN k1 hb1 hMg g1 g2 g3 g4
  go_wp2_with fail
  refine (mixR _ 0).mono ?_
  rintro e _ ⟨rfl, rfl⟩
  rw [hmx]
  go_wp2_with fail
  refine (hP.out _).mono ?_
  rintro e w3 ⟨v3, rfl, hO3, hb3⟩
  have hM3 := Lib.hid (hM.out.below hb3)
  have hW3 := hO3.at0 hp1.out.R
  replace hb3 := Lib.hid (bthen hb2.out hb3)
  obtain ⟨a3, n3, c3, rfl⟩ := hO3.sl
  have hS := saysR hM3.out F4_ok OldOut.none (by omega) 4 4 p1 hp1.out _ hW3
  rw [s4.out] at hS
  clear hO3 hM hb2 hW3
  go_wp2_with fail
  refine hS.mono ?_
  rintro e w4 ⟨v4, lo4, hi4, f4, rfl, q1, q2, q3, hO4, hM4, hT4⟩
  have hb4 := Lib.hid (hT4.below hb3.out hb3.out.size (by simp; omega))
  obtain ⟨a4, n4, c4, rfl⟩ := hO4.sl
  have hW4 := Lib.hid (hO4.at0 hp1.out.R)
  replace hM4 := Lib.hid hM4
  clear hS hM3 hO4 hT4 q1 q2 q3 hb3
  go_wp2_with fail
  refine (hP.out _).mono ?_
  rintro e w5 ⟨v5, rfl, hO5, hb5⟩
  have hW4' := hW4.out.below hb5
  have hW5 := hO5.at0 hp1.out.R
  have hM5 := Lib.hid (hM4.out.below hb5)
  replace hb5 := Lib.hid (bthen hb4.out hb5)
  obtain ⟨a5, n5, c5, rfl⟩ := hO5.sl
  have hA := Lib.hid (alikeSelf w5 p1 hp1.out _ _ hW4' hW5)
  clear hW4 hW4' hW5 hO5 hM4 hb4
  go_wp2_with fail
  refine hA.out.mono ?_
  rintro e w6 ⟨rfl, hb6⟩
  have hM6 := Lib.hid (hM5.out.below hb6)
  replace hb6 := Lib.hid (bthen hb5.out hb6)
  clear hA hM5 hb5
  go_wp2_with fail
  refine (hP.out _).mono ?_
  rintro e w7 ⟨v7, rfl, hO7, hb7⟩
  have hM7 := Lib.hid (hM6.out.below hb7)
  have hW7 := hO7.at0 hp1.out.R
  replace hb7 := Lib.hid (bthen hb6.out hb7)
  obtain ⟨a7, n7, c7, rfl⟩ := hO7.sl
  have hS := saysR hM7.out F4_ok (OldOut.none.says F4 4 4 p1) (by omega) 5 4 p1 hp1.out _ hW7
  rw [s5.out] at hS
  clear hO7 hM6 hb6 hW7
  go_wp2_with fail
  refine hS.mono ?_
  rintro e w8 ⟨v8, lo8, hi8, f8, rfl, q1, q2, q3, hO8, hM8, hT8⟩
  have hb8 := Lib.hid (hT8.below hb7.out hb7.out.size (by simp; omega))
  obtain ⟨a8, c8, rfl⟩ : ∃ a c, v8 = .slice a 0 c := by
    rcases hO8 with ⟨rfl, _⟩ | ⟨_, _, _, _, rfl, h2, _⟩
    · exact ⟨_, _, rfl⟩
    · exact ⟨_, _, rfl⟩
  replace hM8 := Lib.hid hM8
  have hE := Lib.hid (emptyTrue w8 a8 c8)
  clear hS hM7 hO8 hT8 q1 q2 q3 hb7
  go_wp2_with fail
  refine hE.out.mono ?_
  rintro e w9 ⟨rfl, hb9⟩
  have hM9 := Lib.hid (hM8.out.below hb9)
  replace hb9 := Lib.hid (bthen hb8.out hb9)
  have I4 := isR hM9.out F4_ok 4
  have I8 := isR hM9.out F4_ok 8
  rw [i4] at I4
  rw [i8] at I8
  replace I4 := Lib.hid I4
  replace I8 := Lib.hid I8
  clear hE hM8 hb8
  go_wp2_with fail
  refine I4.out.mono ?_
  rintro e _ ⟨rfl, rfl⟩
  go_wp2_with fail
  refine I8.out.mono ?_
  rintro e _ ⟨rfl, rfl⟩
  go_wp2_with fail
  go_ret
  exact ⟨rfl, hb9.out⟩
end Go.Proofs.Ytmdohnbhogfopaa
/- A mouth for a law: hidden but for its maps; what it says is fine. -/
namespace Go.Proofs.Ytmdohnbhogfopaa
open Go.RowKit Go.Maps
set_option linter.unusedSimpArgs false
set_option linter.unusedVariables false
set_option maxRecDepth 100000
/-- Rows that may be told and compared. -/
structure RowsFine (R : List RowC) : Prop where
  ok : ∀ r ∈ R, RowOk r
  n : R.length ≤ 1000
  t : ∀ r ∈ R, r.tab.length ≤ 1000
theorem PostOk.fine {p : PostC} (h : PostOk p) : RowsFine p.R := ⟨h.R, h.n, h.t⟩
theorem RowsFine.nil : RowsFine [] := ⟨by simp, by simp, by simp⟩
theorem RowsFine.mapIdx {R : List RowC} (h : RowsFine R) {ch : Nat → RowC → RowC} (h1 : ∀ i r, RowOk r → RowOk (ch i r)) (h2 : ∀ i r, (ch i r).tab = r.tab) : RowsFine (R.mapIdx ch) := by
  have hm : ∀ r ∈ R.mapIdx ch, ∃ i r0, r0 ∈ R ∧ r = ch i r0 := fun r hr => by
    obtain ⟨i, hi, rfl⟩ := List.getElem_of_mem hr
    have hi' : i < R.length := by simpa using hi
    exact ⟨i, R[i], List.getElem_mem hi', by simp⟩
  refine ⟨fun r hr => ?_, by simpa using h.n, fun r hr => ?_⟩
  · obtain ⟨i, r0, h0, rfl⟩ := hm r hr
    exact h1 i r0 (h.ok r0 h0)
  · obtain ⟨i, r0, h0, rfl⟩ := hm r hr
    rw [h2]
    exact h.t r0 h0
theorem noiseC_fine {R : List RowC} (h : RowsFine R) (sd t l : Int) (m : Nat) (hm : m ≤ 16) : RowsFine (noiseC sd t l m R).R := by
  refine ⟨fun r hr => ?_, by simp [noiseC]; omega, fun r hr => ?_⟩
  · obtain ⟨i, _, rfl⟩ := List.mem_map.1 hr
    exact noiseRow_ok h.ok sd t l i
  · obtain ⟨i, _, rfl⟩ := List.mem_map.1 hr
    unfold noiseRow
    split
    · simp
    · show ((R[i]?.getD ⟨zeroH, []⟩).tab).length ≤ 1000
      cases hr2 : R[i]? with
      | none => simp
      | some r => exact h.t r (List.mem_of_getElem? hr2)
section
variable {M : Nat → Prop} {w : World} {pm bt bl c : Nat} {f : Int × Int → Option (Int × Option (Nat × Nat × Nat))} {F : FaultC} {T : Int × Int → Option PostC} {G : Int → Option Int}
theorem saysP_fine (h : MouthIs M w pm bt bl c f F T G) (hF : FaultOk F) (t l : Int) (p : PostC) (hp : PostOk p) : RowsFine (saysP F T G t l p).R := by
  have hm := hF.m
  unfold saysP
  by_cases h1 : isF F l = false
  · rw [if_pos h1]
    exact hp.fine
  · rw [if_neg h1]
    by_cases h2 : toldB F t l = false
    · rw [if_pos h2]
      exact .nil
    · rw [if_neg h2]
      have h2' : toldB F t l = true := by simpa using h2
      have hl := isF_range hF (by simpa using h1)
      have ht : 0 ≤ t ∧ t ≤ 1099511627776 := by
        unfold toldB at h2'
        simp only [Bool.and_eq_true, decide_eq_true_eq] at h2'
        exact h2'.2
      unfold kindP
      repeat' split
      all_goals first | exact hp.fine | exact .nil | exact noiseC_fine hp.fine _ _ _ _ hm.2 | exact hp.fine.mapIdx (fun i r hr => lieR_ok hr _ _ _) (fun i r => by unfold lieR; split <;> rfl) | exact hp.fine.mapIdx (fun i r hr => forgeR_ok hr _ _) (fun i r => by unfold forgeR; split <;> rfl) | skip
      unfold lateC
      cases hT : keepT T G t l p (l, t - (spellF F t l).sd % 64) with
      | none => exact .nil
      | some q =>
        show RowsFine q.R
        unfold keepT at hT
        split at hT
        · cases hT
        · split at hT
          · simp only [Option.some.injEq] at hT
            subst hT
            exact hp.fine
          · exact (h.word _ q ⟨wfI _ (by omega) (by omega), wfI _ (by simp only; omega) (by simp only; omega)⟩ hT).1.fine
/-- A mouth in a law: A has blocks that are not its own. -/
def Mo (W : World) (pm bt bl c : Nat) (F : FaultC) (T : Int × Int → Option PostC) (G : Int → Option Int) (A : List Nat) : Prop :=
  ∃ M f, MouthIs M W pm bt bl c f F T G ∧ OldOut T G ∧ ∀ k ∈ A, k < W.heap.size ∧ ¬ M k ∧ k ≠ pm ∧ k ≠ bt ∧ k ≠ bl
theorem Mo.below {W : World} {A : List Nat} (h : Mo w pm bt bl c F T G A) (hb : Below w.heap.size w W) : Mo W pm bt bl c F T G A := by
  obtain ⟨M, f, h1, h2, h3⟩ := h
  exact ⟨M, f, h1.below hb, h2, fun k hk => ⟨Nat.lt_of_lt_of_le (h3 k hk).1 hb.size, (h3 k hk).2⟩⟩
theorem Mo.other {W : World} {A S : List Nat} (h : Mo w pm bt bl c F T G A) (hT : Touch S w W) (hS : ∀ k ∈ S, k ∈ A) : Mo W pm bt bl c F T G A := by
  obtain ⟨M, f, h1, h2, h3⟩ := h
  refine ⟨M, f, h1.agree (fun k hk => hT.block k (h1.lts k hk) fun hm => ?_) hT.size, h2, fun k hk => ⟨Nat.lt_of_lt_of_le (h3 k hk).1 hT.size, (h3 k hk).2⟩⟩
  obtain ⟨_, q1, q2, q3, q4⟩ := h3 k (hS k hm)
  rcases hk with hk | hk | hk | hk
  · exact q1 hk
  · exact q2 hk
  · exact q3 hk
  · exact q4 hk
theorem Mo.grow {W : World} {A A' : List Nat} (h : Mo w pm bt bl c F T G A) (hb : Below w.heap.size w W) (hA : ∀ k ∈ A', w.heap.size ≤ k ∧ k < W.heap.size) : Mo W pm bt bl c F T G A' := by
  obtain ⟨M, f, h1, h2, h3⟩ := h
  have hl := h1.lts
  refine ⟨M, f, h1.below hb, h2, fun k hk => ⟨(hA k hk).2, fun hm => ?_, ?_, ?_, ?_⟩⟩
  · have := hl k (.inl hm); have := (hA k hk).1; omega
  · rintro rfl; have := hl k (by simp); have := (hA k hk).1; omega
  · rintro rfl; have := hl k (by simp); have := (hA k hk).1; omega
  · rintro rfl; have := hl k (by simp); have := (hA k hk).1; omega
theorem Mo.keepC {W : World} {A : List Nat} (h : Mo w pm bt bl c F T G A) (hT : Touch [bt, bl] w W) : KeepC w W := by
  obtain ⟨M, f, h1, _⟩ := h
  exact h1.keepC hT
theorem Mo.blks {W : World} {A : List Nat} (h : Mo w pm bt bl c F T G A) (hT : Touch [bt, bl] w W) {b : Nat} {cs : Array Value} {U : TypeId} (hb : Blk w b cs U) : Blk W b cs U := by
  obtain ⟨M, f, h1, _⟩ := h
  exact h1.blks hb hT
theorem Mo.is {A : List Nat} (h : Mo w pm bt bl c F T G A) (hF : FaultOk F) (l : Int) : Calls Try.prog 33 #[.pointer (some ⟨pm, 0, none⟩), .int .i64 l] w fun e w' => e = .returned (.bool (isF F l)) ∧ w = w' := by
  obtain ⟨M, f, h1, _⟩ := h
  exact isR h1 hF l
theorem Mo.fine {A : List Nat} (h : Mo w pm bt bl c F T G A) (hF : FaultOk F) (t l : Int) (p : PostC) (hp : PostOk p) : RowsFine (saysP F T G t l p).R := by
  obtain ⟨M, f, h1, _⟩ := h
  exact saysP_fine h1 hF t l p hp
theorem saysM {A : List Nat} (h : Mo w pm bt bl c F T G A) (hF : FaultOk F) (hc : c < 900000000) (t l : Int) (p : PostC) (hp : PostOk p) (v : Value) (hw : WordAt 0 w v p.R) :
    Calls Try.prog 17 #[.pointer (some ⟨pm, 0, none⟩), .int .i64 t, .int .i64 l, .agg #[.int .u8 p.s, v]] w fun e w' => ∃ v', e = .returned (.agg #[.int .u8 (saysP F T G t l p).s, v']) ∧ (∃ a n k, v' = .slice a n k) ∧ WordAt 0 w' v' (saysP F T G t l p).R ∧
      Mo w' pm bt bl (c + 1) F (saysT F T G t l p) (saysG F G t l) A ∧ Touch [bt, bl] w w' := by
  have hfine := h.fine hF t l p hp
  obtain ⟨M, f, h1, h2, h3⟩ := h
  refine (saysR h1 hF h2 hc t l p hp v hw).mono ?_
  rintro e w' ⟨v', lo, hi, f', rfl, q1, q2, q3, hO, hM, hT⟩
  refine ⟨v', rfl, hO.sl, hO.at0 hfine.ok, ⟨_, f', hM, h2.says F t l p, fun k hk => ?_⟩, hT⟩
  obtain ⟨g1, g2, g3⟩ := h3 k hk
  exact ⟨Nat.lt_of_lt_of_le g1 hT.size, fun hq => by
    rcases hq with hq | hq
    · exact g2 hq
    · omega, g3⟩
end
theorem newM (w : World) (F : FaultC) (hF : FaultOk F) (v : Value) (hs : SpAt 0 w v F.S) (A : List Nat) (hA : ∀ k ∈ A, k < w.heap.size) :
    Calls Try.prog 16 #[.int .i64 F.m, .agg #[.int .i64 F.nd, .int .i64 F.lk, v]] w fun e w' => ∃ pm bt bl, e = .returned (.tuple #[.pointer (some ⟨pm, 0, none⟩), .int .i64 0]) ∧ Mo w' pm bt bl 0 F (fun _ => none) (fun _ => none) A ∧ Below w.heap.size w w' ∧ w.heap.size ≤ pm ∧ w.heap.size ≤ bt ∧ w.heap.size ≤ bl ∧ bt < w'.heap.size ∧ bl < w'.heap.size := by
  refine (newOk w F hF v hs).mono ?_
  rintro e w' ⟨pm, bt, bl, M, rfl, hM, hb, hMg, g1, g2, g3, g4⟩
  have l1 := hM.lts bt (by simp)
  have l2 := hM.lts bl (by simp)
  refine ⟨pm, bt, bl, rfl, ⟨M, _, hM, OldOut.none, fun k hk => ?_⟩, hb, g1, g2, g3, l1, l2⟩
  have := hA k hk
  exact ⟨Nat.lt_of_lt_of_le this hb.size, fun hq => by have := hMg k hq; omega, by omega, by omega, by omega⟩
end Go.Proofs.Ytmdohnbhogfopaa
/- Great: is a word more than is gone through? -/
namespace Go.Proofs.Ytmdohnbhogfopaa
open Go.RowKit Go.Maps
set_option linter.unusedSimpArgs false
set_option linter.unusedVariables false
set_option maxRecDepth 100000
/-- Rows and cells of the first i rows. -/
def totN (R : List RowC) (i : Nat) : Nat := R.length + ((R.take i).map fun r => r.tab.length).sum
theorem totN_zero (R : List RowC) : totN R 0 = R.length := by simp [totN]
theorem totN_more {R : List RowC} {i : Nat} {r : RowC} (h : R[i]? = some r) : totN R (i + 1) = totN R i + r.tab.length := by
  unfold totN
  rw [List.take_add_one, h]
  simp
  omega
theorem totN_all {R : List RowC} (h : totN R R.length ≤ 800) : R.length ≤ 1000 ∧ ∀ r ∈ R, r.tab.length ≤ 1000 := by
  unfold totN at h
  rw [List.take_length] at h
  refine ⟨by omega, fun r hr => ?_⟩
  have : ∀ (L : List Nat) (x : Nat), x ∈ L → x ≤ L.sum := fun L => by
    induction L with
    | nil => intro x hx; cases hx
    | cons y L ih =>
      intro x hx
      simp only [List.sum_cons]
      rcases List.mem_cons.1 hx with rfl | hx
      · omega
      · have := ih x hx; omega
  have := this (R.map fun r => r.tab.length) r.tab.length (List.mem_map.2 ⟨r, hr, rfl⟩)
  omega
/-- A bool comes back of which something holds. -/
def AnyB (Q : Bool → Prop) (e : Ending) : Prop := ∃ b, e = .returned (.bool b) ∧ Q b
theorem AnyB.mk {Q : Bool → Prop} (b : Bool) (h : Q b) : AnyB Q (.returned (.bool b)) := ⟨b, rfl, h⟩
def GreatQ (w w' : World) (R : List RowC) (b : Bool) : Prop := Below w.heap.size w w' ∧ (b = false → R.length ≤ 1000 ∧ ∀ r ∈ R, r.tab.length ≤ 1000)
/-- Lengths that a law's argument has. -/
structure WordFit (R : List RowC) : Prop where
  ok : ∀ r ∈ R, RowOk r
  t : ∀ r ∈ R, r.tab.length ≤ 1100000000000
  n : R.length ≤ 1100000000000
def InvGr (w : World) (w1 : World) (R : List RowC) (n : Nat) (k : Nat) (a : Act) (wr : World) : Prop :=
  ∃ i, i + k = n ∧ w1 = wr ∧ totN R i ≤ 1200000000000 ∧ a.tmps.size = 30 ∧ a.defers = [] ∧ slot a 1 = .pointer (some ⟨w.heap.size, 0, none⟩) ∧ slot a 3 = .int .i64 (totN R i) ∧ slot a 4 = .int .i64 i
set_option maxHeartbeats 2000000 in
theorem greatW (w : World) (v : Value) (R : List RowC) (hw : WordAt 0 w v R) (hf : WordFit R) :
    Calls Try.prog 77 #[.agg #[v]] w fun e w' => AnyB (GreatQ w w' R) e := by
  obtain ⟨ao, n, cap, hnE, rfl, hT⟩ := hw.len
  have hn := hf.n
  have ht := Lib.hid hf.t
  have h0 := totN_zero R
  have hall : Hid (totN R n ≤ 800 → R.length ≤ 1000 ∧ ∀ r ∈ R, r.tab.length ≤ 1000) := by
    rw [hnE]
    exact totN_all
  rw [← hnE] at hn h0
  have hb0 := below_alloc w (.cells #[.slice ao n cap] 38)
  have c0 : (w.alloc (.cells #[.slice ao n cap] 38)).cell? ⟨w.heap.size, 0, none⟩ = some (.slice ao n cap) := (Blk.new w _ _).cell (i := 0) rfl
  have hT1 : Hid (∀ (i : Nat) (r : RowC), R[i]? = some r → ∃ ad tv m c, ao = some ad ∧ m = r.tab.length ∧ (w.alloc (.cells #[.slice ao n cap] 38)).cell? ⟨(ad.add (i * 57)).block, (ad.add (i * 57)).off + 56, none⟩ = some (.slice tv m c)) := fun i r hr => by
    obtain ⟨ad, rfl, tv, htv, hc⟩ := hT r i hr
    obtain ⟨a3, m, c, hm, rfl, _⟩ := htv.len
    have hl := (hf.ok r (List.mem_of_getElem? hr)).hd.length
    have h56 := hc 56 (.slice a3 m c) (by rw [List.getElem?_append_right (by omega)]; simp [hl])
    have h57 := below_cell h56 hb0 (World.block_lt_of_cell? w _ h56)
    rw [add_add', ← add_field] at h57
    exact ⟨ad, a3, m, c, rfl, hm, h57⟩
  clear hT hw hf
  replace hb0 := Lib.hid hb0
  replace hnE := Lib.hid hnE
  go_enter Try.func77, Try.ntmps77
  go_upto_region 1 with fail
  generalize w.alloc (.cells #[.slice ao n cap] 38) = w1 at *
  go_wp2_with fail
  refine wp_loop_k (InvGr w w1 R n) n ?_ ?_
  · exact ⟨0, by omega, rfl, by omega, by kernel_rfl, rfl, by kernel_rfl, by rw [h0]; kernel_rfl, by kernel_rfl⟩
  intro gk a wr hI K hK
  obtain ⟨i, hi0, rfl, hto, hs', hd', k1', k3', k4'⟩ := hI
  rw [fr30 a hs' hd']; simp only [k1', k3', k4']; clear hs' hd' k1' k3' k4'
  by_cases hlt : i < n
  · have g1 : decide ((i : Int) < (n : Int)) = true := by simp; omega
    have g2 : (i : Int) < (n : Int) := by omega
    obtain ⟨r, hr⟩ : ∃ r, R[i]? = some r := ⟨_, List.getElem?_eq_getElem (by have := hnE.out; omega)⟩
    have hmo := totN_more hr
    have htr := ht.out r (List.mem_of_getElem? hr)
    obtain ⟨ad, tv, m, c, rfl, hm, hc⟩ := hT1.out i r hr
    rw [← hm] at hmo htr
    by_cases h9 : totN R i < 900
    · have g3 : decide (((totN R i : Nat) : Int) < 900) = true := by simp; omega
      have g4 : IntKind.i64.wrap ((i : Int) + 1) = ((i + 1 : Nat) : Int) := by rw [wrapI _ (by omega) (by omega)]; omega
      have g5 : IntKind.i64.wrap (((totN R i : Nat) : Int) + (m : Int)) = ((totN R (i + 1) : Nat) : Int) := by rw [wrapI _ (by omega) (by omega)]; omega
      have g6 : totN R (i + 1) ≤ 1200000000000 := by omega
      clear hm hr htr hmo
      generalize totN R i = x at *
      generalize hy : totN R (i + 1) = y at *
      replace hy := Lib.hid hy
      replace hK := Lib.hid hK
      go_wp2_with fail
      exact hK.out (n - (i + 1)) _ _ (by omega) ⟨i + 1, by omega, rfl, by rw [hy.out]; exact g6, by kernel_rfl, rfl, by kernel_rfl, by rw [hy.out]; kernel_rfl, by kernel_rfl⟩
    · have g3 : decide (((totN R i : Nat) : Int) < 900) = false := by simp; omega
      have g4 : decide (800 < ((totN R i : Nat) : Int)) = true := by simp; omega
      clear hm hr htr hmo
      generalize totN R i = x at *
      go_wp2_with fail
      go_ret
      exact AnyB.mk true ⟨hb0.out, fun h => by cases h⟩
  have g1 : decide ((i : Int) < (n : Int)) = false := by simp; omega
  have g2 : ¬ (i : Int) < (n : Int) := by omega
  obtain rfl : i = n := by omega
  have hfin : Hid (¬ (800 : Int) < ((totN R i : Nat) : Int) → R.length ≤ 1000 ∧ ∀ r ∈ R, r.tab.length ≤ 1000) := fun h => hall.out (by omega)
  clear hall ht hT1
  generalize totN R i = x at *
  by_cases h8 : (800 : Int) < (x : Int)
  · have g5 : decide ((800 : Int) < (x : Int)) = true := by simp [h8]
    go_wp2_with fail
    go_ret
    exact AnyB.mk true ⟨hb0.out, fun h => by cases h⟩
  · have g5 : decide ((800 : Int) < (x : Int)) = false := by simp [h8]
    have hq := Lib.hid (hfin.out h8)
    clear hfin h8
    go_wp2_with fail
    go_ret
    exact AnyB.mk false ⟨hb0.out, fun _ => hq.out⟩
theorem greatR (w : World) (s : Int) (v : Value) (hv : ∃ a n k, v = .slice a n k) (R : List RowC) (hw : WordAt 0 w v R) (hf : WordFit R) :
    Calls Try.prog 29 #[.agg #[.int .u8 s, v]] w fun e w' => AnyB (GreatQ w w' R) e := by
  obtain ⟨a, n, k, rfl⟩ := hv
  have hb0 := Lib.hid (below_alloc w (.cells #[.int .u8 s, .slice a n k] 40))
  have P := Lib.hid (greatW _ _ R (hw.below hb0.out) hf)
  replace hw := Lib.hid hw
  replace hf := Lib.hid hf
  have c1 : (w.alloc (.cells #[.int .u8 s, .slice a n k] 40)).cell? ⟨w.heap.size, 1, none⟩ = some (.slice a n k) := (Blk.new w _ _).cell (i := 1) rfl
  go_enter Try.func29, Try.ntmps29
  go_upto_region 1 with fail
  generalize w.alloc (.cells #[.int .u8 s, .slice a n k] 40) = w1 at *
  go_wp2_with fail
  refine P.out.mono ?_
  rintro e w2 ⟨b, rfl, hb2, hR⟩
  have hb := Lib.hid (bthen hb0.out hb2)
  have hR2 : Hid (GreatQ w w2 R b) := ⟨hb.out, hR⟩
  clear hb2 P hR
  go_wp2_with fail
  go_ret
  exact AnyB.mk b hR2.out
end Go.Proofs.Ytmdohnbhogfopaa
/- Post and Same of a law; what says a mouth that has no links. -/
namespace Go.Proofs.Ytmdohnbhogfopaa
open Go.RowKit Go.Maps
set_option linter.unusedSimpArgs false
set_option linter.unusedVariables false
set_option maxRecDepth 100000
theorem postRow2 : ∃ d, Try.prog.underlying 77 = some d ∧ (match d with | .struct _ | .array _ _ => true | _ => false) = true := ⟨_, Try.underlying77, rfl⟩
theorem postSize2 : (Try.prog.info? 77).map (·.size) = some 2 := by kernel_rfl
theorem postRet2 {fn : Func} {Q : Ending → World → Prop} {a : Act} {W : World} (p : Tmp) (h : fn.results = #[.cell p 77]) (b : Nat) (s : Int) (v : Value) (hp : a.tmps.getD p undef = .pointer (some ⟨b, 0, none⟩)) (hb : Blk W b #[.int .u8 s, v] 77) (hd : a.defers = [])
    (hQ : Q (.returned (.agg #[.int .u8 s, v])) W) : bodyPost Try.prog fn Q .ret a W := by
  obtain ⟨d0, hd0, hd1⟩ := postRow2
  exact bodyPost_ret (v := .agg #[.int .u8 s, v]) (results_cell_row h _ _ b 77 _ (0, 0) d0 hp hb.out hd0 (by cases d0 <;> simp_all) (by rw [postSize2]; rfl)) hd hQ
/-- A post as the document has it. -/
theorem postP (w : World) (p : PostC) (hp : PostOk p) (v : Value) (hw : WordAt 0 w v p.R) :
    Calls Try.prog 32 #[.agg #[.int .u8 p.s, v]] w fun e w' => ∃ v', e = .returned (.agg #[.int .u8 p.s, v']) ∧ OwnWord 167 204 w.heap.size w' v' p.R ∧ Below w.heap.size w w' := by
  have hv : ∃ a n c, v = .slice a n c := by obtain ⟨a, n, c, _, rfl, _⟩ := hw.len; exact ⟨a, n, c, rfl⟩
  obtain ⟨a0, n0, c0, rfl⟩ := hv
  have P1 : Hid (∀ W, Below w.heap.size w W → Calls Try.prog 22 #[.slice a0 n0 c0] W fun e w' => ∃ v', e = .returned v' ∧ OwnWord 167 204 W.heap.size w' v' p.R ∧ Below W.heap.size W w') := fun W hW => othersR W _ p.R (hw.below hW) hp.R hp.big.1 hp.big.2
  clear hw
  have hb1 : Below w.heap.size w ((w.alloc (.cells #[.int .u8 p.s, .slice a0 n0 c0] 40)).alloc (.cells #[.int .u8 0, .slice none 0 0] 77)) := blk_alloc2 _ _
  have k0 : Blk ((w.alloc (.cells #[.int .u8 p.s, .slice a0 n0 c0] 40)).alloc (.cells #[.int .u8 0, .slice none 0 0] 77)) w.heap.size #[.int .u8 p.s, .slice a0 n0 c0] 40 := (Blk.new w _ _).alloc _
  have k1 : Blk ((w.alloc (.cells #[.int .u8 p.s, .slice a0 n0 c0] 40)).alloc (.cells #[.int .u8 0, .slice none 0 0] 77)) (w.heap.size + 1) #[.int .u8 0, .slice none 0 0] 77 := by
    have := Blk.new (w.alloc (.cells #[.int .u8 p.s, .slice a0 n0 c0] 40)) #[.int .u8 0, .slice none 0 0] 77
    simpa using this
  replace hb1 := Lib.hid hb1
  go_enter Try.func32, Try.ntmps32
  go_upto_region 1 with fail
  generalize (w.alloc (.cells #[.int .u8 p.s, .slice a0 n0 c0] 40)).alloc (.cells #[.int .u8 0, .slice none 0 0] 77) = w1 at *
  have hcl : ∀ W, Below w1.heap.size w1 W → W.cell? ⟨w.heap.size, 0, none⟩ = some (.int .u8 p.s) ∧ W.cell? ⟨w.heap.size, 1, none⟩ = some (.slice a0 n0 c0) := fun W hW =>
    ⟨(k0.below hW k0.lt).cell (i := 0) rfl, (k0.below hW k0.lt).cell (i := 1) rfl⟩
  replace hcl := Lib.hid hcl
  replace k1 := Lib.hid k1
  have hbd : Below w.heap.size w w1.drew := bdrewN hb1.out 1
  have hbe : Below w1.heap.size w1 w1.drew := below_drewN w1 1
  have hP := Lib.hid (P1.out _ hbd)
  clear k0 P1
  go_region_held3 (fun W => W.cell? ⟨w.heap.size, 0, none⟩ = some (.int .u8 p.s) ∧ W.cell? ⟨w.heap.size, 1, none⟩ = some (.slice a0 n0 c0))
    (first | exact hcl.out _ hbe | exact hcl.out _ (bthen hbe hb7) | exact ⟨(World.cell?_setCell_other _ _ _ _ (by simp)).trans ((World.cell?_setCell_other _ _ _ _ (by simp)).trans (hcl.out _ (bthen hbe hb7)).1), (World.cell?_setCell_other _ _ _ _ (by simp)).trans ((World.cell?_setCell_other _ _ _ _ (by simp)).trans (hcl.out _ (bthen hbe hb7)).2)⟩)
    (first
      | (go_at_call 22; (with_reducible refine hP.out.mono ?_); rintro e w7 ⟨v7, rfl, hO7, hb7⟩; obtain ⟨a7, n7, c7, rfl⟩ := hO7.sl; have k7 := k1.out.below (bthen hbe hb7) k1.out.lt; have r0 := k7.cell (i := 0) rfl; have r1 := k7.cell (i := 1) rfl; have rf := k7.free; have rl := k7.lt; replace k7 := Lib.hid k7)
      | fail)
  have hbw := bthen hbd hb7
  have hT : Touch [w.heap.size + 1] w7 ((w7.setCell ⟨w.heap.size + 1, 0, none⟩ (.int .u8 p.s)).setCell ⟨w.heap.size + 1, 1, none⟩ (.slice a7 n7 c7)) := ((Touch.refl [w.heap.size + 1] w7).setCell (p := ⟨w.heap.size + 1, 0, none⟩) (.inl (by simp)) _).setCell (p := ⟨w.heap.size + 1, 1, none⟩) (.inl (by simp)) _
  have hbF : Below w.heap.size w ((w7.setCell ⟨w.heap.size + 1, 0, none⟩ (.int .u8 p.s)).setCell ⟨w.heap.size + 1, 1, none⟩ (.slice a7 n7 c7)) := hT.below hbw hbw.size (by simp)
  go_wp2_with fail
  refine postRet2 2 (by kernel_rfl) (w.heap.size + 1) p.s _ rfl (((k7.out.set 0 (.int .u8 p.s)).set 1 (.slice a7 n7 c7)).congr rfl) rfl ⟨_, rfl, (hO7.mono hbd.size).blk (fun g c U hU hg => hg.touch hT (by
    simp only [List.mem_singleton]
    rcases hU with rfl | rfl
    · exact hg.ne k7.out (by decide)
    · exact hg.ne k7.out (by decide))), hbF⟩
set_option maxHeartbeats 2000000 in
theorem sameP (w : World) (s : Int) (v v' : Value) (R R' : List RowC) (hw : WordAt 0 w v R) (hw' : WordAt 0 w v' R') (hR : RowsNear R R') (hk : ∀ r ∈ R, RowOk r) (hk' : ∀ r ∈ R', RowOk r) (hn : R.length ≤ 1000000) (ht : ∀ r ∈ R, r.tab.length ≤ 1000000) :
    Calls Try.prog 35 #[.agg #[.int .u8 s, v], .agg #[.int .u8 s, v']] w fun e w' => e = .returned (.bool (sameRows R R')) ∧ Below w.heap.size w w' := by
  have hv : ∃ a n c, v = .slice a n c := by obtain ⟨a, n, c, _, rfl, _⟩ := hw.len; exact ⟨a, n, c, rfl⟩
  have hv' : ∃ a n c, v' = .slice a n c := by obtain ⟨a, n, c, _, rfl, _⟩ := hw'.len; exact ⟨a, n, c, rfl⟩
  obtain ⟨a0, n0, c0, rfl⟩ := hv
  obtain ⟨a1, n1, c1, rfl⟩ := hv'
  have P2 : Hid (∀ W, Below w.heap.size w W → Calls Try.prog 21 #[.slice a0 n0 c0, .slice a1 n1 c1] W fun e w' => e = .returned (.bool (sameRows R R')) ∧ Below W.heap.size W w') := fun W hW => sameAllR W _ _ R R' (hw.below hW) (hw'.below hW) hR hk hk' hn ht
  clear hw hw' hR hk hk' ht hn
  generalize sameRows R R' = S at *
  have hb1 : Below w.heap.size w ((w.alloc (.cells #[.int .u8 s, .slice a0 n0 c0] 40)).alloc (.cells #[.int .u8 s, .slice a1 n1 c1] 77)) := blk_alloc2 _ _
  have k0 : Blk ((w.alloc (.cells #[.int .u8 s, .slice a0 n0 c0] 40)).alloc (.cells #[.int .u8 s, .slice a1 n1 c1] 77)) w.heap.size #[.int .u8 s, .slice a0 n0 c0] 40 := (Blk.new w _ _).alloc _
  have k1 : Blk ((w.alloc (.cells #[.int .u8 s, .slice a0 n0 c0] 40)).alloc (.cells #[.int .u8 s, .slice a1 n1 c1] 77)) (w.heap.size + 1) #[.int .u8 s, .slice a1 n1 c1] 77 := by
    have := Blk.new (w.alloc (.cells #[.int .u8 s, .slice a0 n0 c0] 40)) #[.int .u8 s, .slice a1 n1 c1] 77
    simpa using this
  replace hb1 := Lib.hid hb1
  go_enter Try.func35, Try.ntmps35
  go_upto_region 1 with fail
  generalize (w.alloc (.cells #[.int .u8 s, .slice a0 n0 c0] 40)).alloc (.cells #[.int .u8 s, .slice a1 n1 c1] 77) = w1 at *
  have d0 := k0.cell (i := 0) rfl
  have d1 := k0.cell (i := 1) rfl
  have d2 := k1.cell (i := 0) rfl
  have d3 := k1.cell (i := 1) rfl
  have l0 := k0.lt
  have l1 := k1.lt
  have hP := Lib.hid (P2.out _ hb1.out)
  clear k0 k1 P2
  go_wp2_with fail
  refine hP.out.mono ?_
  rintro e w7 ⟨rfl, hb7⟩
  have hb8 := Lib.hid (bthen hb1.out hb7)
  clear hb7 hP d0 d1 d2 d3
  go_wp2_with fail
  go_ret
  exact ⟨rfl, hb8.out⟩
/-- A mouth that has no such link says what it is told. -/
theorem saysPlain (w : World) (pv : Value) (l t : Int) (hI : ∀ W, Below w.heap.size w W → Calls Try.prog 33 #[pv, .int .i64 l] W fun e w' => e = .returned (.bool false) ∧ W = w') (p : PostC) (hp : PostOk p) (v : Value) (hw : WordAt 0 w v p.R) :
    Calls Try.prog 17 #[pv, .int .i64 t, .int .i64 l, .agg #[.int .u8 p.s, v]] w fun e w' => ∃ v', e = .returned (.agg #[.int .u8 p.s, v']) ∧ (∃ a n k, v' = .slice a n k) ∧ WordAt 0 w' v' p.R ∧ Below w.heap.size w w' := by
  have hv : ∃ a n k, v = .slice a n k := by obtain ⟨a, n, k, _, rfl, _⟩ := hw.len; exact ⟨a, n, k, rfl⟩
  obtain ⟨va, vn, vk, rfl⟩ := hv
  have hb1 : Below w.heap.size w ((w.alloc (.cells #[.int .u8 p.s, .slice va vn vk] 40)).alloc (.cells #[.int .u8 0, .slice none 0 0] 40)) := blk_alloc2 _ _
  have k0 : Blk ((w.alloc (.cells #[.int .u8 p.s, .slice va vn vk] 40)).alloc (.cells #[.int .u8 0, .slice none 0 0] 40)) w.heap.size #[.int .u8 p.s, .slice va vn vk] 40 := (Blk.new w _ _).alloc _
  have k1 : Blk ((w.alloc (.cells #[.int .u8 p.s, .slice va vn vk] 40)).alloc (.cells #[.int .u8 0, .slice none 0 0] 40)) (w.heap.size + 1) #[.int .u8 0, .slice none 0 0] 40 := by
    have := Blk.new (w.alloc (.cells #[.int .u8 p.s, .slice va vn vk] 40)) #[.int .u8 0, .slice none 0 0] 40
    simpa using this
  replace hI := Lib.hid hI
  have P1 : Hid (∀ W, Below w.heap.size w W → Calls Try.prog 63 #[.agg #[.int .u8 p.s, .slice va vn vk]] W fun e w' => ∃ v', e = .returned (.agg #[.int .u8 p.s, v']) ∧ OwnWord 97 163 W.heap.size w' v' p.R ∧ Below W.heap.size W w') := fun W hW =>
    ownP W p.s _ p.R (hw.below hW) hp.R (by have := hp.n; omega) (fun r hr => by have := hp.t r hr; omega)
  have hpR := Lib.hid hp.R
  clear hw hp
  replace hb1 := Lib.hid hb1
  go_enter Try.func17, Try.ntmps17
  go_upto_region 1 with fail
  generalize (w.alloc (.cells #[.int .u8 p.s, .slice va vn vk] 40)).alloc (.cells #[.int .u8 0, .slice none 0 0] 40) = w1 at *
  have c0 := k0.cell (i := 0) rfl
  have c1 := k0.cell (i := 1) rfl
  have l0 := k0.lt
  have hP := Lib.hid (P1.out _ hb1.out)
  have hI1 := Lib.hid (hI.out _ hb1.out)
  replace k1 := Lib.hid k1
  clear k0 P1 hI
  go_wp2_with fail
  refine hI1.out.mono ?_
  rintro e _ ⟨rfl, rfl⟩
  go_wp2_with fail
  refine hP.out.mono ?_
  rintro e w2 ⟨v', rfl, hO, hb2⟩
  obtain ⟨a, n, c', rfl⟩ := hO.sl
  have hbw := Lib.hid (hb1.out.trans (hb2.mono hb1.out.size))
  have k2 := Lib.hid (k1.out.below hb2 k1.out.lt)
  replace hO := Lib.hid hO
  have r0 := k2.out.cell (i := 0) rfl
  have r1 := k2.out.cell (i := 1) rfl
  have rf := k2.out.free
  have rl := k2.out.lt
  clear hb2 hP c0 c1 l0 hI1 k1
  go_wp2_with fail
  have hT : Touch [w.heap.size + 1] w2 ((w2.setCell ⟨w.heap.size + 1, 0, none⟩ (.int .u8 p.s)).setCell ⟨w.heap.size + 1, 1, none⟩ (.slice a n c')) := ((Touch.refl [w.heap.size + 1] w2).setCell (p := ⟨w.heap.size + 1, 0, none⟩) (.inl (by simp)) _).setCell (p := ⟨w.heap.size + 1, 1, none⟩) (.inl (by simp)) _
  have hbF : Below w.heap.size w ((w2.setCell ⟨w.heap.size + 1, 0, none⟩ (.int .u8 p.s)).setCell ⟨w.heap.size + 1, 1, none⟩ (.slice a n c')) := hT.below hbw.out hbw.out.size (by simp)
  have hO2 : WordAt 0 ((w2.setCell ⟨w.heap.size + 1, 0, none⟩ (.int .u8 p.s)).setCell ⟨w.heap.size + 1, 1, none⟩ (.slice a n c')) (.slice a n c') p.R := (hO.out.blk (fun g c U hU hg => hg.touch hT (by
    simp only [List.mem_singleton]
    rcases hU with rfl | rfl
    · exact hg.ne k2.out (by decide)
    · exact hg.ne k2.out (by decide)))).at0 hpR.out
  exact postRet 8 (by kernel_rfl) (w.heap.size + 1) p.s _ rfl (((k2.out.set 0 (.int .u8 p.s)).set 1 (.slice a n c')).congr rfl) rfl ⟨_, rfl, ⟨_, _, _, rfl⟩, hO2, hbF⟩
end Go.Proofs.Ytmdohnbhogfopaa
/- What a law's arguments read as: words, spells, asks, faults. -/
namespace Go.Proofs.Ytmdohnbhogfopaa
open Go.ChangeShapes Go.WideShapes Go.ChangeAt Go.RowKit Go.Joins
set_option linter.unusedVariables false
set_option linter.unusedSimpArgs false
set_option maxRecDepth 100000
theorem Fits.append' {k1 k2 : List (Option IntKind)} {a b : List Value} (h : Fits k1 a) (k : Fits k2 b) : Fits (k1 ++ k2) (a ++ b) := by
  induction k1 generalizing a with
  | nil => cases a with
    | nil => simpa using k
    | cons v vs => exact h.elim
  | cons k0 ks ih => cases a with
    | nil => exact h.elim
    | cons v vs => exact ⟨h.1, ih h.2⟩
theorem Fits.flat {ks : List (Option IntKind)} {cs : List Value} (ps : List (Nat × Nat)) (h : ∀ p ∈ ps, Fits ((ks.drop p.1).take p.2) ((cs.drop p.1).take p.2)) : Fits (ps.map fun p => (ks.drop p.1).take p.2).flatten (ps.map fun p => (cs.drop p.1).take p.2).flatten := by
  induction ps with
  | nil => simp [Fits]
  | cons p ps ih =>
    simp only [List.map_cons, List.flatten_cons]
    exact Fits.append' (h p (by simp)) (ih fun q hq => h q (by simp [hq]))
section
variable {H : Type} {enc : TypeId × Value → H} {P : Program} {W : World} {base : Nat} {sp : Nat → Bool} {held : Bool}
theorem trod_ks : ∀ (d : Nat) (t : TypeId) (ks : List (Option IntKind)) (fuel : Nat) (cs : List Value) (x : DataW H × List MemPlace), checkKs P d t ks = true → DataW.trod enc P W base sp held fuel t cs = some x → Fits ks cs
  | 0, _, _, _, _, _, h, _ => by simp [checkKs] at h
  | d + 1, t, ks, fuel, cs, x, h, hx => by
    unfold checkKs at h
    cases hu : P.underlying t with
    | none => simp [hu] at h
    | some k =>
      cases k <;> simp only [hu, Bool.false_eq_true] at h
      case bool =>
        obtain rfl := eq_of_beq h
        obtain ⟨b, rfl, _⟩ := DataW.trod_bool hu hx
        exact ⟨⟨b, rfl⟩, trivial⟩
      case int q =>
        obtain rfl := eq_of_beq h
        obtain ⟨a, rfl, _, w0⟩ := DataW.trod_int hu hx
        exact ⟨⟨a, rfl, w0⟩, trivial⟩
      case array n e =>
        simp only [Bool.and_eq_true, beq_iff_eq, List.all_eq_true] at h
        obtain ⟨⟨h1, h2⟩, h3⟩ := h
        obtain ⟨xs, m, _, _, hl, hxl, hf⟩ := DataW.trod_array hu hx
        rw [← whole_flat h2 ks rfl, ← whole_flat h2 cs (by omega)]
        refine Fits.flat _ fun p hp => ?_
        obtain ⟨i, hi, rfl⟩ := List.mem_map.1 hp
        have hin : i < n := by simpa using hi
        have := hf i hin
        obtain ⟨y, hy⟩ : ∃ y, xs[i]? = some y := ⟨_, List.getElem?_eq_getElem (by omega)⟩
        rw [hy] at this
        exact trod_ks d e _ m _ y (h3 i (by simpa using hi)) this
      case struct fs =>
        simp only [Bool.and_eq_true, beq_iff_eq, List.all_eq_true] at h
        obtain ⟨⟨⟨h1, h0⟩, h2⟩, h3⟩ := h
        obtain ⟨xs, m, _, _, hl, hxl, hf⟩ := DataW.trod_struct hu hx
        rw [← whole_flat h2 ks rfl, ← whole_flat h2 cs (by omega)]
        refine Fits.flat _ fun p hp => ?_
        obtain ⟨f, hff, rfl⟩ := List.mem_map.1 hp
        obtain ⟨i, hi, rfl⟩ := List.getElem_of_mem hff
        have hfi : fs[i]? = some fs.toList[i] := by
          rw [← Array.getElem?_toList]
          exact List.getElem?_eq_getElem hi
        have := hf i _ hfi
        obtain ⟨y, hy⟩ : ∃ y, xs[i]? = some y := ⟨_, List.getElem?_eq_getElem (by simp at hi; omega)⟩
        rw [hy] at this
        exact trod_ks d _ _ m _ y (h3 _ hff) this
end
theorem listOf {α : Type} {P : Nat → α → Prop} : ∀ (n : Nat), (∀ i, i < n → ∃ x, P i x) → ∃ l : List α, l.length = n ∧ ∀ i x, l[i]? = some x → P i x
  | 0, _ => ⟨[], rfl, fun i x h => by simp at h⟩
  | n + 1, h => by
    obtain ⟨l, hl, hp⟩ := listOf n (fun i hi => h i (by omega))
    obtain ⟨x, hx⟩ := h n (by omega)
    refine ⟨l ++ [x], by simp [hl], fun i y hy => ?_⟩
    rw [List.getElem?_append] at hy
    split at hy
    · exact hp i y hy
    · have := (List.getElem?_eq_some_iff.1 hy).1
      simp at this
      have e : i - l.length = 0 := by omega
      rw [e] at hy
      simp at hy
      subst hy
      have : i = n := by omega
      rw [this]
      exact hx
/-- Elements of 56 cells, one behind the other. -/
theorem flat_cells {W : World} {ad : Addr} {Ts : List (List Value)} (h56 : ∀ t ∈ Ts, HeldOk t) (h : ∀ i t, Ts[i]? = some t → ∀ j u, t[j]? = some u → W.cell? ((ad.add (i * 56)).add j) = some u) : ∀ j u, Ts.flatten[j]? = some u → W.cell? (ad.add j) = some u := by
  intro j u hj
  have hlt := (List.getElem?_eq_some_iff.1 hj).1
  rw [flat_length h56] at hlt
  have hi : j / 56 < Ts.length := by omega
  obtain ⟨t, ht⟩ : ∃ t, Ts[j / 56]? = some t := ⟨_, List.getElem?_eq_getElem hi⟩
  have hl := (h56 t (List.mem_of_getElem? ht)).length
  obtain ⟨u', hu'⟩ : ∃ u', t[j % 56]? = some u' := ⟨_, List.getElem?_eq_getElem (by omega)⟩
  have e1 := flat_get h56 ht _ _ hu'
  have e2 : j / 56 * 56 + j % 56 = j := by omega
  rw [e2, hj] at e1
  simp at e1
  subst e1
  have := h _ t ht _ _ hu'
  rw [add_add', e2] at this
  exact this
section
variable {H : Type} {enc : TypeId × Value → H} {W : World}
theorem held_ks : checkKs Try.prog 9 163 heldKs = true := by kernel_rfl
theorem held_cells : Try.prog.cellsOf 163 = 56 := by kernel_rfl
theorem rd_tab {fuel : Nat} {v : Value} {d : DataW H} {p : List MemPlace} (h : DataW.trod enc Try.prog W 0 (fun _ => true) true fuel 95 [v] = some (d, p)) (hw : ∀ x ∈ DataW.weights Try.prog 95 d, x ≤ 140737488351232) :
    ∃ Ts, TabAt 0 W v Ts ∧ (∀ t ∈ Ts, HeldOk t) ∧ Ts.length ≤ 1100000000000 := by
  rcases Go.Deep.open_slice Try.underlying95 h with ⟨hcs, _⟩ | ⟨x, l, c, m, n', D, Pl, hcs, _, hl, hm, hmm, hx0, hx⟩
  · simp at hcs
    subst hcs
    exact ⟨[], .inl ⟨rfl, rfl⟩, by simp, by simp⟩
  · simp at hcs
    subst hcs
    rw [held_cells] at hx
    obtain ⟨Ts, hT1, hT2⟩ := listOf (P := fun i (t : List Value) => HeldOk t ∧ ∀ j u, t[j]? = some u → W.cell? ((x.add (i * 56)).add j) = some u) l (fun i hi => by
      obtain ⟨cs', h1, h2⟩ := hx i (by rw [hmm, if_pos rfl]; omega)
      obtain ⟨_, h4, h3⟩ := World.cells?_some h1
      refine ⟨cs', trod_ks 9 _ heldKs _ _ _ held_ks h2, fun j u hj => ?_⟩
      rw [h3 j (by have := (List.getElem?_eq_some_iff.1 hj).1; omega)]
      exact hj)
    have hok : ∀ t ∈ Ts, HeldOk t := fun t ht => by
      obtain ⟨i, hi, rfl⟩ := List.getElem_of_mem ht
      exact (hT2 i _ (List.getElem?_eq_getElem hi)).1
    refine ⟨Ts, .inr ⟨x, c, by rw [hT1], by omega, hm, Nat.zero_le _, flat_cells hok fun i t ht => (hT2 i t ht).2⟩, hok, ?_⟩
    have hd : d = .slice ((List.range l).map D) ((List.range (m - l)).map fun j => D (l + j)) := (Prod.mk.inj hx0).1
    have hb : Try.prog.bytesOf 163 = 136 := by kernel_rfl
    have := hw ((((List.range l).map D).length + ((List.range (m - l)).map fun j => D (l + j)).length) * 136) (by
      rw [hd]
      unfold DataW.weights
      rw [Try.underlying95]
      simp only [hb]
      exact List.mem_cons_self)
    simp at this
    omega
theorem weightsAll_mem {P : Program} {e : TypeId} {x : Nat} {d : DataW H} : ∀ {l : List (DataW H)}, d ∈ l → x ∈ DataW.weights P e d → x ∈ DataW.weightsAll P e l
  | [], h, _ => by simp at h
  | y :: l, h, hx => by
    unfold DataW.weightsAll
    rcases List.mem_cons.1 h with rfl | h
    · exact List.mem_append_left _ hx
    · exact List.mem_append_right _ (weightsAll_mem h hx)
theorem row_cells : Try.prog.cellsOf 97 = 57 := by kernel_rfl
theorem rd_row {fuel : Nat} {cs : List Value} {d : DataW H} {p : List MemPlace} (h : DataW.trod enc Try.prog W 0 (fun _ => true) true fuel 97 cs = some (d, p)) (hw : ∀ x ∈ DataW.weights Try.prog 97 d, x ≤ 140737488351232) :
    ∃ (r : RowC) (tv : Value), cs = r.hd ++ [tv] ∧ TabAt 0 W tv r.tab ∧ RowOk r ∧ r.tab.length ≤ 1100000000000 := by
  obtain ⟨xs, n, _, hx, hl, hlen, hf⟩ := DataW.trod_struct Try.underlying97 h
  rw [row_cells] at hl
  match xs, hlen with
  | [y0, y1, y2], _ =>
    have h0 : DataW.trod enc Try.prog W 0 (fun _ => true) true n 4 ((cs.drop 0).take 1) = some y0 := hf 0 _ rfl
    have h1 : DataW.trod enc Try.prog W 0 (fun _ => true) true n 94 ((cs.drop 1).take 55) = some y1 := hf 1 _ rfl
    have h2 : DataW.trod enc Try.prog W 0 (fun _ => true) true n 95 ((cs.drop 56).take 1) = some y2 := hf 2 _ rfl
    have f0 := trod_ks 2 _ [none] _ _ _ (by kernel_rfl) h0
    have f1 := trod_ks 8 _ cellKs _ _ _ (by kernel_rfl) h1
    have h56 : (cs.drop 56).length = 1 := by simp [hl]
    match hd : cs.drop 56, h56 with
    | [tv], _ =>
      rw [hd] at h2
      have hw2 : ∀ x ∈ DataW.weights Try.prog 95 y2.1, x ≤ 140737488351232 := fun x hx2 => hw x (by
        have hdx : d = .agg ([y0, y1, y2].map (·.1)) := (Prod.mk.inj hx).1
        rw [hdx]
        unfold DataW.weights
        rw [Try.underlying97]
        simp only [List.map_cons, List.map_nil, DataW.weightsEach]
        simp [hx2])
      obtain ⟨Ts, g1, g2, g3⟩ := rd_tab (d := y2.1) (p := y2.2) (by simpa using h2) hw2
      refine ⟨⟨cs.take 56, Ts⟩, tv, ?_, g1, ⟨?_, g2⟩, g3⟩
      · rw [← hd, List.take_append_drop]
      · have e : cs.take 56 = (cs.drop 0).take 1 ++ (cs.drop 1).take 55 := by
          rw [List.drop_zero, ← List.take_add]
        show Fits heldKs (cs.take 56)
        rw [e]
        exact Fits.append' f0 f1
theorem rd_word {fuel : Nat} {v : Value} {d : DataW H} {p : List MemPlace} (h : DataW.trod enc Try.prog W 0 (fun _ => true) true fuel 36 [v] = some (d, p)) (hw : ∀ x ∈ DataW.weights Try.prog 36 d, x ≤ 140737488351232) :
    ∃ R, WordAt 0 W v R ∧ (∀ r ∈ R, RowOk r ∧ r.tab.length ≤ 1100000000000) ∧ R.length ≤ 1100000000000 := by
  rcases Go.Deep.open_slice Try.underlying36 h with ⟨hcs, _⟩ | ⟨x, l, c, m, n', D, Pl, hcs, _, hl, hm, hmm, hx0, hx⟩
  · simp at hcs
    subst hcs
    exact ⟨[], .inl ⟨rfl, rfl⟩, by simp, by simp⟩
  · simp at hcs
    subst hcs
    rw [row_cells] at hx
    have hd : d = .slice ((List.range l).map D) ((List.range (m - l)).map fun j => D (l + j)) := (Prod.mk.inj hx0).1
    have hb : Try.prog.bytesOf 97 = 160 := by kernel_rfl
    have hws : DataW.weights Try.prog 36 d = (((List.range l).map D).length + ((List.range (m - l)).map fun j => D (l + j)).length) * 160 :: (DataW.weightsAll Try.prog 97 ((List.range l).map D) ++ DataW.weightsAll Try.prog 97 ((List.range (m - l)).map fun j => D (l + j))) := by
      rw [hd]
      conv => lhs; unfold DataW.weights
      rw [Try.underlying36]
      simp only [hb]
    obtain ⟨R, hR1, hR2⟩ := listOf (P := fun i (r : RowC) => (RowOk r ∧ r.tab.length ≤ 1100000000000) ∧ RowAt 0 W (x.add (i * 57)) r) l (fun i hi => by
      obtain ⟨cs', h1, h2⟩ := hx i (by rw [hmm, if_pos rfl]; omega)
      obtain ⟨_, h4, h3⟩ := World.cells?_some h1
      obtain ⟨r, tv, hcs2, g1, g2, g3⟩ := rd_row h2 (fun x hx2 => hw x (by
        rw [hws]
        exact List.mem_cons_of_mem _ (List.mem_append_left _ (weightsAll_mem (List.mem_map.2 ⟨i, by simpa using hi, rfl⟩) hx2))))
      refine ⟨r, ⟨g2, g3⟩, tv, g1, fun j u hj => ?_⟩
      rw [← hcs2] at hj
      rw [h3 j (by have := (List.getElem?_eq_some_iff.1 hj).1; omega)]
      exact hj)
    refine ⟨R, .inr ⟨x, c, by rw [hR1], by omega, hm, Nat.zero_le _, fun i r hi => (hR2 i r hi).2⟩, fun r hr => ?_, ?_⟩
    · obtain ⟨i, hi, rfl⟩ := List.getElem_of_mem hr
      exact (hR2 i _ (List.getElem?_eq_getElem hi)).1
    · have := hw ((((List.range l).map D).length + ((List.range (m - l)).map fun j => D (l + j)).length) * 160) (by rw [hws]; exact List.mem_cons_self)
      simp at this
      omega
end
end Go.Proofs.Ytmdohnbhogfopaa
/- What a law's arguments read as: asks and faults. -/
namespace Go.Proofs.Ytmdohnbhogfopaa
open Go.ChangeShapes Go.WideShapes Go.ChangeAt Go.RowKit Go.Joins
set_option linter.unusedVariables false
set_option linter.unusedSimpArgs false
set_option maxRecDepth 100000
theorem weightsEach_mem {H : Type} {P : Program} : ∀ {ts : List TypeId} {ds : List (DataW H)} {j : Nat} {t : TypeId} {d : DataW H}, ts[j]? = some t → ds[j]? = some d → ∀ x ∈ DataW.weights P t d, x ∈ DataW.weightsEach P ts ds
  | [], _, _, _, _, h, _, _, _ => by simp at h
  | _ :: _, [], _, _, _, _, h, _, _ => by simp at h
  | t' :: ts, d' :: ds, 0, _, _, h, k, x, hx => by
    simp at h k
    subst h k
    unfold DataW.weightsEach
    exact List.mem_append_left _ hx
  | t' :: ts, d' :: ds, j + 1, _, _, h, k, x, hx => by
    unfold DataW.weightsEach
    exact List.mem_append_right _ (weightsEach_mem (j := j) (by simpa using h) (by simpa using k) x hx)
theorem weight_of {H : Type} {P : Program} {ts vt : List TypeId} {ds gs : List (DataW H)} (h : (DataW.weightsEach P (ts ++ vt) (ds ++ gs)).all (· ≤ reachBytes) = true) {j : Nat} {t : TypeId} {d : DataW H} (ht : ts[j]? = some t) (hd : ds[j]? = some d) : ∀ x ∈ DataW.weights P t d, x ≤ 140737488351232 := fun x hx => by
  have h1 := List.all_eq_true.1 h x (weightsEach_mem (j := j) (by rw [List.getElem?_append_left (List.getElem?_eq_some_iff.1 ht).1]; exact ht) (by rw [List.getElem?_append_left (List.getElem?_eq_some_iff.1 hd).1]; exact hd) x hx)
  have h2 : x ≤ reachBytes := of_decide_eq_true h1
  exact h2
/-- An ask: a tick, a link, a post. -/
structure AskC where
  t : Int
  l : Int
  p : PostC
structure AskFit (x : AskC) : Prop where
  t : (Lit.int .i64 x.t).wf = true
  l : (Lit.int .i64 x.l).wf = true
  s : (Lit.int .u8 x.p.s).wf = true
  R : WordFit x.p.R
def askL (x : AskC) (v : Value) : List Value := [.int .i64 x.t, .int .i64 x.l, .int .u8 x.p.s, v]
def AskIn (W : World) (ad : Addr) (x : AskC) : Prop := ∃ v, WordAt 0 W v x.p.R ∧ ∀ j u, (askL x v)[j]? = some u → W.cell? (ad.add j) = some u
def AsksIn (W : World) (v : Value) (L : List AskC) : Prop :=
  (v = .slice none 0 0 ∧ L = []) ∨ ∃ ad cap, v = .slice (some ad) L.length cap ∧ L.length ≤ cap ∧ cap ≤ maxLen ∧ ∀ i x, L[i]? = some x → AskIn W (ad.add (i * 4)) x
section
variable {H : Type} {enc : TypeId × Value → H} {W : World}
theorem post_trod {fuel : Nat} {cs : List Value} {d : DataW H} {p : List MemPlace} (h : DataW.trod enc Try.prog W 0 (fun _ => true) true fuel 40 cs = some (d, p)) (hw : ∀ x ∈ DataW.weights Try.prog 40 d, x ≤ 140737488351232) :
    ∃ s v R, cs = [.int .u8 s, v] ∧ (Lit.int .u8 s).wf = true ∧ WordAt 0 W v R ∧ WordFit R := by
  obtain ⟨xs, n, _, hx, hl, hlen, hf⟩ := DataW.trod_struct Try.underlying40 h
  have hC : Try.prog.cellsOf 40 = 2 := by kernel_rfl
  rw [hC] at hl
  match xs, hlen, cs, hl with
  | [y0, y1], _, [c0, c1], _ =>
    have h0 : DataW.trod enc Try.prog W 0 (fun _ => true) true n _ [c0] = some y0 := hf 0 _ rfl
    have h1 : DataW.trod enc Try.prog W 0 (fun _ => true) true n 38 [c1] = some y1 := hf 1 _ rfl
    obtain ⟨a0, e0, _, w0⟩ := DataW.trod_int (k := .u8) (by kernel_rfl) h0
    have hd : d = .agg ([y0, y1].map (·.1)) := (Prod.mk.inj hx).1
    obtain ⟨xs1, n1, _, hx1, hl1, hlen1, hf1⟩ := DataW.trod_struct Try.underlying38 h1
    match xs1, hlen1 with
    | [z0], _ =>
      have h2 : DataW.trod enc Try.prog W 0 (fun _ => true) true n1 36 [c1] = some z0 := hf1 0 _ rfl
      have hd1 : y1.1 = .agg ([z0].map (·.1)) := by rw [hx1]
      have hw2 : ∀ x ∈ DataW.weights Try.prog 36 z0.1, x ≤ 140737488351232 := fun x hx2 => hw x (by
        rw [hd]
        unfold DataW.weights
        rw [Try.underlying40]
        simp only [List.map_cons, List.map_nil, DataW.weightsEach]
        rw [hd1]
        simp only [List.mem_append]
        right
        left
        unfold DataW.weights
        rw [Try.underlying38]
        simp only [List.map_cons, List.map_nil, DataW.weightsEach]
        simp [hx2])
      obtain ⟨R, g1, g2, g3⟩ := rd_word (d := z0.1) (p := z0.2) h2 hw2
      simp only [List.cons.injEq, and_true] at e0
      subst e0
      exact ⟨a0, c1, R, rfl, w0, g1, fun r hr => (g2 r hr).1, fun r hr => (g2 r hr).2, g3⟩
theorem ask_trod {fuel : Nat} {cs : List Value} {d : DataW H} {p : List MemPlace} (h : DataW.trod enc Try.prog W 0 (fun _ => true) true fuel 74 cs = some (d, p)) (hw : ∀ x ∈ DataW.weights Try.prog 74 d, x ≤ 140737488351232) :
    ∃ x v, cs = askL x v ∧ AskFit x ∧ WordAt 0 W v x.p.R := by
  obtain ⟨xs, n, _, hx, hl, hlen, hf⟩ := DataW.trod_struct Try.underlying74 h
  have hC : Try.prog.cellsOf 74 = 4 := by kernel_rfl
  rw [hC] at hl
  match xs, hlen, cs, hl with
  | [y0, y1, y2], _, [c0, c1, c2, c3], _ =>
    have h0 : DataW.trod enc Try.prog W 0 (fun _ => true) true n _ [c0] = some y0 := hf 0 _ rfl
    have h1 : DataW.trod enc Try.prog W 0 (fun _ => true) true n _ [c1] = some y1 := hf 1 _ rfl
    have h2 : DataW.trod enc Try.prog W 0 (fun _ => true) true n 40 [c2, c3] = some y2 := hf 2 _ rfl
    obtain ⟨a0, e0, _, w0⟩ := DataW.trod_int (k := .i64) (by kernel_rfl) h0
    obtain ⟨a1, e1, _, w1⟩ := DataW.trod_int (k := .i64) (by kernel_rfl) h1
    have hd : d = .agg ([y0, y1, y2].map (·.1)) := (Prod.mk.inj hx).1
    have hw2 : ∀ x ∈ DataW.weights Try.prog 40 y2.1, x ≤ 140737488351232 := fun x hx2 => hw x (by
      rw [hd]
      unfold DataW.weights
      rw [Try.underlying74]
      simp only [List.map_cons, List.map_nil, DataW.weightsEach]
      simp [hx2])
    obtain ⟨s, v, R, e2, w2, g1, g2⟩ := post_trod (d := y2.1) (p := y2.2) h2 hw2
    simp only [List.cons.injEq, and_true] at e0 e1 e2
    obtain ⟨rfl, rfl⟩ := e2
    subst e0 e1
    exact ⟨⟨a0, a1, ⟨s, R⟩⟩, c3, rfl, ⟨w0, w1, w2, g2⟩, g1⟩
theorem open_ask {v : Value} {d : DataW H} {p : List MemPlace} {r : Reach} {b0 : Nat} (hval : Value.okWide Try.prog W r b0 74 v) (h : DataW.Trod enc Try.prog W 0 (fun _ => true) true 74 v d p) (hw : ∀ x ∈ DataW.weights Try.prog 74 d, x ≤ 140737488351232) :
    ∃ x u, v = .agg (askL x u).toArray ∧ AskFit x ∧ WordAt 0 W u x.p.R := by
  obtain ⟨cs, rfl, hsz⟩ := okWide_struct Try.underlying74 hval
  obtain ⟨fuel, hf⟩ := h
  simp only [Value.cells] at hf
  obtain ⟨x, u, e, h1, h2⟩ := ask_trod hf hw
  exact ⟨x, u, by rw [← e], h1, h2⟩
theorem ask_cells : Try.prog.cellsOf 74 = 4 := by kernel_rfl
theorem rd_asks {v : Value} {d : DataW H} {p : List MemPlace} (h0 : DataW.Trod enc Try.prog W 0 (fun _ => true) true 65 v d p) (hv : ∃ a n c, v = .slice a n c) (hw : ∀ x ∈ DataW.weights Try.prog 65 d, x ≤ 140737488351232) :
    ∃ L, AsksIn W v L ∧ (∀ x ∈ L, AskFit x) := by
  obtain ⟨fuel, h⟩ := h0
  obtain ⟨a, n, c, rfl⟩ := hv
  simp only [Value.cells] at h
  rcases Go.Deep.open_slice Try.underlying65 h with ⟨hcs, _⟩ | ⟨x, l, c, m, n', D, Pl, hcs, _, hl, hm, hmm, hx0, hx⟩
  · simp at hcs
    obtain ⟨rfl, rfl, rfl⟩ := hcs
    exact ⟨[], .inl ⟨rfl, rfl⟩, by simp⟩
  · simp at hcs
    obtain ⟨rfl, rfl, rfl⟩ := hcs
    rw [ask_cells] at hx
    have hd : d = .slice ((List.range n).map D) ((List.range (m - n)).map fun j => D (n + j)) := (Prod.mk.inj hx0).1
    obtain ⟨L, hL1, hL2⟩ := listOf (P := fun i (y : AskC) => AskFit y ∧ AskIn W (x.add (i * 4)) y) n (fun i hi => by
      obtain ⟨cs', h1, h2⟩ := hx i (by rw [hmm, if_pos rfl]; omega)
      obtain ⟨_, h4, h3⟩ := World.cells?_some h1
      obtain ⟨y, u, e, g1, g2⟩ := ask_trod h2 (fun z hz => hw z (by
        rw [hd]
        unfold DataW.weights
        rw [Try.underlying65]
        simp only
        exact List.mem_cons_of_mem _ (List.mem_append_left _ (weightsAll_mem (List.mem_map.2 ⟨i, by simpa using hi, rfl⟩) hz))))
      refine ⟨y, g1, u, g2, fun j z hj => ?_⟩
      rw [← e] at hj
      rw [h3 j (by have := (List.getElem?_eq_some_iff.1 hj).1; omega)]
      exact hj)
    exact ⟨L, .inr ⟨x, _, by rw [hL1], by omega, hm, fun i y hi => (hL2 i y hi).2⟩, fun y hy => by
      obtain ⟨i, hi, rfl⟩ := List.getElem_of_mem hy
      exact (hL2 i _ (List.getElem?_eq_getElem hi)).1⟩
theorem spell_trod {fuel : Nat} {cs : List Value} {x : DataW H × List MemPlace} (h : DataW.trod enc Try.prog W 0 (fun _ => true) true fuel 27 cs = some x) : ∃ s, cs = spL s ∧ SpellOk s := by
  obtain ⟨xs, n, _, rfl, hl, hlen, hf⟩ := DataW.trod_struct Try.underlying27 h
  have hC : Try.prog.cellsOf 27 = 5 := by kernel_rfl
  rw [hC] at hl
  match xs, hlen, cs, hl with
  | [y0, y1, y2, y3, y4], _, [c0, c1, c2, c3, c4], _ =>
    have h0 : DataW.trod enc Try.prog W 0 (fun _ => true) true n _ [c0] = some y0 := hf 0 _ rfl
    have h1 : DataW.trod enc Try.prog W 0 (fun _ => true) true n _ [c1] = some y1 := hf 1 _ rfl
    have h2 : DataW.trod enc Try.prog W 0 (fun _ => true) true n _ [c2] = some y2 := hf 2 _ rfl
    have h3 : DataW.trod enc Try.prog W 0 (fun _ => true) true n _ [c3] = some y3 := hf 3 _ rfl
    have h4 : DataW.trod enc Try.prog W 0 (fun _ => true) true n _ [c4] = some y4 := hf 4 _ rfl
    obtain ⟨a0, e0, _, w0⟩ := DataW.trod_int (k := .i64) (by kernel_rfl) h0
    obtain ⟨a1, e1, _, w1⟩ := DataW.trod_int (k := .i64) (by kernel_rfl) h1
    obtain ⟨a2, e2, _, w2⟩ := DataW.trod_int (k := .u8) (by kernel_rfl) h2
    obtain ⟨a3, e3, _, w3⟩ := DataW.trod_int (k := .u8) (by kernel_rfl) h3
    obtain ⟨a4, e4, _, w4⟩ := DataW.trod_int (k := .u64) (by kernel_rfl) h4
    simp only [List.cons.injEq, and_true] at e0 e1 e2 e3 e4
    subst e0 e1 e2 e3 e4
    exact ⟨⟨a0, a1, a2, a3, a4⟩, rfl, ⟨w0, w1, w2, w3, w4⟩⟩
theorem spell_cells : Try.prog.cellsOf 27 = 5 := by kernel_rfl
theorem rd_spells {fuel : Nat} {v : Value} {x : DataW H × List MemPlace} (h : DataW.trod enc Try.prog W 0 (fun _ => true) true fuel 32 [v] = some x) : ∃ S, SpAt 0 W v S ∧ (∀ s ∈ S, SpellOk s) := by
  rcases Go.Deep.open_slice Try.underlying32 h with ⟨hcs, _⟩ | ⟨x, l, c, m, n', D, Pl, hcs, _, hl, hm, hmm, hx0, hx⟩
  · simp at hcs
    subst hcs
    exact ⟨[], .inl ⟨rfl, rfl⟩, by simp⟩
  · simp at hcs
    subst hcs
    rw [spell_cells] at hx
    obtain ⟨S, hS1, hS2⟩ := listOf (P := fun i (s : SpellC) => SpellOk s ∧ ∀ j u, (spL s)[j]? = some u → W.cell? ((x.add (i * 5)).add j) = some u) l (fun i hi => by
      obtain ⟨cs', h1, h2⟩ := hx i (by rw [hmm, if_pos rfl]; omega)
      obtain ⟨_, h4, h3⟩ := World.cells?_some h1
      obtain ⟨s, e, g1⟩ := spell_trod h2
      refine ⟨s, g1, fun j z hj => ?_⟩
      rw [← e] at hj
      rw [h3 j (by have := (List.getElem?_eq_some_iff.1 hj).1; omega)]
      exact hj)
    exact ⟨S, .inr ⟨x, c, by rw [hS1], by omega, hm, Nat.zero_le _, fun i s hi => (hS2 i s hi).2⟩, fun s hs => by
      obtain ⟨i, hi, rfl⟩ := List.getElem_of_mem hs
      exact (hS2 i _ (List.getElem?_eq_getElem hi)).1⟩
theorem open_fault {v : Value} {d : DataW H} {p : List MemPlace} {r : Reach} {b0 : Nat} (hval : Value.okWide Try.prog W r b0 34 v) (h : DataW.Trod enc Try.prog W 0 (fun _ => true) true 34 v d p) :
    ∃ nd lk u S, v = .agg #[.int .i64 nd, .int .i64 lk, u] ∧ (Lit.int .i64 nd).wf = true ∧ (Lit.int .i64 lk).wf = true ∧ SpAt 0 W u S ∧ (∀ s ∈ S, SpellOk s) := by
  obtain ⟨cs, rfl, hsz⟩ := okWide_struct Try.underlying34 hval
  obtain ⟨fuel, hf0⟩ := h
  simp only [Value.cells] at hf0
  obtain ⟨xs, n, _, _, hl, hlen, hf⟩ := DataW.trod_struct Try.underlying34 hf0
  have hC : Try.prog.cellsOf 34 = 3 := by kernel_rfl
  rw [hC] at hl
  obtain ⟨l⟩ := cs
  simp only at hl hf
  match xs, hlen, l, hl with
  | [y0, y1, y2], _, [c0, c1, c2], _ =>
    have h0 : DataW.trod enc Try.prog W 0 (fun _ => true) true n _ [c0] = some y0 := hf 0 _ rfl
    have h1 : DataW.trod enc Try.prog W 0 (fun _ => true) true n _ [c1] = some y1 := hf 1 _ rfl
    have h2 : DataW.trod enc Try.prog W 0 (fun _ => true) true n 32 [c2] = some y2 := hf 2 _ rfl
    obtain ⟨a0, e0, _, w0⟩ := DataW.trod_int (k := .i64) (by kernel_rfl) h0
    obtain ⟨a1, e1, _, w1⟩ := DataW.trod_int (k := .i64) (by kernel_rfl) h1
    obtain ⟨S, g1, g2⟩ := rd_spells h2
    simp only [List.cons.injEq, and_true] at e0 e1
    subst e0 e1
    exact ⟨a0, a1, c2, S, rfl, w0, w1, g1, g2⟩
end
end Go.Proofs.Ytmdohnbhogfopaa
