/- Frames: Read. -/
import Derived.Test.YtbfbpagfmhdblaaFramesD
namespace Go.Proofs.Ytbfbpagfmhdblaa
open Go.RowKit
set_option linter.unusedSimpArgs false
set_option linter.unusedVariables false
set_option maxRecDepth 100000
/-- What n symbols are read as. -/
def readOk (L : Nat → Int) (n : Nat) : Bool := decide (n = 114) && wholeL L n
def readE (L : Nat → Int) (n : Nat) : Int := if readOk L n then getE (bytesL L) 14 else 4
def readV (L : Nat → Int) (n : Nat) : Value := if readOk L n then getV (bytesL L) 14 else frV 0 0 0 0 0
def readT (L : Nat → Int) (n : Nat) : Value := if readOk L n then tailV (decide (L 112 = 2)) (decide (L 113 = 2)) else tailV false false
theorem bytesL_byte {L : Nat → Int} {q : Nat} (h : wholeL L (8 * q) = true) : ∀ i, i < q → 0 ≤ bytesL L i ∧ bytesL L i < 256 := fun i hi => by
  have h1 : wholeL (fun j => L (8 * i + j)) 8 = true := wholeL_iff.2 fun j hj => wholeL_iff.1 h _ (by omega)
  have := numL_bd h1
  exact ⟨this.1, by have h2 := this.2; have : ((2 : Int) ^ 8) = 256 := by decide
                    unfold bytesL; omega⟩
theorem frV_cells {o k st sq v : Int} : frV o k st sq v = .agg #[.int .i64 o, .int .u8 k, .int .u8 st, .int .u32 sq, .int .u32 v] := rfl
theorem getV_is (L : Nat → Int) (n : Nat) : ∃ o k st sq v, getV L n = .agg #[.int .i64 o, .int .u8 k, .int .u8 st, .int .u32 sq, .int .u32 v] := by
  unfold getV
  split
  · exact ⟨_, _, _, _, _, rfl⟩
  · exact ⟨_, _, _, _, _, rfl⟩
theorem tl_cells {W : World} {g : Nat} {t : TypeId} {a b : Value} (h : Blk W g #[a, b] t) :
    (W.cell? ⟨g, 0, none⟩ = some a ∧ W.cell? ⟨g, 1, none⟩ = some b) ∧ W.frozen? ⟨g, 0, none⟩ = false ∧ W.frozen? ⟨g, 1, none⟩ = false :=
  ⟨⟨h.cell (i := 0) rfl, h.cell (i := 1) rfl⟩, h.free 0, h.free 1⟩
theorem fr_setNe {W : World} {g h : Nat} {t : TypeId} {cs : Array Value} (hB : Blk W h cs t) (hne : h ≠ g) (a' b' c' d' e' : Value) :
    Blk (((((W.setCell ⟨g, 0, none⟩ a').setCell ⟨g, 1, none⟩ b').setCell ⟨g, 2, none⟩ c').setCell ⟨g, 3, none⟩ d').setCell ⟨g, 4, none⟩ e') h cs t :=
  ((((hB.setNe (a := ⟨g, 0, none⟩) hne a').setNe (a := ⟨g, 1, none⟩) hne b').setNe (a := ⟨g, 2, none⟩) hne c').setNe (a := ⟨g, 3, none⟩) hne d').setNe (a := ⟨g, 4, none⟩) hne e'
theorem tl_set {W : World} {g : Nat} {t : TypeId} {a b : Value} (h : Blk W g #[a, b] t) (a' b' : Value) : Blk ((W.setCell ⟨g, 0, none⟩ a').setCell ⟨g, 1, none⟩ b') g #[a', b'] t :=
  ((h.set 0 a').set 1 b').congr (by simp)
theorem tl_setNe {W : World} {g h : Nat} {t : TypeId} {cs : Array Value} (hB : Blk W h cs t) (hne : h ≠ g) (a' b' : Value) : Blk ((W.setCell ⟨g, 0, none⟩ a').setCell ⟨g, 1, none⟩ b') h cs t :=
  (hB.setNe (a := ⟨g, 0, none⟩) hne a').setNe (a := ⟨g, 1, none⟩) hne b'
theorem tl_below {B : Nat} {w W : World} {g : Nat} (h : Below B w W) (hg : B ≤ g) (a' b' : Value) : Below B w ((W.setCell ⟨g, 0, none⟩ a').setCell ⟨g, 1, none⟩ b') :=
  (h.setCell (p := ⟨g, 0, none⟩) hg a').setCell (p := ⟨g, 1, none⟩) hg b'
set_option maxHeartbeats 4000000 in
theorem frRead (w : World) (ao : Option Addr) (n c : Nat) (L : Nat → Int) (ha : Rd .u8 w ao n L) (hnil : NilOk ao n c) (hn : n ≤ 800000) :
    Calls Try.prog 35 #[.slice ao n c] w fun e w' => e = .returned (.tuple #[readV L n, readT L n, .int .i64 (readE L n)]) ∧ Below w.heap.size w w' := by
  cases hok : readOk L n with
  | false =>
    simp only [readV, readT, readE, hok, Bool.false_eq_true, if_false]
    unfold frV tailV
    by_cases h114 : n = 114
    · subst h114
      have hw : wholeL L 114 = false := by simpa [readOk] using hok
      replace ha := Lib.hid ha
      clear hok
      go_enter Try.func35, Try.ntmps35
      go_wp2_with fail
      refine (bitsWhole _ ao 114 c L (ha.out.below ((below_alloc _ _).trans ((below_alloc _ _).mono (by simp))) (Nat.le_refl _)) (by omega)).mono ?_
      rintro e _ ⟨rfl, rfl⟩
      rw [hw]
      go_wp2
      refine bodyPost_ret (v := .tuple #[.agg #[.int .i64 0, .int .u8 0, .int .u8 0, .int .u32 0, .int .u32 0], .agg #[.bool false, .bool false], .int .i64 4]) (by simp [results, Try.results35, go_sem]) rfl ⟨rfl, ((below_alloc _ _).trans ((below_alloc _ _).mono (by simp)))⟩
    · have g1 : decide ((n : Int) = 114) = false := by simp; omega
      have g2 : ¬ (n : Int) = 114 := by omega
      have g3 : ((n : Int) != 114) = true := by simp; omega
      clear hok h114
      go_enter Try.func35, Try.ntmps35
      go_wp2
      refine bodyPost_ret (v := .tuple #[.agg #[.int .i64 0, .int .u8 0, .int .u8 0, .int .u32 0, .int .u32 0], .agg #[.bool false, .bool false], .int .i64 4]) (by simp [results, Try.results35, go_sem]) rfl ⟨rfl, ((below_alloc _ _).trans ((below_alloc _ _).mono (by simp)))⟩
  | true =>
    obtain ⟨h114, hw⟩ : n = 114 ∧ wholeL L n = true := by simpa [readOk] using hok
    subst h114
    have hw2 : wholeL L 112 = true := wholeL_iff.2 fun i hi => wholeL_iff.1 hw i (by omega)
    have hob : okB L 112 = true := by simp [okB, hw2]
    have hcb : cntB L 112 = 14 := by simp [cntB, hob]
    have hby := Lib.hid (bytesL_byte (q := 14) hw2)
    simp only [readV, readT, readE, hok, if_true]
    obtain ⟨o, k, st, sq, v, hgv⟩ := getV_is (bytesL L) 14
    have G := Lib.hid (fun (W : World) (a : Option Addr) (cc : Nat) (h : Rd .u8 W a 14 (bytesL L)) (h2 : NilOk a 14 cc) => by
      have := frGet W a 14 cc (bytesL L) h h2 hby.out (by omega)
      rw [hgv] at this
      exact this)
    rw [hgv]
    generalize getE (bytesL L) 14 = E at *
    have B := Lib.hid (fun (W : World) (h : Rd .u8 W ao 112 L) => by
      have := bitsBytes W ao 112 c L h ⟨by have := hnil.1; omega, hnil.2.1, fun e => by have := hnil.2.2 e; omega⟩ (by omega)
      rw [hob, hcb] at this
      exact this)
    obtain ⟨b, off, rfl, hc112⟩ := ha 112 (by omega)
    obtain ⟨b', off', hb', hc113⟩ := ha 113 (by omega)
    simp only [Option.some.injEq, Addr.mk.injEq, and_true] at hb'
    obtain ⟨rfl, rfl⟩ := hb'
    have hlt := World.block_lt_of_cell? w _ hc112
    have hcc : 114 ≤ c := hnil.1
    have hcc2 : (112 : Int) ≤ (c : Int) := by omega
    have q2 : (L 112 == 2) = decide (L 112 = 2) := rfl
    have q3 : (L 113 == 2) = decide (L 113 = 2) := rfl
    unfold tailV
    generalize decide (L 112 = 2) = t2 at *
    generalize decide (L 113 = 2) = t3 at *
    have hA := Lib.hid (show Below w.heap.size w ((w.alloc (.cells #[.int .i64 0, .int .u8 0, .int .u8 0, .int .u32 0, .int .u32 0] 34)).alloc (.cells #[.bool false, .bool false] 38)) from (below_alloc _ _).trans ((below_alloc _ _).mono (by simp)))
    have hcl : Hid (∀ W, Below w.heap.size w W → W.cell? ⟨b, off + 112, none⟩ = some (.int .u8 (L 112)) ∧ W.cell? ⟨b, off + 113, none⟩ = some (.int .u8 (L 113))) := fun W h => ⟨below_cell hc112 h hlt, below_cell hc113 h hlt⟩
    replace ha := Lib.hid ha
    have x112 := below_cell hc112 hA.out hlt
    have x113 := below_cell hc113 hA.out hlt
    clear hok hgv hnil hob hcb hw2
    go_enter Try.func35, Try.ntmps35
    go_wp2_with fail
    refine (bitsWhole _ _ 114 c L (ha.out.below hA.out (Nat.le_refl _)) (by omega)).mono ?_
    rintro e _ ⟨rfl, rfl⟩
    rw [hw]
    go_wp2_with fail
    go_region_held3 (fun W => W.cell? ⟨b, off + 112, none⟩ = some (.int .u8 (L 112)) ∧ W.cell? ⟨b, off + 113, none⟩ = some (.int .u8 (L 113)))
      (first | exact ⟨x112, x113⟩ | exact hcl.out _ (hA.out.alloc hA.out.size _).drew) (fail)
    have hR0 := Lib.hid ((((Blk.new w #[.int .i64 0, .int .u8 0, .int .u8 0, .int .u32 0, .int .u32 0] 34).alloc (.cells #[.bool false, .bool false] 38)).drew).alloc (.cells #[.bool t2, .bool t3] 38))
    have hS0 := Lib.hid ((show Blk ((w.alloc (.cells #[.int .i64 0, .int .u8 0, .int .u8 0, .int .u32 0, .int .u32 0] 34)).alloc (.cells #[.bool false, .bool false] 38)) (w.heap.size + 1) #[.bool false, .bool false] 38 by have := Blk.new (w.alloc (.cells #[.int .i64 0, .int .u8 0, .int .u8 0, .int .u32 0, .int .u32 0] 34)) #[.bool false, .bool false] 38; simpa using this).drew.alloc (.cells #[.bool t2, .bool t3] 38))
    go_wp2_with fail
    have hb2 : Below w.heap.size w (((w.alloc (.cells #[.int .i64 0, .int .u8 0, .int .u8 0, .int .u32 0, .int .u32 0] 34)).alloc (.cells #[.bool false, .bool false] 38)).alloc (.cells #[.bool t2, .bool t3] 38)).drew := (hA.out.alloc hA.out.size _).drew
    have hT0 : Blk (((w.alloc (.cells #[.int .i64 0, .int .u8 0, .int .u8 0, .int .u32 0, .int .u32 0] 34)).alloc (.cells #[.bool false, .bool false] 38)).alloc (.cells #[.bool t2, .bool t3] 38)).drew (w.heap.size + 1 + 1) #[.bool t2, .bool t3] 38 := by
      have := (Blk.new ((w.alloc (.cells #[.int .i64 0, .int .u8 0, .int .u8 0, .int .u32 0, .int .u32 0] 34)).alloc (.cells #[.bool false, .bool false] 38)) #[.bool t2, .bool t3] 38).drew
      simpa using this
    refine calls_abs (fun W => Below w.heap.size w W ∧ Blk W w.heap.size #[.int .i64 0, .int .u8 0, .int .u8 0, .int .u32 0, .int .u32 0] 34 ∧ Blk W (w.heap.size + 1) #[.bool false, .bool false] 38 ∧ Blk W (w.heap.size + 1 + 1) #[.bool t2, .bool t3] 38) ⟨hb2, hR0.out.drew, hS0.out.drew, hT0⟩ ?_
    clear hb2 hT0 hR0 hS0 hA x112 x113 hc112 hc113 hcl
    rintro w2 ⟨hb2, hR2, hS2, hT2⟩
    refine (B.out w2 ((show Rd .u8 w (some ⟨b, off, none⟩) 112 L from fun i hi => ha.out i (by omega)).below hb2 (Nat.le_refl _))).mono ?_
    rintro e w3 ⟨a3, rfl, m3, hb3⟩
    have hR3 := hR2.below hb3 hR2.lt
    have hS3 := hS2.below hb3 hS2.lt
    have hT3 := hT2.below hb3 hT2.lt
    have hb03 := bthen hb2 hb3
    have x3 := Lib.hid m3.rd
    have n3 : a3 = none → 14 = 0 ∧ 14 = 0 := m3.none
    clear hR2 hS2 hT2 hb2 hb3 m3
    go_wp2_with fail
    refine (G.out _ a3 14 x3.out ⟨Nat.le_refl _, by omega, fun e => by have := n3 e; omega⟩).mono ?_
    rintro e w4 ⟨rfl, hb4⟩
    have hR4 := Lib.hid (hR3.below hb4 hR3.lt)
    have hS4 := Lib.hid (hS3.below hb4 hS3.lt)
    have hT4 := Lib.hid (hT3.below hb4 hT3.lt)
    have hb04 := bthen hb03 hb4
    clear hR3 hS3 hT3 hb03 hb4 n3 x3 G B
    obtain ⟨⟨c0, c1, c2, c3, c4⟩, f0, f1, f2, f3, f4⟩ := fr_cells hR4.out
    obtain ⟨⟨s0, s1⟩, fs0, fs1⟩ := tl_cells hS4.out
    obtain ⟨⟨t0, t1⟩, _⟩ := tl_cells hT4.out
    have hl1 := hR4.out.lt
    have hl2 := hS4.out.lt
    have hl3 := hT4.out.lt
    go_wp2_with fail
    have hF5 := Blk.new w4 #[.int .i64 o, .int .u8 k, .int .u8 st, .int .u32 sq, .int .u32 v] 34
    have hT5 := hT4.out.alloc (.cells #[.int .i64 o, .int .u8 k, .int .u8 st, .int .u32 sq, .int .u32 v] 34)
    have hR5 := hR4.out.alloc (.cells #[.int .i64 o, .int .u8 k, .int .u8 st, .int .u32 sq, .int .u32 v] 34)
    have hS5 := hS4.out.alloc (.cells #[.int .i64 o, .int .u8 k, .int .u8 st, .int .u32 sq, .int .u32 v] 34)
    have hb05 := bthen hb04 (below_alloc w4 (.cells #[.int .i64 o, .int .u8 k, .int .u8 st, .int .u32 sq, .int .u32 v] 34))
    generalize w4.alloc (.cells #[.int .i64 o, .int .u8 k, .int .u8 st, .int .u32 sq, .int .u32 v] 34) = w5 at *
    clear c0 c1 c2 c3 c4 f0 f1 f2 f3 f4 s0 s1 fs0 fs1 t0 t1
    obtain ⟨⟨c0, c1, c2, c3, c4⟩, f0, f1, f2, f3, f4⟩ := fr_cells hR5
    obtain ⟨⟨s0, s1⟩, fs0, fs1⟩ := tl_cells hS5
    replace hF5 := Lib.hid hF5
    replace hT5 := Lib.hid hT5
    replace hR5 := Lib.hid hR5
    replace hS5 := Lib.hid hS5
    have hcl : Hid (∀ W, Blk W w4.heap.size #[.int .i64 o, .int .u8 k, .int .u8 st, .int .u32 sq, .int .u32 v] 34 → Blk W (w.heap.size + 1 + 1) #[.bool t2, .bool t3] 38 →
        (W.cell? ⟨w4.heap.size, 0, none⟩ = some (.int .i64 o) ∧ W.cell? ⟨w4.heap.size, 1, none⟩ = some (.int .u8 k) ∧ W.cell? ⟨w4.heap.size, 2, none⟩ = some (.int .u8 st) ∧ W.cell? ⟨w4.heap.size, 3, none⟩ = some (.int .u32 sq) ∧ W.cell? ⟨w4.heap.size, 4, none⟩ = some (.int .u32 v)) ∧ W.cell? ⟨w.heap.size + 1 + 1, 0, none⟩ = some (.bool t2) ∧ W.cell? ⟨w.heap.size + 1 + 1, 1, none⟩ = some (.bool t3)) := fun W h1 h2 => ⟨(fr_cells h1).1, (tl_cells h2).1⟩
    go_region_held3 (fun W => (W.cell? ⟨w4.heap.size, 0, none⟩ = some (.int .i64 o) ∧ W.cell? ⟨w4.heap.size, 1, none⟩ = some (.int .u8 k) ∧ W.cell? ⟨w4.heap.size, 2, none⟩ = some (.int .u8 st) ∧ W.cell? ⟨w4.heap.size, 3, none⟩ = some (.int .u32 sq) ∧ W.cell? ⟨w4.heap.size, 4, none⟩ = some (.int .u32 v)) ∧ W.cell? ⟨w.heap.size + 1 + 1, 0, none⟩ = some (.bool t2) ∧ W.cell? ⟨w.heap.size + 1 + 1, 1, none⟩ = some (.bool t3))
      (first
        | with_reducible exact hcl.out _ hF5.out.drew hT5.out.drew
        | with_reducible exact hcl.out _ (fr_setNe hF5.out (by omega) _ _ _ _ _).drew (fr_setNe hT5.out (by omega) _ _ _ _ _).drew
        | with_reducible exact hcl.out _ (tl_setNe (fr_setNe hF5.out (by omega) _ _ _ _ _) (by omega) _ _).drew (tl_setNe (fr_setNe hT5.out (by omega) _ _ _ _ _) (by omega) _ _).drew
        | (trace_state; fail)) (fail)
    have hR6 := tl_setNe (g := w.heap.size + 1) (fr_set hR5.out (.int .i64 o) (.int .u8 k) (.int .u8 st) (.int .u32 sq) (.int .u32 v)) (by omega) (.bool t2) (.bool t3) |>.drew
    have hS6 := tl_set (fr_setNe (g := w.heap.size) hS5.out (by omega) (.int .i64 o) (.int .u8 k) (.int .u8 st) (.int .u32 sq) (.int .u32 v)) (.bool t2) (.bool t3) |>.drew
    have hb06 := tl_below (fr_below hb05 (Nat.le_refl _) (.int .i64 o) (.int .u8 k) (.int .u8 st) (.int .u32 sq) (.int .u32 v)) (g := w.heap.size + 1) (by omega) (.bool t2) (.bool t3) |>.drew
    go_wp2_with fail
    obtain ⟨⟨r0, r1, r2, r3, r4⟩, _⟩ := fr_cells hR6
    obtain ⟨⟨v0, v1⟩, _⟩ := tl_cells hS6
    refine bodyPost_ret (v := .tuple #[.agg #[.int .i64 o, .int .u8 k, .int .u8 st, .int .u32 sq, .int .u32 v], .agg #[.bool t2, .bool t3], .int .i64 E]) (by simp [results, Try.results35, go_sem, r0, r1, r2, r3, r4, v0, v1]) rfl ⟨rfl, hb06⟩
end Go.Proofs.Ytbfbpagfmhdblaa
