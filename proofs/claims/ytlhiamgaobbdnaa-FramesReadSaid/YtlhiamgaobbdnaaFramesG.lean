/- Frames: the document's Read. -/
import Derived.Test.YtlhiamgaobbdnaaFramesF
namespace Go.Proofs.Ytlhiamgaobbdnaa
open Go.RowKit
set_option linter.unusedSimpArgs false
set_option linter.unusedVariables false
set_option maxRecDepth 100000
set_option maxHeartbeats 4000000 in
theorem refRead (w : World) (ao : Option Addr) (n c : Nat) (L : Nat → Int) (ha : Rd .u8 w ao n L) (hnil : NilOk ao n c) (hn : n ≤ 100000) :
    Calls Try.prog 31 #[.slice ao n c] w fun e w' => e = .returned (.tuple #[readV L n, readT L n, .int .i64 (readE L n)]) ∧ Below w.heap.size w w' := by
  have hA := Lib.hid (show Below w.heap.size w ((w.alloc (.cells #[.int .i64 0, .int .u8 0, .int .u8 0, .int .u32 0, .int .u32 0] 28)).alloc (.cells #[.bool false, .bool false] 39)) from (below_alloc _ _).trans ((below_alloc _ _).mono (by simp)))
  have hR0 := Lib.hid ((Blk.new w #[.int .i64 0, .int .u8 0, .int .u8 0, .int .u32 0, .int .u32 0] 28).alloc (.cells #[.bool false, .bool false] 39))
  have hS0 := Lib.hid (show Blk ((w.alloc (.cells #[.int .i64 0, .int .u8 0, .int .u8 0, .int .u32 0, .int .u32 0] 28)).alloc (.cells #[.bool false, .bool false] 39)) (w.heap.size + 1) #[.bool false, .bool false] 39 by have := Blk.new (w.alloc (.cells #[.int .i64 0, .int .u8 0, .int .u8 0, .int .u32 0, .int .u32 0] 28)) #[.bool false, .bool false] 39; simpa using this)
  cases hok : readOk L n with
  | false =>
    simp only [readV, readT, readE, hok, Bool.false_eq_true, if_false]
    unfold frV tailV
    by_cases h114 : n = 114
    · subst h114
      have hw : wholeL L 114 = false := by simpa [readOk] using hok
      replace ha := Lib.hid ha
      clear hok
      go_enter Try.func31, Try.ntmps31
      go_wp2_with fail
      refine calls_abs (fun W => Below w.heap.size w W ∧ Blk W w.heap.size #[.int .i64 0, .int .u8 0, .int .u8 0, .int .u32 0, .int .u32 0] 28 ∧ Blk W (w.heap.size + 1) #[.bool false, .bool false] 39) ⟨hA.out, hR0.out, hS0.out⟩ ?_
      rintro w2 ⟨hb2, hR2, hS2⟩
      refine (refWhole _ ao 114 c L (ha.out.below hb2 (Nat.le_refl _)) (by omega)).mono ?_
      rintro e w3 ⟨rfl, q3, rfl⟩
      rw [hw]
      have hb3 := bthen hb2 (below_drewN w2 q3)
      have hR3 := Lib.hid (hR2.drewN q3)
      have hS3 := Lib.hid (hS2.drewN q3)
      clear hb2 hR2 hS2 hR0 hS0 hA
      generalize w2.drewN q3 = w3 at *
      obtain ⟨⟨c0, c1, c2, c3, c4⟩, f0, f1, f2, f3, f4⟩ := fr_cells hR3.out
      obtain ⟨⟨s0, s1⟩, fs0, fs1⟩ := tl_cells hS3.out
      go_wp2
      have hR6 := tl_setNe (g := w.heap.size + 1) (fr_set hR3.out (.int .i64 0) (.int .u8 0) (.int .u8 0) (.int .u32 0) (.int .u32 0)) (by omega) (.bool false) (.bool false)
      have hS6 := tl_set (fr_setNe (g := w.heap.size) hS3.out (by omega) (.int .i64 0) (.int .u8 0) (.int .u8 0) (.int .u32 0) (.int .u32 0)) (.bool false) (.bool false)
      have hb06 := tl_below (fr_below hb3 (Nat.le_refl _) (.int .i64 0) (.int .u8 0) (.int .u8 0) (.int .u32 0) (.int .u32 0)) (g := w.heap.size + 1) (by omega) (.bool false) (.bool false)
      obtain ⟨⟨r0, r1, r2, r3, r4⟩, _⟩ := fr_cells hR6
      obtain ⟨⟨v0, v1⟩, _⟩ := tl_cells hS6
      refine bodyPost_ret (v := .tuple #[.agg #[.int .i64 0, .int .u8 0, .int .u8 0, .int .u32 0, .int .u32 0], .agg #[.bool false, .bool false], .int .i64 4]) (by simp [results, Try.results31, go_sem, r0, r1, r2, r3, r4, v0, v1]) rfl ⟨rfl, hb06⟩
    · have g1 : decide ((n : Int) = 114) = false := by simp; omega
      have g2 : ¬ (n : Int) = 114 := by omega
      have g3 : ((n : Int) != 114) = true := by simp; omega
      clear hok h114
      go_enter Try.func31, Try.ntmps31
      go_wp2
      refine bodyPost_ret (v := .tuple #[.agg #[.int .i64 0, .int .u8 0, .int .u8 0, .int .u32 0, .int .u32 0], .agg #[.bool false, .bool false], .int .i64 4]) (by simp [results, Try.results31, go_sem]) rfl ⟨rfl, hA.out⟩
  | true =>
    obtain ⟨h114, hw⟩ : n = 114 ∧ wholeL L n = true := by simpa [readOk] using hok
    subst h114
    have hw2 : wholeL L 112 = true := wholeL_iff.2 fun i hi => wholeL_iff.1 hw i (by omega)
    have hob : okB L 112 = true := by simp [okB, hw2]
    have hcb : cntB L 112 = 14 := by simp [cntB, hob]
    have hby := Lib.hid (bytesL_byte (q := 14) hw2)
    simp only [readV, readT, readE, hok, if_true]
    obtain ⟨o, k, st, sq, v, hgv⟩ := getV_is (bytesL L) 14
    have G := Lib.hid (fun (W : World) (a : Option Addr) (cc : Nat) (h : Rd .u8 W a 14 (bytesL L)) (h2 : NilOk a 14 cc) => by
      have := refGet W a 14 cc (bytesL L) h h2 hby.out (by omega)
      rw [hgv] at this
      exact this)
    rw [hgv]
    generalize getE (bytesL L) 14 = E at *
    have B := Lib.hid (fun (W : World) (h : Rd .u8 W ao 112 L) => by
      have := refBytesN W ao 112 c L h ⟨by have := hnil.1; omega, hnil.2.1, fun e => by have := hnil.2.2 e; omega⟩ (by omega)
      rw [hob, hcb] at this
      exact this)
    obtain ⟨b, off, rfl, hc112⟩ := ha 112 (by omega)
    obtain ⟨b', off', hb', hc113⟩ := ha 113 (by omega)
    simp only [Option.some.injEq, Addr.mk.injEq, and_true] at hb'
    obtain ⟨rfl, rfl⟩ := hb'
    have hlt := World.block_lt_of_cell? w _ hc112
    have hcc : 114 ≤ c := hnil.1
    have hcc2 : (112 : Int) ≤ (c : Int) := by omega
    have q2 : (L 112 == 2) = decide (L 112 = 2) := rfl
    have q3 : (L 113 == 2) = decide (L 113 = 2) := rfl
    unfold tailV
    generalize decide (L 112 = 2) = t2 at *
    generalize decide (L 113 = 2) = t3 at *
    replace ha := Lib.hid ha
    clear hok hgv hnil hob hcb hw2
    go_enter Try.func31, Try.ntmps31
    go_wp2_with fail
    refine calls_abs (fun W => Below w.heap.size w W ∧ Blk W w.heap.size #[.int .i64 0, .int .u8 0, .int .u8 0, .int .u32 0, .int .u32 0] 28 ∧ Blk W (w.heap.size + 1) #[.bool false, .bool false] 39) ⟨hA.out, hR0.out, hS0.out⟩ ?_
    rintro w1 ⟨hb1, hR1, hS1⟩
    refine (refWhole _ _ 114 c L (ha.out.below hb1 (Nat.le_refl _)) (by omega)).mono ?_
    rintro e w2 ⟨rfl, q, rfl⟩
    rw [hw]
    have hb2 := bthen hb1 (below_drewN w1 q)
    have hR2 := hR1.drewN q
    have hS2 := hS1.drewN q
    clear hb1 hR1 hS1 hR0 hS0 hA
    generalize w1.drewN q = w2 at *
    go_wp2_with fail
    refine (B.out w2 ((show Rd .u8 w (some ⟨b, off, none⟩) 112 L from fun i hi => ha.out i (by omega)).below hb2 (Nat.le_refl _))).mono ?_
    rintro e w3 ⟨a3, c3, rfl, m3, hb3, n3⟩
    have hR3 := hR2.below hb3 hR2.lt
    have hS3 := hS2.below hb3 hS2.lt
    have hb03 := bthen hb2 hb3
    have x3 := Lib.hid m3.rd
    replace n3 := Lib.hid n3
    clear hR2 hS2 hb2 hb3 m3
    go_wp2_with fail
    refine (G.out _ a3 c3 x3.out n3.out).mono ?_
    rintro e w4 ⟨rfl, hb4⟩
    have hR4 := hR3.below hb4 hR3.lt
    have hS4 := hS3.below hb4 hS3.lt
    have hb04 := bthen hb03 hb4
    clear hR3 hS3 hb03 hb4 n3 x3 G B
    have hl1 := hR4.lt
    have hl2 := hS4.lt
    go_wp2_with fail
    have hF5 := Blk.new w4 #[.int .i64 o, .int .u8 k, .int .u8 st, .int .u32 sq, .int .u32 v] 28
    have hR5 := hR4.alloc (.cells #[.int .i64 o, .int .u8 k, .int .u8 st, .int .u32 sq, .int .u32 v] 28)
    have hS5 := hS4.alloc (.cells #[.int .i64 o, .int .u8 k, .int .u8 st, .int .u32 sq, .int .u32 v] 28)
    have hb05 := bthen hb04 (below_alloc w4 (.cells #[.int .i64 o, .int .u8 k, .int .u8 st, .int .u32 sq, .int .u32 v] 28))
    generalize w4.alloc (.cells #[.int .i64 o, .int .u8 k, .int .u8 st, .int .u32 sq, .int .u32 v] 28) = w5 at *
    obtain ⟨⟨c0, c1, c2, c3, c4⟩, f0, f1, f2, f3, f4⟩ := fr_cells hR5
    obtain ⟨⟨s0, s1⟩, fs0, fs1⟩ := tl_cells hS5
    replace hF5 := Lib.hid hF5
    replace hR5 := Lib.hid hR5
    replace hS5 := Lib.hid hS5
    clear hR4 hS4 hb04
    have hcl : Hid (∀ W, Blk W w4.heap.size #[.int .i64 o, .int .u8 k, .int .u8 st, .int .u32 sq, .int .u32 v] 28 → Below w.heap.size w W →
        (W.cell? ⟨w4.heap.size, 0, none⟩ = some (.int .i64 o) ∧ W.cell? ⟨w4.heap.size, 1, none⟩ = some (.int .u8 k) ∧ W.cell? ⟨w4.heap.size, 2, none⟩ = some (.int .u8 st) ∧ W.cell? ⟨w4.heap.size, 3, none⟩ = some (.int .u32 sq) ∧ W.cell? ⟨w4.heap.size, 4, none⟩ = some (.int .u32 v)) ∧ W.cell? ⟨b, off + 112, none⟩ = some (.int .u8 (L 112)) ∧ W.cell? ⟨b, off + 113, none⟩ = some (.int .u8 (L 113))) := fun W h1 h2 => ⟨(fr_cells h1).1, below_cell hc112 h2 hlt, below_cell hc113 h2 hlt⟩
    clear hc112 hc113
    go_region_held3 (fun W => (W.cell? ⟨w4.heap.size, 0, none⟩ = some (.int .i64 o) ∧ W.cell? ⟨w4.heap.size, 1, none⟩ = some (.int .u8 k) ∧ W.cell? ⟨w4.heap.size, 2, none⟩ = some (.int .u8 st) ∧ W.cell? ⟨w4.heap.size, 3, none⟩ = some (.int .u32 sq) ∧ W.cell? ⟨w4.heap.size, 4, none⟩ = some (.int .u32 v)) ∧ W.cell? ⟨b, off + 112, none⟩ = some (.int .u8 (L 112)) ∧ W.cell? ⟨b, off + 113, none⟩ = some (.int .u8 (L 113)))
      (first
        | with_reducible exact hcl.out _ hF5.out.drew hb05.drew
        | with_reducible exact hcl.out _ (fr_setNe hF5.out (by omega) _ _ _ _ _).drew (fr_below hb05 (Nat.le_refl _) _ _ _ _ _).drew
        | with_reducible exact hcl.out _ (tl_setNe (fr_setNe hF5.out (by omega) _ _ _ _ _) (by omega) _ _).drew (tl_below (fr_below hb05 (Nat.le_refl _) _ _ _ _ _) (by omega) _ _).drew
        | (trace_state; fail)) (fail)
    have hR6 := tl_setNe (g := w.heap.size + 1) (fr_set hR5.out (.int .i64 o) (.int .u8 k) (.int .u8 st) (.int .u32 sq) (.int .u32 v)) (by omega) (.bool t2) (.bool t3) |>.drew
    have hS6 := tl_set (fr_setNe (g := w.heap.size) hS5.out (by omega) (.int .i64 o) (.int .u8 k) (.int .u8 st) (.int .u32 sq) (.int .u32 v)) (.bool t2) (.bool t3) |>.drew
    have hb06 := tl_below (fr_below hb05 (Nat.le_refl _) (.int .i64 o) (.int .u8 k) (.int .u8 st) (.int .u32 sq) (.int .u32 v)) (g := w.heap.size + 1) (by omega) (.bool t2) (.bool t3) |>.drew
    go_wp2_with fail
    obtain ⟨⟨r0, r1, r2, r3, r4⟩, _⟩ := fr_cells hR6
    obtain ⟨⟨v0, v1⟩, _⟩ := tl_cells hS6
    refine bodyPost_ret (v := .tuple #[.agg #[.int .i64 o, .int .u8 k, .int .u8 st, .int .u32 sq, .int .u32 v], .agg #[.bool t2, .bool t3], .int .i64 E]) (by simp [results, Try.results31, go_sem, r0, r1, r2, r3, r4, v0, v1]) rfl ⟨rfl, hb06⟩
end Go.Proofs.Ytlhiamgaobbdnaa
