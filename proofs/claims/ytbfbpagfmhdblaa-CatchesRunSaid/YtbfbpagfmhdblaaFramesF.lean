/- Frames: the document's Get. -/
import Derived.Test.YtbfbpagfmhdblaaFramesE
namespace Go.Proofs.Ytbfbpagfmhdblaa
open Go.RowKit
set_option linter.unusedSimpArgs false
set_option linter.unusedVariables false
set_option maxRecDepth 100000
theorem numU_step (L : Nat → Int) (i : Nat) (hn : numU L i < 16777216) : numU L (i + 1) = 256 * numU L i + (L i).toNat := by
  simp only [numU]
  omega
theorem numU_small (L : Nat → Int) (h : ∀ i, i < 4 → 0 ≤ L i ∧ L i < 256) : ∀ i, i ≤ 4 → numU L i < 256 ^ i
  | 0, _ => by simp [numU]
  | i + 1, hi => by
    have h1 := numU_small L h i (by omega)
    have h2 := h i (by omega)
    have h3 : (256 : Nat) ^ i ≤ 256 ^ 3 := Nat.pow_le_pow_right (by decide) (by omega)
    have h4 : (256 : Nat) ^ 3 = 16777216 := by decide
    rw [numU_step L i (by omega), Nat.pow_succ]
    omega
def InvRG (w1 : World) (g o gf gr cc : Nat) (L : Nat → Int) (k : Nat) (a : Act) (wr : World) : Prop :=
  ∃ (i : Nat), i + k = 4 ∧ Below w1.heap.size w1 wr ∧ Blk wr gf #[.int .i64 (L 0 % 16), .int .u8 (L 0 / 16), .int .u8 (L 1), .int .u32 (numU (fun i => L (2 + i)) i : Nat), .int .u32 (numU (fun i => L (6 + i)) i : Nat)] 28 ∧
    a.tmps.size = 72 ∧ a.defers = [] ∧ slot a 2 = .pointer (some ⟨gr, 0, none⟩) ∧ slot a 3 = .int .i64 0 ∧ slot a 4 = .slice (some ⟨g, o, none⟩) 10 cc ∧ slot a 6 = .pointer (some ⟨gf, 0, none⟩) ∧ slot a 7 = .int .i64 i
set_option maxHeartbeats 4000000 in
theorem refGet (w : World) (ao : Option Addr) (n c : Nat) (L : Nat → Int) (ha : Rd .u8 w ao n L) (hnil : NilOk ao n c) (hL : ∀ i, i < n → 0 ≤ L i ∧ L i < 256) (hn : n ≤ 100000) :
    Calls Try.prog 31 #[.slice ao n c] w fun e w' => e = .returned (.tuple #[getV L n, .int .i64 (getE L n)]) ∧ Below w.heap.size w w' := by
  by_cases h14 : n = 14
  · subst h14
    cases hok : okS L 14 with
    | false =>
      have hE : getE L 14 = 5 := by simp [getE, hok]
      have hV : getV L 14 = frV 0 0 0 0 0 := by simp [getV, hE]
      have C := Lib.hid (fun (W : World) (h : Rd .u8 W ao 14 L) => by
        have := refCheck W ao 14 c L h hnil hL (by omega)
        rw [hok] at this
        exact this)
      rw [hE, hV]
      unfold frV
      clear hok hE hV
      replace ha := Lib.hid ha
      go_enter Try.func31, Try.ntmps31
      go_wp2_with fail
      refine (C.out _ (ha.out.below (below_alloc _ _) (Nat.le_refl _))).mono ?_
      rintro e w1 ⟨a1, cc, rfl, _, hb1⟩
      have hB0 := (Blk.new w #[.int .i64 0, .int .u8 0, .int .u8 0, .int .u32 0, .int .u32 0] 28)
      have hB1 := Lib.hid (hB0.below hb1 hB0.lt)
      have hb01 := bthen (below_alloc _ _) hb1
      clear hB0 hb1
      obtain ⟨⟨c0, c1, c2, c3, c4⟩, f0, f1, f2, f3, f4⟩ := fr_cells hB1.out
      go_wp2
      obtain ⟨⟨s0, s1, s2, s3, s4⟩, _⟩ := fr_cells (fr_set hB1.out (.int .i64 0) (.int .u8 0) (.int .u8 0) (.int .u32 0) (.int .u32 0))
      refine bodyPost_ret (v := .tuple #[.agg #[.int .i64 0, .int .u8 0, .int .u8 0, .int .u32 0, .int .u32 0], .int .i64 5]) (by simp [results, Try.results31, go_sem, s0, s1, s2, s3, s4]) rfl ⟨rfl, fr_below hb01 (Nat.le_refl _) _ _ _ _ _⟩
    | true =>
      have hcn : cntS L 14 = 10 := by simp [cntS, hok]
      have C := Lib.hid (fun (W : World) (h : Rd .u8 W ao 14 L) => by
        have := refCheck W ao 14 c L h hnil hL (by omega)
        rw [hok, hcn] at this
        exact this)
      have hL0 := hL 0 (by omega)
      have hL1 := hL 1 (by omega)
      have hE : Hid (getE L 14 = if mayB (L 0 % 16) (L 0 / 16) then 0 else 4) := by show getE L 14 = _; simp [getE, hok]
      have hV : Hid (getV L 14 = if mayB (L 0 % 16) (L 0 / 16) then frV (L 0 % 16) (L 0 / 16) (L 1) (sqOf L) (vlOf L) else frV 0 0 0 0 0) := by show getV L 14 = _; rw [getV, hE.out]; cases mayB (L 0 % 16) (L 0 / 16) <;> simp
      have hsq : Hid (sqOf L = (numU (fun i => L (2 + i)) 4 : Nat)) := rfl
      have hvl : Hid (vlOf L = (numU (fun i => L (6 + i)) 4 : Nat)) := rfl
      rw [hE.out, hV.out, hsq.out, hvl.out]
      have u1 : IntKind.i64.wrap (L 0 % 16) = L 0 % 16 := wrap_i64_small _ (by omega) (by omega)
      have u3 : IntKind.u8.wrap (L 0 / 16) = L 0 / 16 := by rw [IntKind.wrap_u8]; omega
      have u4 : Int.tmod (L 0) 16 = L 0 % 16 := Int.tmod_eq_emod_of_nonneg (by omega)
      have u5 : Int.tdiv (L 0) 16 = L 0 / 16 := Int.tdiv_eq_ediv_of_nonneg (by omega)
      have s1 := Lib.hid (numU_small (fun i => L (2 + i)) (fun i hi => hL (2 + i) (by omega)))
      have s2 := Lib.hid (numU_small (fun i => L (6 + i)) (fun i hi => hL (6 + i) (by omega)))
      have M := Lib.hid (fun W => refMay W (L 0 % 16) (L 0 / 16) (L 1) (numU (fun i => L (2 + i)) 4 : Nat) (numU (fun i => L (6 + i)) 4 : Nat))
      generalize mayB (L 0 % 16) (L 0 / 16) = mb at *
      clear hok hcn hE hV hnil hsq hvl
      replace ha := Lib.hid ha
      replace hL := Lib.hid hL
      go_enter Try.func31, Try.ntmps31
      go_wp2_with fail
      refine (C.out _ (ha.out.below (below_alloc _ _) (Nat.le_refl _))).mono ?_
      rintro e w1 ⟨a1, cc, rfl, m1, hb1⟩
      have hB0 := (Blk.new w #[.int .i64 0, .int .u8 0, .int .u8 0, .int .u32 0, .int .u32 0] 28)
      have hB1 := hB0.below hb1 hB0.lt
      have hb01 := bthen (below_alloc _ _) hb1
      have hg1 : w.heap.size ≤ w1.heap.size := hb01.size
      obtain ⟨g, o, rfl, c0⟩ := m1 0 (by omega)
      obtain ⟨g', o', hgo, d1⟩ := m1 1 (by omega)
      simp only [Option.some.injEq, Addr.mk.injEq, and_true] at hgo
      obtain ⟨rfl, rfl⟩ := hgo
      have hgl := World.block_lt_of_cell? w1 _ c0
      simp only [Nat.add_zero] at c0
      have x1 := Lib.hid m1
      have hB1' := Lib.hid hB1
      clear hB0 hb1 C m1 hB1
      go_wp2
      refine wp_loop_k (InvRG w1 g o w1.heap.size w.heap.size cc L) 4 ?_ ?_
      · exact ⟨0, by omega, below_alloc _ _, Blk.new _ _ _, by kernel_rfl, rfl, by kernel_rfl, by kernel_rfl, by kernel_rfl, by kernel_rfl, by kernel_rfl⟩
      intro gk1 a wr hI K1 hK1
      obtain ⟨i, hi, hbw, hF, hs', hd', k2', k3', k4', k6', k7'⟩ := hI
      rw [fr72 a hs' hd']; simp only [k2', k3', k4', k6', k7']; clear hs' hd' k2' k3' k4' k6' k7'
      clear c0 d1 u1 u3 u4 u5
      by_cases hi4 : i < 4
      · have g1 : decide ((i : Int) < 4) = true := by simp; omega
        have hq1 := s1.out i (by omega)
        have hq2 := s2.out i (by omega)
        have hpw : (256 : Nat) ^ i ≤ 256 ^ 3 := Nat.pow_le_pow_right (by decide) (by omega)
        have hpw3 : (256 : Nat) ^ 3 = 16777216 := by decide
        obtain ⟨p1, hp1⟩ : ∃ p, 2 + i = p := ⟨_, rfl⟩
        obtain ⟨p2, hp2⟩ : ∃ p, 6 + i = p := ⟨_, rfl⟩
        obtain ⟨_, _, e, x2⟩ := x1.out p1 (by omega)
        simp only [Option.some.injEq, Addr.mk.injEq, and_true] at e
        obtain ⟨rfl, rfl⟩ := e
        obtain ⟨_, _, e, x6⟩ := x1.out p2 (by omega)
        simp only [Option.some.injEq, Addr.mk.injEq, and_true] at e
        obtain ⟨rfl, rfl⟩ := e
        have y2 := below_cell x2 hbw hgl
        have y6 := below_cell x6 hbw hgl
        have b2 := hL.out p1 (by omega)
        have b6 := hL.out p2 (by omega)
        have n2 := numU_step (fun i => L (2 + i)) i (by omega)
        have n6 := numU_step (fun i => L (6 + i)) i (by omega)
        simp only [hp1] at n2
        simp only [hp2] at n6
        have hFn := hF
        generalize hA : numU (fun i => L (2 + i)) i = A at *
        generalize hC : numU (fun i => L (6 + i)) i = C at *
        have e1 : IntKind.i64.wrap (2 + (i : Int)) = (p1 : Int) := by rw [wrap_i64_small _ (by omega) (by omega)]; omega
        have e2 : IntKind.i64.wrap (6 + (i : Int)) = (p2 : Int) := by rw [wrap_i64_small _ (by omega) (by omega)]; omega
        have w1a : IntKind.u32.wrap (256 * (A : Int)) = 256 * (A : Int) := by rw [IntKind.wrap_u32]; omega
        have w1b : IntKind.u32.wrap (256 * (A : Int) + L p1) = ((256 * A + (L p1).toNat : Nat) : Int) := by rw [IntKind.wrap_u32]; omega
        have w2a : IntKind.u32.wrap (256 * (C : Int)) = 256 * (C : Int) := by rw [IntKind.wrap_u32]; omega
        have w2b : IntKind.u32.wrap (256 * (C : Int) + L p2) = ((256 * C + (L p2).toNat : Nat) : Int) := by rw [IntKind.wrap_u32]; omega
        have l2 : IntKind.u32.wrap (L p1) = L p1 := by rw [IntKind.wrap_u32]; omega
        have l6 : IntKind.u32.wrap (L p2) = L p2 := by rw [IntKind.wrap_u32]; omega
        rw [← n2] at w1b
        rw [← n6] at w2b
        have hp1b : (p1 : Int) < 10 := by omega
        have hp2b : (p2 : Int) < 10 := by omega
        have hp1c : p1 < 10 := by omega
        have hp2c : p2 < 10 := by omega
        have hlt2 : w1.heap.size < wr.heap.size := hF.lt
        have hne : g ≠ w1.heap.size := by omega
        obtain ⟨⟨k0, k1, k2, k3, k4⟩, f0, f1, f2, f3, f4⟩ := fr_cells hF
        have hF' := Lib.hid hF
        clear hF hFn n2 n6 hA hC hq1 hq2 hpw hpw3 x2 x6 M s1 s2 hp1 hp2
        generalize hA' : numU (fun i => L (2 + i)) (i + 1) = A' at *
        generalize hC' : numU (fun i => L (6 + i)) (i + 1) = C' at *
        replace hA' := Lib.hid hA'
        replace hC' := Lib.hid hC'
        go_wp2
        refine wp_region_tail 13 (by kernel_rfl) (by kernel_rfl) ?_; simp only [List.take_succ_cons, List.take_zero, List.drop_succ_cons, List.drop_zero]; (repeat still_step); refine wpStill_nil ?_
        go_wp2
        refine wp_region_tail 13 (by kernel_rfl) (by kernel_rfl) ?_; simp only [List.take_succ_cons, List.take_zero, List.drop_succ_cons, List.drop_zero]; (repeat still_step); refine wpStill_nil ?_
        go_wp2
        refine hK1 (4 - (i + 1)) _ _ (by omega) ⟨i + 1, by omega, ((hbw.setCell (p := ⟨w1.heap.size, 3, none⟩) (Nat.le_refl _) _).setCell (p := ⟨w1.heap.size, 4, none⟩) (Nat.le_refl _) _).drew.drew, ?_, by kernel_rfl, rfl, by kernel_rfl, by kernel_rfl, by kernel_rfl, by kernel_rfl, by kernel_rfl⟩
        rw [hA'.out, hC'.out]
        exact (((hF'.out.set 3 (.int .u32 (A' : Nat))).set 4 (.int .u32 (C' : Nat))).congr (by simp)).drew.drew
      · have g1 : decide ((i : Int) < 4) = false := by simp; omega
        obtain rfl : i = 4 := by omega
        have hB2 := hB1'.out.below hbw hB1'.out.lt
        have hb02 := bthen hb01 hbw
        clear hK1 hi hbw s1 s2 x1 hB1'
        have hFx := hF
        generalize hSQ : numU (fun i => L (2 + i)) 4 = SQ at *
        generalize hVL : numU (fun i => L (6 + i)) 4 = VL at *
        replace hSQ := Lib.hid hSQ
        replace hVL := Lib.hid hVL
        obtain ⟨⟨k0, k1, k2, k3, k4⟩, _⟩ := fr_cells hFx
        clear hFx
        go_wp2_with fail
        refine (M.out _).mono ?_
        rintro e w3 ⟨rfl, hb3⟩
        have hF3 := hF.below hb3 hF.lt
        have hB3 := Lib.hid (hB2.below hb3 hB2.lt)
        have hb03 := bthen hb02 hb3
        clear hF hB2 hb3 hb02 M k0 k1 k2 k3 k4
        obtain ⟨⟨c0, c1, c2, c3, c4⟩, f0, f1, f2, f3, f4⟩ := fr_cells hB3.out
        cases mb with
        | false =>
          clear hF3
          go_wp2
          obtain ⟨⟨s0, s1, s2, s3, s4⟩, _⟩ := fr_cells (fr_set hB3.out (.int .i64 0) (.int .u8 0) (.int .u8 0) (.int .u32 0) (.int .u32 0))
          refine bodyPost_ret (v := .tuple #[.agg #[.int .i64 0, .int .u8 0, .int .u8 0, .int .u32 0, .int .u32 0], .int .i64 4]) (by simp [results, Try.results31, go_sem, s0, s1, s2, s3, s4]) rfl ⟨rfl, fr_below hb03 (Nat.le_refl _) _ _ _ _ _⟩
        | true =>
          obtain ⟨⟨d0, d1, d2, d3, d4⟩, _⟩ := fr_cells hF3
          clear hF3
          go_wp2
          obtain ⟨⟨s0, s1, s2, s3, s4⟩, _⟩ := fr_cells (fr_set hB3.out (.int .i64 (L 0 % 16)) (.int .u8 (L 0 / 16)) (.int .u8 (L 1)) (.int .u32 SQ) (.int .u32 VL))
          refine bodyPost_ret (v := .tuple #[.agg #[.int .i64 (L 0 % 16), .int .u8 (L 0 / 16), .int .u8 (L 1), .int .u32 SQ, .int .u32 VL], .int .i64 0]) (by simp [results, Try.results31, go_sem, s0, s1, s2, s3, s4]) rfl ⟨by rw [← hSQ.out, ← hVL.out]; rfl, fr_below hb03 (Nat.le_refl _) _ _ _ _ _⟩
  · have hE : getE L n = 4 := by simp [getE, h14]
    have hV : getV L n = frV 0 0 0 0 0 := by simp [getV, hE]
    have g1 : decide ((n : Int) = 14) = false := by simp; omega
    have g2 : ¬ (n : Int) = 14 := by omega
    have g3 : ((n : Int) != 14) = true := by simp; omega
    rw [hE, hV]
    unfold frV
    clear hE hV h14
    go_enter Try.func31, Try.ntmps31
    go_wp2
    refine bodyPost_ret (v := .tuple #[.agg #[.int .i64 0, .int .u8 0, .int .u8 0, .int .u32 0, .int .u32 0], .int .i64 4]) (by simp [results, Try.results31, go_sem]) rfl ⟨rfl, below_alloc _ _⟩
end Go.Proofs.Ytbfbpagfmhdblaa
