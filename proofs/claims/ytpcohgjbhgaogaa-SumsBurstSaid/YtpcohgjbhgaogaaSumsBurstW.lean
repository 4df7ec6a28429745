/- SumsBurst: the walk. -/
import Derived.Test.YtpcohgjbhgaogaaBurst02
import Derived.Test.YtpcohgjbhgaogaaParts34
namespace Go.Proofs.Ytpcohgjbhgaogaa
open Go.RowKit
set_option linter.unusedSimpArgs false
set_option linter.unusedVariables false
set_option maxRecDepth 100000
def InvBu (w : World) (ao : Option Addr) (n c N : Nat) (S : Nat → Int) (Z F g k : Nat) (a : Act) (wr : World) : Prop :=
  ∃ (i : Nat) (L : Nat → Int), i + k = 32 ∧ Below w.heap.size w wr ∧ Mine .u8 5 w.heap.size wr (some ⟨g, 0, none⟩) N L ∧ (∀ j, j < N → 0 ≤ L j ∧ L j < 256) ∧ (∀ p, p < 8 * N → bitU L p = (bitU S p ^^ errB F Z i p)) ∧
    a.tmps.size = 94 ∧ a.defers = [] ∧ slot a 1 = .int .u32 Z ∧ slot a 7 = .slice (some ⟨g, 0, none⟩) N N ∧ slot a 10 = .int .i64 F ∧ slot a 11 = .int .i64 i
theorem err_zero {first b p : Nat} : errB first b 0 p = false := by
  unfold errB
  by_cases h : first ≤ p
  · have h1 : decide (p < first + 0) = false := by simp; exact h
    rw [h1, Bool.false_and, Bool.and_false]
  · simp [h]
theorem bit_test (Z k : Nat) (hZ : Z < 4294967296) : (bits .and .u32 ((Z : Int) / 2 ^ k) 1 == 1) = Z.testBit k := by
  have h := u32_and_nat (Z / 2 ^ k) 1 (Nat.lt_of_le_of_lt (Nat.div_le_self _ _) hZ) (by decide)
  rw [show ((Z / 2 ^ k : Nat) : Int) = (Z : Int) / 2 ^ k by simp, show ((1 : Nat) : Int) = 1 from rfl, Nat.and_one_is_mod] at h
  rw [h, Nat.testBit_eq_decide_div_mod_eq, Bool.eq_iff_iff]
  simp only [beq_iff_eq, decide_eq_true_eq]
  omega
set_option maxHeartbeats 4000000 in
theorem sumsBurst_any (w : World) (ao : Option Addr) (n c : Nat) (L : Nat → Int) (Z T : Nat) (ha : Prt w ao n c L) (hZ : Z < 4294967296) (hT : T < 65536) :
    Calls Try.prog 5 #[.slice ao n c, .int .u32 Z, .int .u16 T] w fun e w' => e = .returned (.bool true) ∧ Below w.heap.size w w' := by
  replace ha := Lib.hid ha
  by_cases hn : n ≤ 300
  · have hn1 : decide ((300 : Int) < (n : Int)) = false := by simp; omega
    go_enter Try.func5, Try.ntmps5
    go_wp2_with fail
    refine calls_abs (fun W => Below w.heap.size w W ∧ Blk W w.heap.size #[.slice ao n c] 22) ⟨below_alloc _ _, Blk.new _ _ _⟩ ?_
    rintro w1 ⟨hb1, hB1⟩
    have pt := ha.out.below hb1 (Nat.le_refl _)
    have P1 := parts_one (hB1.cell (i := 0) rfl) pt.1 pt.2.1 pt.2.2
    have S1 := sumsPut w1 _ 1 1 _ _ _ _ P1 (by omega) (by rw [catN_one]; omega)
    rw [catN_one] at S1
    refine S1.mono ?_
    clear S1 P1 hB1 pt
    rintro e w2 ⟨a2, rfl, m2, hb2⟩
    have x2 : Hid (Mine .u8 5 w.heap.size w2 a2 (n + 4) (putS L n)) := (m2.congr (L' := putS L n) fun i _ => putS_congr (fun i _ => catL_one n L i) i).mono hb1.size
    have hb02 := bthen hb1 hb2
    obtain ⟨g, rfl, hg1, hg2, _, _⟩ := x2.out.some (by omega)
    have hSb := Lib.hid (putS_byte (L := L) (n := n) ha.out.2.2)
    have C1 := sumsCheck w2 (some ⟨g, 0, none⟩) (n + 4) (n + 4) (putS L n) x2.out.rd ⟨Nat.le_refl _, by omega, fun h => by simp at h⟩ hSb.out (by omega)
    rw [okS_put, cntS_put] at C1
    replace C1 := Lib.hid C1
    have hN : Hid (n + 4 = n + 4) := rfl
    have e4 : IntKind.i64.wrap ((n : Int) + 4) = ((n + 4 : Nat) : Int) := by rw [wrap_i64_small _ (by omega) (by omega)]; omega
    generalize hN' : n + 4 = N at *
    replace hN' := Lib.hid hN'
    clear hN m2 hb1 hb2
    go_wp2_with fail
    refine C1.out.mono ?_
    rintro e w3 ⟨a3, rfl, m3, hb3⟩
    have x3 := Lib.hid (m3.congr (L' := L) fun i hi => by simp [putS, hi])
    clear m3 C1
    go_wp2_with fail
    refine (sameBytes _ _ _ _ _ _ _ x3.out.rd (ha.out.1.below (bthen hb02 hb3) (Nat.le_refl _)) (by omega)).mono ?_
    rintro e w4 ⟨rfl, q4, rfl⟩
    have hb24 := bthen hb3 (below_drewN w3 q4)
    clear hb3 x3
    generalize w3.drewN q4 = w4 at *
    by_cases hZ0 : Z = 0
    · subst hZ0
      go_wp2_with fail
      refine (lives02 _).mono ?_
      rintro e wx ⟨rfl, hbL⟩
      go_wp2_with fail
      go_ret
      exact ⟨rfl, bthen (bthen hb02 hb24) hbL⟩
    · have hz1 : decide ((Z : Int) = 0) = false := by simp; exact hZ0
      have hz2 : ((Z : Int) == 0) = false := by simp; exact hZ0
      obtain ⟨M, hM⟩ : ∃ M : Nat, 8 * N = M + 31 := ⟨8 * N - 31, by have := hN'.out; omega⟩
      have hNb : N ≤ 304 := by have := hN'.out; omega
      have hM0 : 0 < M := by have := hN'.out; omega
      have e5 : IntKind.i64.wrap (8 * (N : Int)) = 8 * (N : Int) := by rw [wrap_i64_small _ (by omega) (by omega)]
      have e6 : IntKind.i64.wrap (8 * (N : Int) - 31) = (M : Int) := by rw [wrap_i64_small _ (by omega) (by omega)]; omega
      have e8 : ¬ (M : Int) = 0 := by omega
      obtain ⟨F, hF, e7⟩ : ∃ F : Nat, F < M ∧ (T : Int) % (M : Int) = (F : Int) := ⟨T % M, Nat.mod_lt _ hM0, by omega⟩
      have hF9 : F + 32 ≤ 8 * N := by omega
      replace hF9 := Lib.hid hF9
      replace hM := Lib.hid hM
      have hZ1 : 0 < Z := by omega
      go_wp2
      simp only [e7]
      clear e5 e6 e7 e8 e4 hz1 hz2 hT hF hM0
      refine wp_loop_k (InvBu w ao n c N (putS L n) Z F g) 32 ?_ ?_
      · exact ⟨0, putS L n, by omega, bthen hb02 hb24, x2.out.below hb24 (Nat.le_refl _), hSb.out, fun p hp => by rw [err_zero, Bool.xor_false], by kernel_rfl, rfl, by kernel_rfl, by kernel_rfl, by kernel_rfl, by kernel_rfl⟩
      intro gk1 a wr hI K1 hK1
      obtain ⟨i, LL, hi, hbw, hm, hLL, hbits, hs', hd', k1', k7', k10', k11'⟩ := hI
      rw [fr94 a hs' hd']; simp only [k1', k7', k10', k11']; clear hs' hd' k1' k7' k10' k11'
      replace hm := Lib.hid hm
      replace hLL := Lib.hid hLL
      replace hbits := Lib.hid hbits
      by_cases hil : i < 32
      · have g1 : decide ((i : Int) < 32) = true := by simp; omega
        have gt : (bits .and .u32 ((Z : Int) / 2 ^ (31 - i)) 1 == 1) = Z.testBit (31 - i) := bit_test Z (31 - i) hZ
        cases hz : Z.testBit (31 - i) with
        | false =>
          rw [hz] at gt
          go_wp2
          exact hK1 (32 - (i + 1)) _ _ (by omega) ⟨i + 1, LL, by omega, hbw, hm.out, hLL.out, fun p hp => by rw [err_more hil, hz, Bool.and_false, Bool.xor_false]; exact hbits.out p hp, by kernel_rfl, rfl, by kernel_rfl, by kernel_rfl, by kernel_rfl, by kernel_rfl⟩
        | true =>
          rw [hz] at gt
          obtain ⟨q, hq⟩ : ∃ q, F + i = q := ⟨_, rfl⟩
          obtain ⟨y, hy⟩ : ∃ y, q / 8 = y := ⟨_, rfl⟩
          obtain ⟨x, hx⟩ : ∃ x, q % 8 = x := ⟨_, rfl⟩
          have hq9 : q < 8 * N := by have := hF9.out; omega
          have e1 : IntKind.i64.wrap ((F : Int) + (i : Int)) = (q : Int) := by rw [wrap_i64_small _ (by omega) (by omega)]; omega
          have e2 : (q : Int) / 8 = (y : Int) := by omega
          have e3 : (q : Int) % 8 = (x : Int) := by omega
          have d2 : Int.tdiv (q : Int) 8 = (y : Int) := by rw [Int.tdiv_eq_ediv_of_nonneg (by omega)]; exact e2
          have d3 : Int.tmod (q : Int) 8 = (x : Int) := by rw [Int.tmod_eq_emod_of_nonneg (by omega)]; exact e3
          have hyN : y < N := by omega
          have d4 : IntKind.i64.wrap (y : Int) = (y : Int) := wrap_i64_small _ (by omega) (by omega)
          have d5 : IntKind.i64.wrap (x : Int) = (x : Int) := wrap_i64_small _ (by omega) (by omega)
          have hyN2 : (y : Int) < (N : Int) := by omega
          obtain ⟨g', hg', hgg, hgl, hcell, hfree⟩ := hm.out.some (by omega)
          simp only [Option.some.injEq, Addr.mk.injEq, and_true] at hg'
          subst hg'
          have c1 := hcell y hyN
          have f1 := hfree y
          have hby := hLL.out y hyN
          have e4 : bits .xor .u8 (LL y) (128 / 2 ^ x) = flipL LL q y := by
            have h1 := u8_xor_nat (LL y).toNat (128 >>> x) (by omega) (by have := Nat.shiftRight_le 128 x; omega)
            rw [show (((LL y).toNat : Nat) : Int) = LL y by omega] at h1
            rw [flipL, if_pos hy.symm, hx, ← h1]
            congr 1
            rw [Nat.shiftRight_eq_div_pow]
            simp
          have hq8 : q < 2500 := by omega
          replace hq := Lib.hid hq
          replace hy := Lib.hid hy
          replace hx := Lib.hid hx
          clear hcell hfree
          go_wp2
          refine wp_region_tail 19 (by kernel_rfl) (by kernel_rfl) ?_; simp only [List.take_succ_cons, List.take_zero, List.drop_succ_cons, List.drop_zero]; (repeat still_step); refine wpStill_nil ?_
          go_wp2
          have hm2 := (hm.out.below (Below.refl wr.heap.size wr).drew (Nat.le_refl _)).set y hyN (flipL LL q y) (flipL LL q) (fun j hj => by
            by_cases h : j = y
            · rw [if_pos h, h]
            · rw [if_neg h, flipL, if_neg (by rw [hy.out]; exact h)])
          exact hK1 (32 - (i + 1)) _ _ (by omega) ⟨i + 1, flipL LL q, by omega, hbw.drew.setCell (p := ⟨g, y, none⟩) hg1 _, hm2, flip_byte hLL.out, fun p hp => by
            rw [flip_bit, hbits.out p hp, err_more hil, hz, Bool.and_true, hq.out, Bool.xor_assoc], by kernel_rfl, rfl, by kernel_rfl, by kernel_rfl, by kernel_rfl, by kernel_rfl⟩
      · have g1 : decide ((i : Int) < 32) = false := by simp; omega
        obtain rfl : i = 32 := by omega
        have ho : okS LL N = false := by
          have hN2 := hN'.out
          subst hN2
          exact burst (S := putS L n) (fun i _ => putS_put L n i) hF9.out hZ1 hZ hbits.out
        have hcn : cntS LL N = 0 := by simp [cntS, ho]
        have C2 := sumsCheck wr (some ⟨g, 0, none⟩) N N LL hm.out.rd ⟨Nat.le_refl _, by omega, fun h => by simp at h⟩ hLL.out (by omega)
        rw [ho, hcn] at C2
        replace C2 := Lib.hid C2
        clear ho hcn
        go_wp2_with fail
        refine C2.out.mono ?_
        rintro e w6 ⟨a6, rfl, m6, hb6⟩
        go_wp2_with fail
        refine (lives02 _).mono ?_
        rintro e wx ⟨rfl, hbL⟩
        go_wp2_with fail
        go_ret
        exact ⟨rfl, bthen (bthen hbw hb6) hbL⟩
  · have hn1 : decide ((300 : Int) < (n : Int)) = true := by simp; omega
    go_enter Try.func5, Try.ntmps5
    go_wp2_with fail
    refine (lives02 _).mono ?_
    rintro e wx ⟨rfl, hbL⟩
    go_wp2_with fail
    go_ret
    exact ⟨rfl, hbL⟩
end Go.Proofs.Ytpcohgjbhgaogaa
