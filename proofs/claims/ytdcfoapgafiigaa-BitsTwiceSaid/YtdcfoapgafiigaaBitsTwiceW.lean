/- BitsTwice: the walk. -/
import Derived.Test.YtdcfoapgafiigaaLives01
namespace Go.Proofs.Ytdcfoapgafiigaa
open Go.RowKit
set_option linter.unusedSimpArgs false
set_option linter.unusedVariables false
set_option maxRecDepth 100000
theorem turn1 (L : Nat → Int) (i j : Nat) : turnL L (litL [(i : Int)]) 1 j = if i = j ∧ (L j = 1 ∨ L j = 2) then 3 - L j else L j := by
  have e : ((i : Int) = (j : Int)) ↔ i = j := by omega
  rw [turnL_step, turnL_zero]
  simp only [litL, List.getD_cons_zero, e]
theorem turn2 (L : Nat → Int) (i k j : Nat) : turnL L (litL [(i : Int), (k : Int)]) 2 j = if k = j ∧ (L j = 1 ∨ L j = 2) then 3 - (if i = j ∧ (L j = 1 ∨ L j = 2) then 3 - L j else L j) else (if i = j ∧ (L j = 1 ∨ L j = 2) then 3 - L j else L j) := by
  have e : ((i : Int) = (j : Int)) ↔ i = j := by omega
  have e' : ((k : Int) = (j : Int)) ↔ k = j := by omega
  rw [turnL_step, turnL_step, turnL_zero]
  simp only [litL, List.getD_cons_zero, List.getD_cons_succ, e, e']
theorem twice_a (L : Nat → Int) (i j : Nat) : turnL (turnL L (litL [(i : Int)]) 1) (litL [(i : Int)]) 1 j = L j := by
  rw [turn1, turn1]
  by_cases h : i = j <;> simp [h] <;> split <;> omega
theorem twice_b (L : Nat → Int) (i k j : Nat) : turnL (turnL L (litL [(i : Int), (k : Int)]) 2) (litL [(k : Int), (i : Int)]) 2 j = L j := by
  rw [turn2, turn2]
  by_cases h : i = j <;> by_cases h2 : k = j <;> simp [h, h2] <;> repeat' split
  all_goals omega
theorem twice_c (L : Nat → Int) (i k j : Nat) : turnL (turnL L (litL [(i : Int)]) 1) (litL [(k : Int)]) 1 j = turnL L (litL [(i : Int), (k : Int)]) 2 j := by
  rw [turn1, turn2, turn1]
  by_cases h : i = j <;> by_cases h2 : k = j <;> simp [h, h2] <;> repeat' split
  all_goals omega
theorem twice_d (L A : Nat → Int) (k n : Nat) : wholeL (turnL L A k) n = wholeL L n := by
  rw [Bool.eq_iff_iff, wholeL_iff, wholeL_iff]
  constructor
  · intro h i hi; exact (turnL_whole L A k i).1 (h i hi)
  · intro h i hi; exact (turnL_whole L A k i).2 (h i hi)
theorem twice_e (L : Nat → Int) (i j : Nat) : ∃ b1 b2 b3 : Bool, (L j == 1) = b1 ∧ (L j == 2) = b2 ∧ ((j : Int) == (i : Int)) = b3 ∧ (turnL L (litL [(i : Int)]) 1 j != L j) = ((b1 || b2) && b3) := by
  refine ⟨_, _, _, rfl, rfl, rfl, ?_⟩
  rw [turn1, Bool.eq_iff_iff]
  simp
  omega
def InvTwice (w0 : World) (ao : Option Addr) (n c : Nat) (i : Int) (ax : Option Addr) (k : Nat) (a : Act) (wr : World) : Prop :=
  ∃ j q : Nat, j + k = n ∧ wr = w0.drewN q ∧ a.tmps.size = 109 ∧ a.defers = [] ∧ slot a 0 = .slice ao n c ∧ slot a 5 = .int .i64 i ∧ slot a 7 = .slice ax n n ∧ slot a 9 = .int .i64 j
set_option maxHeartbeats 4000000 in
theorem bitsTwice_any (w : World) (ao : Option Addr) (n c : Nat) (L : Nat → Int) (p q : Nat) (ha : Rd .u8 w ao n L) (hnil : ao = none → n = 0 ∧ c = 0) (hp : p < 65536) (hq : q < 65536) :
    Calls Try.prog 6 #[.slice ao n c, .agg #[.int .u16 p, .int .u16 q]] w fun e w' => e = .returned (.bool true) ∧ Below w.heap.size w w' := by
  replace ha := Lib.hid ha
  replace hnil := Lib.hid hnil
  by_cases hn : n ≤ 500
  · have hn1 : decide ((500 : Int) < (n : Int)) = false := by simp; omega
    by_cases h0 : n = 0
    · have hz : ((n : Int) == 0) = true := by simp [h0]
      clear h0
      go_enter Try.func6, Try.ntmps6
      go_wp2_with fail
      refine (lives01 _).mono ?_
      rintro e wx ⟨rfl, hbL⟩
      go_wp2_with fail
      go_ret
      exact ⟨rfl, bthen (below_alloc _ _) hbL⟩
    · have hz : ((n : Int) == 0) = false := by simp [h0]
      have hnpos : 0 < n := by omega
      clear h0
      obtain ⟨i, hi⟩ : ∃ i : Nat, (p : Int) % (n : Int) = i := ⟨p % n, by simp⟩
      obtain ⟨k, hk⟩ : ∃ k : Nat, (q : Int) % (n : Int) = k := ⟨q % n, by simp⟩
      have hin : i < n := by have := Int.emod_lt_of_pos (p : Int) (b := (n : Int)) (by omega); omega
      have hkn : k < n := by have := Int.emod_lt_of_pos (q : Int) (b := (n : Int)) (by omega); omega
      go_enter Try.func6, Try.ntmps6
      go_wp2_with fail
      refine calls_abs (fun W => Below w.heap.size w W ∧ Rd .i64 W (some ⟨w.heap.size + 1, 0, none⟩) 1 (litL [(i : Int)])) ⟨(below_alloc _ _).alloc (by simp) _, rdLit2 _ _ _ _ [(i : Int)]⟩ ?_
      rintro w1 ⟨hb, r⟩
      refine (bitsTurn _ _ _ _ _ _ _ _ _ (ha.out.below hb (Nat.le_refl _)) r hnil.out (by omega) (by omega)).mono ?_
      rintro e w2 ⟨ax, rfl, m2, hb2⟩
      have x2 := Lib.hid m2
      replace hb := bthen hb hb2
      clear m2 r hb2
      go_wp2_with fail
      refine calls_abs (fun W => Below w2.heap.size w2 W ∧ Rd .i64 W (some ⟨w2.heap.size, 0, none⟩) 2 (litL [(i : Int), (k : Int)])) ⟨below_alloc _ _, rdLit _ _ _ [(i : Int), (k : Int)]⟩ ?_
      rintro w3 ⟨hb3, r⟩
      refine (bitsTurn _ _ _ _ _ _ _ _ _ (ha.out.below (bthen hb hb3) (Nat.le_refl _)) r hnil.out (by omega) (by omega)).mono ?_
      rintro e w4 ⟨ay, rfl, m4, hb4⟩
      have y4 := Lib.hid m4
      have hb24 := bthen hb3 hb4
      clear m4 r hb3 hb4
      go_wp2_with fail
      refine calls_abs (fun W => Below w4.heap.size w4 W ∧ Rd .i64 W (some ⟨w4.heap.size, 0, none⟩) 1 (litL [(i : Int)])) ⟨below_alloc _ _, rdLit _ _ _ [(i : Int)]⟩ ?_
      rintro w5 ⟨hb5, r⟩
      refine (bitsTurn _ _ _ _ _ _ _ _ _ (x2.out.rd.below (bthen hb24 hb5) (Nat.le_refl _)) r x2.out.none (by omega) (by omega)).mono ?_
      rintro e w6 ⟨a6, rfl, m6, hb6⟩
      have z6 := Lib.hid (m6.congr fun j _ => twice_a L i j)
      have hb46 := bthen hb5 hb6
      clear m6 r hb5 hb6
      go_wp2_with fail
      refine (sameSyms _ _ _ _ _ _ _ z6.out.rd (ha.out.below (bthen (bthen hb hb24) hb46) (Nat.le_refl _)) (by omega)).mono ?_
      rintro e w7 ⟨rfl, q7, rfl⟩
      replace hb46 := bthen hb46 (below_drewN w6 q7)
      clear z6
      generalize w6.drewN q7 = w7 at *
      go_wp2_with fail
      refine calls_abs (fun W => Below w7.heap.size w7 W ∧ Rd .i64 W (some ⟨w7.heap.size, 0, none⟩) 2 (litL [(k : Int), (i : Int)])) ⟨below_alloc _ _, rdLit _ _ _ [(k : Int), (i : Int)]⟩ ?_
      rintro w8 ⟨hb8, r⟩
      replace hb46 := bthen hb46 hb8
      refine (bitsTurn _ _ _ _ _ _ _ _ _ (y4.out.rd.below hb46 (Nat.le_refl _)) r y4.out.none (by omega) (by omega)).mono ?_
      rintro e w9 ⟨a9, rfl, m9, hb9⟩
      have z9 := Lib.hid (m9.congr fun j _ => twice_b L i k j)
      replace hb46 := bthen hb46 hb9
      clear m9 r hb8 hb9
      go_wp2_with fail
      refine (sameSyms _ _ _ _ _ _ _ z9.out.rd (ha.out.below (bthen (bthen hb hb24) hb46) (Nat.le_refl _)) (by omega)).mono ?_
      rintro e w10 ⟨rfl, q10, rfl⟩
      replace hb46 := bthen hb46 (below_drewN w9 q10)
      clear z9
      generalize w9.drewN q10 = w10 at *
      go_wp2_with fail
      refine calls_abs (fun W => Below w10.heap.size w10 W ∧ Rd .i64 W (some ⟨w10.heap.size, 0, none⟩) 1 (litL [(k : Int)])) ⟨below_alloc _ _, rdLit _ _ _ [(k : Int)]⟩ ?_
      rintro w11 ⟨hb11, r⟩
      replace hb46 := bthen hb46 hb11
      refine (bitsTurn _ _ _ _ _ _ _ _ _ (x2.out.rd.below (bthen hb24 hb46) (Nat.le_refl _)) r x2.out.none (by omega) (by omega)).mono ?_
      rintro e w12 ⟨a12, rfl, m12, hb12⟩
      have z12 := Lib.hid (m12.congr fun j _ => twice_c L i k j)
      replace hb46 := bthen hb46 hb12
      clear m12 r hb11 hb12
      go_wp2_with fail
      refine (sameSyms _ _ _ _ _ _ _ z12.out.rd (y4.out.rd.below hb46 (Nat.le_refl _)) (by omega)).mono ?_
      rintro e w13 ⟨rfl, q13, rfl⟩
      replace hb46 := bthen hb46 (below_drewN w12 q13)
      clear z12
      generalize w12.drewN q13 = w13 at *
      go_wp2_with fail
      refine (bitsWhole _ _ _ _ _ (ha.out.below (bthen (bthen hb hb24) hb46) (Nat.le_refl _)) (by omega)).mono ?_
      rintro e _ ⟨rfl, rfl⟩
      go_wp2_with fail
      refine (bitsWhole _ _ _ _ _ (y4.out.rd.below hb46 (Nat.le_refl _)) (by omega)).mono ?_
      rintro e _ ⟨rfl, rfl⟩
      rw [twice_d]
      have ew : (wholeL L n != wholeL L n) = false := by simp
      have hb0 := bthen (bthen hb hb24) hb46
      have hx13 := Lib.hid (x2.out.rd.below (bthen hb24 hb46) (Nat.le_refl _))
      clear hb hb24 hb46 x2 y4
      go_wp2_with fail
      refine wp_loop_k (InvTwice w13 ao n c i ax) n ?_ ?_
      · refine ⟨0, 0, by omega, rfl, by kernel_rfl, rfl, by kernel_rfl, ?_, by kernel_rfl, by kernel_rfl⟩
        show Value.int _ _ = Value.int _ _
        simp only [hi]
      · intro gk a wr hI K hK
        obtain ⟨j, q2, hj, rfl, hs', hd', k0', k5', k7', k9'⟩ := hI
        rw [fr109 a hs' hd']; simp only [k0', k5', k7', k9']; clear hs' hd' k0' k5' k7' k9'
        by_cases hlt : j < n
        · obtain ⟨b, o, rfl, hc0⟩ := ha.out j hlt
          obtain ⟨b', o', rfl, hx⟩ := hx13.out j hlt
          have hc := below_cell hc0 hb0 (World.block_lt_of_cell? w _ hc0)
          have hjn : (j : Int) < n := by omega
          obtain ⟨b1, b2, b3, e1, e2, e3, e4⟩ := twice_e L i j
          generalize turnL L (litL [(i : Int)]) 1 j = t at *
          clear hc0
          have hwi : IntKind.i64.wrap (j : Int) = j := wrap_i64_small _ (by omega) (by omega)
          cases b1 <;> cases b2 <;> cases b3 <;> simp only [Bool.or_false, Bool.or_true, Bool.false_or, Bool.true_or, Bool.false_and, Bool.true_and, Bool.and_false, Bool.and_true] at e4
          all_goals
            go_wp2_with fail
            go_quiet (fail)
            go_wp2_with fail
            refine hK (n - (j + 1)) _ _ (by omega) ⟨j + 1, _, by omega, rfl, by kernel_rfl, rfl, by kernel_rfl, by kernel_rfl, by kernel_rfl, ?_⟩
            show Value.int _ _ = Value.int _ _
            simp
        · go_wp2_with fail
          refine (lives01 _).mono ?_
          rintro e wx ⟨rfl, hbL⟩
          go_wp2_with fail
          go_ret
          exact ⟨rfl, bthen (bthen hb0 (below_drewN _ q2)) hbL⟩
  · have hn1 : decide ((500 : Int) < (n : Int)) = true := by simp; omega
    go_enter Try.func6, Try.ntmps6
    go_wp2_with fail
    refine (lives01 _).mono ?_
    rintro e wx ⟨rfl, hbL⟩
    go_wp2_with fail
    go_ret
    exact ⟨rfl, bthen (below_alloc _ _) hbL⟩
end Go.Proofs.Ytdcfoapgafiigaa
