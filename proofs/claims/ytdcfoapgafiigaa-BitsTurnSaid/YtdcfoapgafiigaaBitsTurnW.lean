/- BitsTurn: the walk. -/
import Derived.Test.YtdcfoapgafiigaaLives01
import Derived.Test.YtdcfoapgafiigaaTwinSyms
import Derived.Test.YtdcfoapgafiigaaTwinNums
namespace Go.Proofs.Ytdcfoapgafiigaa
open Go.RowKit
set_option linter.unusedSimpArgs false
set_option linter.unusedVariables false
set_option maxRecDepth 100000
set_option maxHeartbeats 2000000 in
theorem bitsTurn_any (w : World) (ao : Option Addr) (n c : Nat) (L : Nat → Int) (aa : Option Addr) (m ca : Nat) (A : Nat → Int) (ha : Rd .u8 w ao n L) (hnil : ao = none → c = 0) (hA : Rd .i64 w aa m A) (hnilA : aa = none → ca = 0) :
    Calls Try.prog 4 #[.slice ao n c, .slice aa m ca] w fun e w' => e = .returned (.bool true) ∧ Below w.heap.size w w' := by
  replace ha := Lib.hid ha
  replace hnil := Lib.hid hnil
  replace hA := Lib.hid hA
  replace hnilA := Lib.hid hnilA
  by_cases hn : n ≤ 2000
  · have hn1 : decide ((2000 : Int) < (n : Int)) = false := by simp; omega
    by_cases hm : m ≤ 100
    · have hm1 : decide ((100 : Int) < (m : Int)) = false := by simp; omega
      go_enter Try.func4, Try.ntmps4
      go_wp2_with fail
      refine (twinSyms w ao n c L ha.out hnil.out (by omega)).mono ?_
      rintro e w1 ⟨g, cg, rfl, hg, hb, ht⟩
      have ht1 := Lib.hid ht
      have hu := Lib.hid (twinSyms_held ht hg)
      have hsz := hb.size
      clear ht
      go_wp2_with fail
      refine (twinNums _ _ _ _ _ (hA.out.below hb (Nat.le_refl _)) hnilA.out (by omega)).mono ?_
      rintro e w2 ⟨g2, cg2, rfl, hg2, hb2, ht⟩
      have ht2 := Lib.hid ht
      have hs2 := hb2.size
      clear ht
      go_wp2_with fail
      refine (bitsTurn _ _ _ _ _ _ _ _ _ (twinSyms_rd (twinSyms_below ht1.out hb2)) (twinNums_rd ht2.out) (by simp) (by omega) (by omega)).mono ?_
      rintro e w3 ⟨a3, rfl, m3, hb3⟩
      have x3 := Lib.hid m3
      have hs3 := hb3.size
      clear m3
      go_wp2_with fail
      refine (refTurn _ _ _ _ _ _ _ _ _ (ha.out.below (bthen (bthen hb hb2) hb3) (Nat.le_refl _)) (hA.out.below (bthen (bthen hb hb2) hb3) (Nat.le_refl _)) (by omega) (by omega)).mono ?_
      rintro e w5 ⟨a5, c5, rfl, m5, hb5⟩
      have x5 := Lib.hid m5
      clear m5
      go_wp2_with fail
      refine (sameSyms _ _ _ _ _ _ _ (x3.out.rd.below hb5 (Nat.le_refl _)) x5.out.rd (by omega)).mono ?_
      rintro e w6 ⟨rfl, q6, rfl⟩
      have hb6 := bthen hb5 (below_drewN w5 q6)
      clear hb5 x5
      generalize w5.drewN q6 = w6 at *
      go_wp2_with fail
      refine (leftSyms _ _ _ _ _ _ _ (twinSyms_below ht1.out (bthen (bthen hb2 hb3) hb6)) (ha.out.below (bthen (bthen (bthen hb hb2) hb3) hb6) (Nat.le_refl _))).mono ?_
      rintro e w7 ⟨rfl, q7, rfl⟩
      replace hb6 := bthen hb6 (below_drewN w6 q7)
      generalize w6.drewN q7 = w7 at *
      go_wp2_with fail
      refine (leftNums _ _ _ _ _ _ _ (twinNums_below ht2.out (bthen hb3 hb6)) (hA.out.below (bthen (bthen (bthen hb hb2) hb3) hb6) (Nat.le_refl _))).mono ?_
      rintro e w8 ⟨rfl, q8, rfl⟩
      replace hb6 := bthen hb6 (below_drewN w7 q8)
      have hs6 := hb6.size
      generalize w7.drewN q8 = w8 at *
      have hcap := twinSyms_caps ht1.out
      have hs0 : w.heap.size ≤ w8.heap.size := by omega
      have hb08 := bthen (bthen (bthen hb hb2) hb3) hb6
      go_wp2_with fail
      refine calls_abs (fun W => Below w8.heap.size w8 W ∧ Shelf w.heap.size W w8.heap.size [] [] [] w.heap.size w.heap.size w.heap.size) ⟨below_alloc _ _, shelfNew hs0⟩ ?_
      rintro w9 ⟨hb9, k9⟩
      have u9 := hu.out.below (bthen (bthen (bthen hb2 hb3) hb6) hb9) (Nat.le_refl _)
      have y9 := x3.out.held.below (bthen hb6 hb9) (Nat.le_refl _)
      have t9 := twinSyms_below ht1.out (bthen (bthen (bthen hb2 hb3) hb6) hb9)
      have hs9 := hb9.size
      refine (shelfSyms k9 u9 (Nat.le_refl _) (by omega) (by omega) (by simp)).mono ?_
      rintro e w10 ⟨rfl, k10, hb10, bk10⟩
      have y10 := y9.to (w' := w10) fun g cur hc => bk10 g cur _ hc (by decide) (by decide) (by decide) (by decide)
      have t10 := twinSyms_to t9 (w' := w10) fun cur hc => bk10 g cur _ hc (by decide) (by decide) (by decide) (by decide)
      have hb010 := (bthen hb08 hb9).trans hb10
      have hs10 := hb10.size
      clear u9 y9 t9 k9 hb10 bk10
      go_wp2_with fail
      refine (shelfSyms k10 y10 (by omega) (by omega) (by omega) (by simp)).mono ?_
      rintro e w11 ⟨rfl, k11, hb11, bk11⟩
      have t11 := Lib.hid (twinSyms_to t10 (w' := w11) fun cur hc => bk11 g cur _ hc (by decide) (by decide) (by decide) (by decide))
      replace hb010 := hb010.trans hb11
      have hs11 := hb11.size
      clear y10 k10 t10 hb11 bk11
      go_wp2_with fail
      refine (bitsTurn _ _ _ _ _ none 0 0 (fun _ => 0) (twinSyms_rd t11.out) (fun i hi => absurd hi (by omega)) (by simp) (by omega) (by omega)).mono ?_
      rintro e w12 ⟨a12, rfl, m12, hb12⟩
      have k12 := k11.below hb12
      have z12 := m12.held
      replace hb010 := bthen hb010 hb12
      have hs12 := hb12.size
      clear m12 k11 t11
      go_wp2_with fail
      refine (shelfSyms k12 z12 (by omega) (by omega) (by omega) (by simp)).mono ?_
      rintro e w13 ⟨rfl, k13, hb13, bk13⟩
      replace hb010 := hb010.trans hb13
      have hs13 := hb010.size
      clear z12 k12 hb13 bk13
      go_wp2_with fail
      refine (shelfApart k13 hs13).mono ?_
      rintro e w14 ⟨rfl, hb14⟩
      replace hb010 := hb010.trans hb14
      clear k13 hb14
      go_wp2_with fail
      refine (lives01 _).mono ?_
      rintro e wx ⟨rfl, hbL⟩
      go_wp2_with fail
      go_ret
      exact ⟨rfl, bthen hb010 hbL⟩
    · have hm1 : decide ((100 : Int) < (m : Int)) = true := by simp; omega
      go_enter Try.func4, Try.ntmps4
      go_wp2_with fail
      refine (lives01 _).mono ?_
      rintro e wx ⟨rfl, hbL⟩
      go_wp2_with fail
      go_ret
      exact ⟨rfl, hbL⟩
  · have hn1 : decide ((2000 : Int) < (n : Int)) = true := by simp; omega
    go_enter Try.func4, Try.ntmps4
    go_wp2_with fail
    refine (lives01 _).mono ?_
    rintro e wx ⟨rfl, hbL⟩
    go_wp2_with fail
    go_ret
    exact ⟨rfl, hbL⟩
end Go.Proofs.Ytdcfoapgafiigaa
