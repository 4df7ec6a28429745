/- BitsNum: the walk. -/
import Derived.Test.YtdcfoapgafiigaaLives01
import Derived.Test.YtdcfoapgafiigaaTwinSyms
namespace Go.Proofs.Ytdcfoapgafiigaa
open Go.RowKit
set_option linter.unusedSimpArgs false
set_option linter.unusedVariables false
set_option maxRecDepth 100000
set_option maxHeartbeats 2000000 in
theorem bitsNum_any (w : World) (ao : Option Addr) (n c : Nat) (L : Nat → Int) (z : Nat) (many : Int) (ha : Rd .u8 w ao n L) (hnil : ao = none → c = 0) (hz : z < 18446744073709551616) :
    Calls Try.prog 3 #[.slice ao n c, .int .u64 z, .int .i64 many] w fun e w' => e = .returned (.bool true) ∧ Below w.heap.size w w' := by
  replace ha := Lib.hid ha
  replace hnil := Lib.hid hnil
  by_cases hn : n ≤ 2000
  · have hn1 : decide ((2000 : Int) < (n : Int)) = false := by simp; omega
    have hb64 : bitsOf many ≤ 64 := by unfold bitsOf; omega
    have er : ((numR L n).1 != (numR L n).1) = false := by simp
    have er2 : ((numR L n).2 != (numR L n).2) = false := by simp
    go_enter Try.func3, Try.ntmps3
    go_wp2_with fail
    refine (twinSyms w ao n c L ha.out hnil.out (by omega)).mono ?_
    rintro e w1 ⟨g, cg, rfl, hg, hb, ht⟩
    have ht1 := Lib.hid ht
    have hu := Lib.hid (twinSyms_held ht hg)
    have hsz := hb.size
    clear ht
    go_wp2_with fail
    refine (bitsNum _ _ _ _ _ (twinSyms_rd ht1.out) (by omega)).mono ?_
    rintro e _ ⟨rfl, rfl⟩
    go_wp2_with fail
    refine (refNum _ _ _ _ _ (ha.out.below hb (Nat.le_refl _)) (by omega)).mono ?_
    rintro e w2 ⟨rfl, q2, rfl⟩
    have hb2 := below_drewN w1 q2
    have hs2 : w1.heap.size ≤ (w1.drewN q2).heap.size := hb2.size
    generalize w1.drewN q2 = w2 at *
    go_wp2_with fail
    refine (bitsPut _ _ _ _ _ z many (twinSyms_rd (twinSyms_below ht1.out hb2)) (by simp) (by omega) hz).mono ?_
    rintro e w3 ⟨a3, rfl, m3, hb3⟩
    have x3 := Lib.hid m3
    have hs3 := hb3.size
    clear m3
    go_wp2_with fail
    refine (bitsPut _ _ _ _ _ z many (twinSyms_rd (twinSyms_below ht1.out (bthen hb2 hb3))) (by simp) (by omega) hz).mono ?_
    rintro e w4 ⟨a4, rfl, m4, hb4⟩
    have x4 := Lib.hid m4
    have hs4 := hb4.size
    clear m4
    go_wp2_with fail
    refine (refPut _ _ _ _ _ z many (ha.out.below (bthen (bthen (bthen hb hb2) hb3) hb4) (Nat.le_refl _)) (by omega) hz).mono ?_
    rintro e w5 ⟨a5, c5, rfl, m5, hb5⟩
    have x5 := Lib.hid m5
    clear m5
    go_wp2_with fail
    refine (sameSyms _ _ _ _ _ _ _ (x3.out.rd.below (bthen hb4 hb5) (Nat.le_refl _)) x5.out.rd (by omega)).mono ?_
    rintro e w6 ⟨rfl, q6, rfl⟩
    have hb6 := bthen hb5 (below_drewN w5 q6)
    have hs6 := hb6.size
    clear hb5 x5
    generalize w5.drewN q6 = w6 at *
    go_wp2_with fail
    refine (leftSyms _ _ _ _ _ _ _ (twinSyms_below ht1.out (bthen (bthen (bthen hb2 hb3) hb4) hb6)) (ha.out.below (bthen (bthen (bthen (bthen hb hb2) hb3) hb4) hb6) (Nat.le_refl _))).mono ?_
    rintro e w7 ⟨rfl, q7, rfl⟩
    replace hb6 := bthen hb6 (below_drewN w6 q7)
    replace hs6 := hb6.size
    generalize w6.drewN q7 = w7 at *
    have hcap := twinSyms_caps ht1.out
    have hs0 : w.heap.size ≤ w7.heap.size := by omega
    have hb07 := bthen (bthen (bthen (bthen (bthen hb hb2) hb3) hb4) hb6) (Below.refl _ _)
    go_wp2_with fail
    refine calls_abs (fun W => Below w7.heap.size w7 W ∧ Shelf w.heap.size W w7.heap.size [] [] [] w.heap.size w.heap.size w.heap.size) ⟨below_alloc _ _, shelfNew hs0⟩ ?_
    rintro w8 ⟨hb8, k8⟩
    have u8 := hu.out.below (bthen (bthen (bthen (bthen hb2 hb3) hb4) hb6) hb8) (Nat.le_refl _)
    have y8 := x3.out.held.below (bthen (bthen hb4 hb6) hb8) (Nat.le_refl _)
    have z8 := x4.out.held.below (bthen hb6 hb8) (Nat.le_refl _)
    refine (shelfSyms k8 u8 (Nat.le_refl _) (by omega) (by omega) (by simp)).mono ?_
    rintro e w9 ⟨rfl, k9, hb9, bk9⟩
    have y9 := y8.to (w' := w9) fun g cur hc => bk9 g cur _ hc (by decide) (by decide) (by decide) (by decide)
    have z9 := z8.to (w' := w9) fun g cur hc => bk9 g cur _ hc (by decide) (by decide) (by decide) (by decide)
    have hb09 := (bthen hb07 hb8).trans hb9
    clear u8 y8 z8 k8 hb9 bk9
    go_wp2_with fail
    refine (shelfSyms k9 y9 (by omega) (by omega) (by omega) (by simp)).mono ?_
    rintro e w10 ⟨rfl, k10, hb10, bk10⟩
    have z10 := z9.to (w' := w10) fun g cur hc => bk10 g cur _ hc (by decide) (by decide) (by decide) (by decide)
    replace hb09 := hb09.trans hb10
    clear y9 z9 k9 hb10 bk10
    go_wp2_with fail
    refine (shelfSyms k10 z10 (by omega) (by omega) (by omega) (by simp)).mono ?_
    rintro e w11 ⟨rfl, k11, hb11, bk11⟩
    replace hb09 := hb09.trans hb11
    have hs11 := hb09.size
    clear z10 k10 hb11 bk11
    go_wp2_with fail
    refine (shelfApart k11 hs11).mono ?_
    rintro e w12 ⟨rfl, hb12⟩
    replace hb09 := hb09.trans hb12
    clear k11 hb12
    go_wp2_with fail
    refine (lives01 _).mono ?_
    rintro e wx ⟨rfl, hbL⟩
    go_wp2_with fail
    go_ret
    exact ⟨rfl, bthen hb09 hbL⟩
  · have hn1 : decide ((2000 : Int) < (n : Int)) = true := by simp; omega
    go_enter Try.func3, Try.ntmps3
    go_wp2_with fail
    refine (lives01 _).mono ?_
    rintro e wx ⟨rfl, hbL⟩
    go_wp2_with fail
    go_ret
    exact ⟨rfl, hbL⟩
end Go.Proofs.Ytdcfoapgafiigaa
