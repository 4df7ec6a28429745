/- BitsOf: the walk. -/
import Derived.Test.YtdcfoapgafiigaaLives01
import Derived.Test.YtdcfoapgafiigaaBytesR
import Derived.Test.YtdcfoapgafiigaaTwinSyms
import Derived.Test.YtdcfoapgafiigaaTwinBytes
namespace Go.Proofs.Ytdcfoapgafiigaa
open Go.RowKit
set_option linter.unusedSimpArgs false
set_option linter.unusedVariables false
set_option maxRecDepth 100000
set_option maxHeartbeats 2000000 in
theorem bitsOf_any (w : World) (ao : Option Addr) (n c : Nat) (L : Nat → Int) (aa : Option Addr) (m ca : Nat) (A : Nat → Int) (ha : Rd .u8 w ao n L) (hnil : NilOk ao n c) (hL : ∀ i, i < n → 0 ≤ L i ∧ L i < 256) (hA : Rd .u8 w aa m A) (hnilA : NilOk aa m ca) :
    Calls Try.prog 7 #[.slice ao n c, .slice aa m ca] w fun e w' => e = .returned (.bool true) ∧ Below w.heap.size w w' := by
  replace ha := Lib.hid ha
  replace hnil := Lib.hid hnil
  replace hA := Lib.hid hA
  replace hnilA := Lib.hid hnilA
  replace hL := Lib.hid hL
  by_cases hn : n ≤ 2000
  · have hn1 : decide ((2000 : Int) < (n : Int)) = false := by simp; omega
    by_cases hm : m ≤ 2000
    · have hm1 : decide ((2000 : Int) < (m : Int)) = false := by simp; omega
      have eo : (okB A m != okB A m) = false := by simp
      have ew : (wholeL A m != wholeL A m) = false := by simp
      have hcm : cntB A m ≤ m := by unfold cntB; split <;> omega
      go_enter Try.func7, Try.ntmps7
      go_wp2_with fail
      refine (twinBytes w ao n c L ha.out (fun h => (hnil.out.2.2 h).2) (by omega)).mono ?_
      rintro e w1 ⟨g, cg, rfl, hg, hb, ht⟩
      have ht1 := Lib.hid ht
      have hu := Lib.hid (twinBytes_held ht hg)
      have hsz := hb.size
      clear ht
      go_wp2_with fail
      refine (twinSyms _ _ _ _ _ (hA.out.below hb (Nat.le_refl _)) (fun h => (hnilA.out.2.2 h).2) (by omega)).mono ?_
      rintro e w2 ⟨g2, cg2, rfl, hg2, hb2, ht⟩
      have ht2 := Lib.hid ht
      have hv := Lib.hid (twinSyms_held ht hg2)
      have hs2 := hb2.size
      clear ht
      go_wp2_with fail
      refine (ofSyms _ _ _ _ _ (twinBytes_rd (twinBytes_below ht1.out hb2)) hL.out (by omega)).mono ?_
      rintro e w3 ⟨a3, rfl, m3, hb3⟩
      have x3 := Lib.hid m3
      have hs3 := hb3.size
      clear m3
      have hcg2 := twinSyms_caps ht2.out
      have hcg := twinBytes_caps ht1.out
      go_wp2_with fail
      refine (bitsBytes _ _ _ _ _ (twinSyms_rd (twinSyms_below ht2.out hb3)) ⟨by omega, hcg2.2, fun h => by simp at h⟩ (by omega)).mono ?_
      rintro e w4 ⟨a4, rfl, m4, hb4⟩
      have x4 := Lib.hid m4
      have hs4 := hb4.size
      clear m4
      go_wp2_with fail
      refine (refBytes _ _ _ _ _ (hA.out.below (bthen (bthen (bthen hb hb2) hb3) hb4) (Nat.le_refl _)) hnilA.out (by omega)).mono ?_
      rintro e w5 ⟨a5, c5, rfl, m5, hb5⟩
      have x5 := Lib.hid m5
      clear m5
      go_wp2_with fail
      refine (refOf _ _ _ _ _ (ha.out.below (bthen (bthen (bthen (bthen hb hb2) hb3) hb4) hb5) (Nat.le_refl _)) hL.out (by omega)).mono ?_
      rintro e w6 ⟨a6, c6, rfl, m6, hb6⟩
      have x6 := Lib.hid m6
      clear m6
      go_wp2_with fail
      refine (sameSyms _ _ _ _ _ _ _ (x3.out.rd.below (bthen (bthen hb4 hb5) hb6) (Nat.le_refl _)) x6.out.rd (by omega)).mono ?_
      rintro e w7 ⟨rfl, q7, rfl⟩
      have hb57 := bthen (bthen hb5 hb6) (below_drewN w6 q7)
      have hb67 := bthen hb6 (below_drewN w6 q7)
      clear hb5 hb6 x6
      generalize w6.drewN q7 = w7 at *
      go_wp2_with fail
      refine (sameBytes _ _ _ _ _ _ _ (x4.out.rd.below hb57 (Nat.le_refl _)) (x5.out.rd.below hb67 (Nat.le_refl _)) (by omega)).mono ?_
      rintro e w8 ⟨rfl, q8, rfl⟩
      replace hb57 := bthen hb57 (below_drewN w7 q8)
      clear hb67 x5
      generalize w7.drewN q8 = w8 at *
      go_wp2_with fail
      refine (leftBytes _ _ _ _ _ _ _ (twinBytes_below ht1.out (bthen (bthen (bthen hb2 hb3) hb4) hb57)) (ha.out.below (bthen (bthen (bthen (bthen hb hb2) hb3) hb4) hb57) (Nat.le_refl _))).mono ?_
      rintro e w9 ⟨rfl, q9, rfl⟩
      replace hb57 := bthen hb57 (below_drewN w8 q9)
      generalize w8.drewN q9 = w9 at *
      go_wp2_with fail
      refine (leftSyms _ _ _ _ _ _ _ (twinSyms_below ht2.out (bthen (bthen hb3 hb4) hb57)) (hA.out.below (bthen (bthen (bthen (bthen hb hb2) hb3) hb4) hb57) (Nat.le_refl _))).mono ?_
      rintro e w10 ⟨rfl, q10, rfl⟩
      replace hb57 := bthen hb57 (below_drewN w9 q10)
      generalize w9.drewN q10 = w10 at *
      go_wp2_with fail
      refine (bitsWhole _ _ _ _ _ (twinSyms_rd (twinSyms_below ht2.out (bthen (bthen hb3 hb4) hb57))) (by omega)).mono ?_
      rintro e _ ⟨rfl, rfl⟩
      go_wp2_with fail
      refine (refWhole _ _ _ _ _ (hA.out.below (bthen (bthen (bthen (bthen hb hb2) hb3) hb4) hb57) (Nat.le_refl _)) (by omega)).mono ?_
      rintro e w11 ⟨rfl, q11, rfl⟩
      replace hb57 := bthen hb57 (below_drewN w10 q11)
      have hs57 := hb57.size
      generalize w10.drewN q11 = w11 at *
      have hs0 : w.heap.size ≤ w11.heap.size := by omega
      have hb011 := bthen (bthen (bthen (bthen hb hb2) hb3) hb4) hb57
      go_wp2_with fail
      refine calls_abs (fun W => Below w11.heap.size w11 W ∧ Shelf w.heap.size W w11.heap.size [] [] [] w.heap.size w.heap.size w.heap.size) ⟨below_alloc _ _, shelfNew hs0⟩ ?_
      rintro w12 ⟨hb12, k12⟩
      have u12 := hu.out.below (bthen (bthen (bthen (bthen hb2 hb3) hb4) hb57) hb12) (Nat.le_refl _)
      have v12 := hv.out.below (bthen (bthen (bthen hb3 hb4) hb57) hb12) (Nat.le_refl _)
      have y12 := x3.out.held.below (bthen (bthen hb4 hb57) hb12) (Nat.le_refl _)
      have z12 := x4.out.held.below (bthen hb57 hb12) (Nat.le_refl _)
      refine (shelfSyms k12 v12 (by omega) (by omega) (by omega) (by simp)).mono ?_
      rintro e w13 ⟨rfl, k13, hb13, bk13⟩
      have u13 := u12.to (w' := w13) fun g cur hc => bk13 g cur _ hc (by decide) (by decide) (by decide) (by decide)
      have y13 := y12.to (w' := w13) fun g cur hc => bk13 g cur _ hc (by decide) (by decide) (by decide) (by decide)
      have z13 := z12.to (w' := w13) fun g cur hc => bk13 g cur _ hc (by decide) (by decide) (by decide) (by decide)
      have hb0 := (bthen hb011 hb12).trans hb13
      clear u12 v12 y12 z12 k12 hb13 bk13
      go_wp2_with fail
      refine (shelfSyms k13 y13 (by omega) (by omega) (by omega) (by simp)).mono ?_
      rintro e w14 ⟨rfl, k14, hb14, bk14⟩
      have u14 := u13.to (w' := w14) fun g cur hc => bk14 g cur _ hc (by decide) (by decide) (by decide) (by decide)
      have z14 := z13.to (w' := w14) fun g cur hc => bk14 g cur _ hc (by decide) (by decide) (by decide) (by decide)
      replace hb0 := hb0.trans hb14
      clear u13 y13 z13 k13 hb14 bk14
      go_wp2_with fail
      refine (shelfBytes k14 u14 (by omega) (by omega) (by omega) (by simp)).mono ?_
      rintro e w15 ⟨rfl, k15, hb15, bk15⟩
      have z15 := z14.to (w' := w15) fun g cur hc => bk15 g cur _ hc (by decide) (by decide) (by decide) (by decide)
      replace hb0 := hb0.trans hb15
      clear u14 z14 k14 hb15 bk15
      go_wp2_with fail
      refine (shelfBytes k15 z15 (by omega) (by omega) (by omega) (by simp)).mono ?_
      rintro e w16 ⟨rfl, k16, hb16, bk16⟩
      replace hb0 := hb0.trans hb16
      have hs16 := hb0.size
      clear z15 k15 hb16 bk16
      go_wp2_with fail
      refine (shelfApart k16 hs16).mono ?_
      rintro e w17 ⟨rfl, hb17⟩
      replace hb0 := hb0.trans hb17
      clear k16 hb17
      go_wp2_with fail
      refine (lives01 _).mono ?_
      rintro e wx ⟨rfl, hbL⟩
      go_wp2_with fail
      go_ret
      exact ⟨rfl, bthen hb0 hbL⟩
    · have hm1 : decide ((2000 : Int) < (m : Int)) = true := by simp; omega
      go_enter Try.func7, Try.ntmps7
      go_wp2_with fail
      refine (lives01 _).mono ?_
      rintro e wx ⟨rfl, hbL⟩
      go_wp2_with fail
      go_ret
      exact ⟨rfl, hbL⟩
  · have hn1 : decide ((2000 : Int) < (n : Int)) = true := by simp; omega
    go_enter Try.func7, Try.ntmps7
    go_wp2_with fail
    refine (lives01 _).mono ?_
    rintro e wx ⟨rfl, hbL⟩
    go_wp2_with fail
    go_ret
    exact ⟨rfl, hbL⟩
end Go.Proofs.Ytdcfoapgafiigaa
