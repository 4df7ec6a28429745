/- SumsCheck: the walk. -/
import Derived.Test.YtpcohgjbhgaogaaLives02
import Derived.Test.YtpcohgjbhgaogaaTwinBytes
import Derived.Test.YtpcohgjbhgaogaaBookF
namespace Go.Proofs.Ytpcohgjbhgaogaa
open Go.RowKit
set_option linter.unusedSimpArgs false
set_option linter.unusedVariables false
set_option maxRecDepth 100000
set_option maxHeartbeats 2000000 in
theorem sumsCheck_any (w : World) (ao : Option Addr) (n c : Nat) (L : Nat → Int) (ha : Rd .u8 w ao n L) (hnil : NilOk ao n c) (hL : ∀ i, i < n → 0 ≤ L i ∧ L i < 256) :
    Calls Try.prog 4 #[.slice ao n c] w fun e w' => e = .returned (.bool true) ∧ Below w.heap.size w w' := by
  replace ha := Lib.hid ha
  replace hnil := Lib.hid hnil
  replace hL := Lib.hid hL
  by_cases hn : n ≤ 500
  · have hn1 : decide ((500 : Int) < (n : Int)) = false := by simp; omega
    have eo : (okS L n != okS L n) = false := by simp
    have hcs : cntS L n ≤ n := by unfold cntS; split <;> omega
    go_enter Try.func4, Try.ntmps4
    go_wp2_with fail
    refine (twinBytes w ao n c L ha.out (fun h => (hnil.out.2.2 h).2) (by omega)).mono ?_
    rintro e w1 ⟨g, cg, rfl, hg, hb, ht⟩
    have ht1 := Lib.hid ht
    have hu := Lib.hid (twinBytes_held ht hg)
    have hsz := hb.size
    clear ht
    have hcg := twinBytes_caps ht1.out
    go_wp2_with fail
    refine (sumsCheck _ _ _ _ _ (twinBytes_rd ht1.out) ⟨by omega, hcg.2, fun h => by simp at h⟩ hL.out (by omega)).mono ?_
    rintro e w3 ⟨a3, rfl, m3, hb3⟩
    have x3 := Lib.hid m3
    have hs3 := hb3.size
    clear m3
    go_wp2_with fail
    refine (refCheck _ _ _ _ _ (ha.out.below (bthen hb hb3) (Nat.le_refl _)) hnil.out hL.out (by omega)).mono ?_
    rintro e w5 ⟨a5, c5, rfl, m5, hb5⟩
    have x5 := Lib.hid m5
    clear m5
    go_wp2_with fail
    refine (sameBytes _ _ _ _ _ _ _ (x3.out.rd.below hb5 (Nat.le_refl _)) x5.out (by omega)).mono ?_
    rintro e w8 ⟨rfl, q8, rfl⟩
    have hb57 := bthen hb5 (below_drewN w5 q8)
    clear hb5 x5
    generalize w5.drewN q8 = w8 at *
    go_wp2_with fail
    refine (leftBytes _ _ _ _ _ _ _ (twinBytes_below ht1.out (bthen hb3 hb57)) (ha.out.below (bthen (bthen hb hb3) hb57) (Nat.le_refl _))).mono ?_
    rintro e w9 ⟨rfl, q9, rfl⟩
    replace hb57 := bthen hb57 (below_drewN w8 q9)
    have hs57 := hb57.size
    generalize w8.drewN q9 = w9 at *
    have hs0 : w.heap.size ≤ w9.heap.size := by omega
    have hb011 := bthen (bthen hb hb3) hb57
    go_wp2_with fail
    refine calls_abs (fun W => Below w9.heap.size w9 W ∧ Shelf w.heap.size W w9.heap.size [] [] [] w.heap.size w.heap.size w.heap.size) ⟨below_alloc _ _, shelfNew hs0⟩ ?_
    rintro w12 ⟨hb12, k12⟩
    have u12 := hu.out.below (bthen (bthen hb3 hb57) hb12) (Nat.le_refl _)
    have y12 := x3.out.held.below (bthen hb57 hb12) (Nat.le_refl _)
    refine (shelfBytes k12 u12 (by omega) (by omega) (by omega) (by simp)).mono ?_
    rintro e w13 ⟨rfl, k13, hb13, bk13⟩
    have y13 := y12.to (w' := w13) fun g cur hc => bk13 g cur _ hc (by decide) (by decide) (by decide) (by decide)
    have hb0 := (bthen hb011 hb12).trans hb13
    clear u12 y12 k12 hb13 bk13
    go_wp2_with fail
    refine (shelfBytes k13 y13 (by omega) (by omega) (by omega) (by simp)).mono ?_
    rintro e w16 ⟨rfl, k16, hb16, bk16⟩
    replace hb0 := hb0.trans hb16
    have hs16 := hb0.size
    clear y13 k13 hb16 bk16
    go_wp2_with fail
    refine (shelfApart k16 hs16).mono ?_
    rintro e w17 ⟨rfl, hb17⟩
    replace hb0 := hb0.trans hb17
    clear k16 hb17
    go_wp2_with fail
    refine (lives02 _).mono ?_
    rintro e wx ⟨rfl, hbL⟩
    go_wp2_with fail
    go_ret
    exact ⟨rfl, bthen hb0 hbL⟩
  · have hn1 : decide ((500 : Int) < (n : Int)) = true := by simp; omega
    go_enter Try.func4, Try.ntmps4
    go_wp2_with fail
    refine (lives02 _).mono ?_
    rintro e wx ⟨rfl, hbL⟩
    go_wp2_with fail
    go_ret
    exact ⟨rfl, hbL⟩
end Go.Proofs.Ytpcohgjbhgaogaa
