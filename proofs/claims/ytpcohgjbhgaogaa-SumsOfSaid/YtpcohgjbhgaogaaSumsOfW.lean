/- SumsOf: the walk. -/
import Derived.Test.YtpcohgjbhgaogaaParts34
import Derived.Test.YtpcohgjbhgaogaaTwinBytes
import Derived.Test.YtpcohgjbhgaogaaBookF
namespace Go.Proofs.Ytpcohgjbhgaogaa
open Go.RowKit
set_option linter.unusedSimpArgs false
set_option linter.unusedVariables false
set_option maxRecDepth 100000
theorem prt_twin {w : World} {g n c : Nat} {L : Nat → Int} (h : TwinBytesAt w g n c L) (hL : ∀ j, j < n → 0 ≤ L j ∧ L j < 256) : Prt w (some ⟨g, 0, none⟩) n c L :=
  ⟨twinBytes_rd h, ⟨by have := (twinBytes_caps h).1; omega, (twinBytes_caps h).2, fun h => by simp at h⟩, hL⟩
set_option maxHeartbeats 4000000 in
theorem sumsOf_any (w : World) (aa : Option Addr) (na ca : Nat) (A : Nat → Int) (ab : Option Addr) (nb cb : Nat) (B : Nat → Int) (ac : Option Addr) (nc cc : Nat) (C : Nat → Int)
    (ha : Prt w aa na ca A) (hb : Prt w ab nb cb B) (hc : Prt w ac nc cc C) :
    Calls Try.prog 3 #[.slice aa na ca, .slice ab nb cb, .slice ac nc cc] w fun e w' => e = .returned (.bool true) ∧ Below w.heap.size w w' := by
  replace ha := Lib.hid ha
  replace hb := Lib.hid hb
  replace hc := Lib.hid hc
  by_cases hn : na ≤ 300 ∧ nb ≤ 300 ∧ nc ≤ 300
  · obtain ⟨hna, hnb, hnc⟩ := hn
    have ga : decide ((300 : Int) < (na : Int)) = false := by simp; omega
    have gb : decide ((300 : Int) < (nb : Int)) = false := by simp; omega
    have gc : decide ((300 : Int) < (nc : Int)) = false := by simp; omega
    have hA9 := Lib.hid ha.out.2.2
    have hAB := Lib.hid (appL_byte ha.out.2.2 hb.out.2.2)
    have hABC := Lib.hid (appL_byte hAB.out hc.out.2.2)
    obtain ⟨i0, hf0, hz0, hz1, hz2⟩ := info_parts elemHBytes
    go_enter Try.func3, Try.ntmps3
    go_wp2_with (at_builtin; refine append_src rfl _ _ 22 rfl w.heap.size 5 i0 (.int .u8 0) 1 Try.underlying22 hf0 hz0 hz1 hz2 rfl _ _ _ rfl (World.ownsRow_nil _ _ _ _) aa na ca (nums .u8 A na) rfl ha.out.2.1.2.2 (nums_len _ _ _) (nums_news ha.out.1) (nums_one _ _ _) (by omega) (by omega) (by simp) ?_)
    intro v1 w1 hown1 hg1 _
    have hb1 : Below w.heap.size w w1 := Below.grown (Below.refl _ _) hg1 (by simp) (by simp [Value.ownBlock])
    have hs1 := hb1.size
    replace hown1 := Lib.hid hown1
    clear hg1
    go_wp2_with (at_builtin; refine append_src rfl _ _ 22 rfl w.heap.size 5 i0 (.int .u8 0) 1 Try.underlying22 hf0 hz0 hz1 hz2 rfl _ _ _ rfl hown1.out ab nb cb (nums .u8 B nb) rfl hb.out.2.1.2.2 (nums_len _ _ _) (nums_news (hb.out.1.below hb1 (Nat.le_refl _))) (nums_one _ _ _) (by omega) (by omega) hs1 ?_)
    intro v2 w2 hown2 hg2 _
    have hb2 : Below w.heap.size w1 w2 := Below.grown (Below.refl _ _) hg2 hs1 (fun k hk => (hown1.out.lt k hk).1)
    have hb02 := hb1.trans hb2
    have hs2 := hb02.size
    try simp only [Nat.zero_add, List.nil_append] at hown2
    rw [nums_app] at hown2
    replace hown2 := Lib.hid hown2
    clear hg2 hown1 hb1
    go_wp2_with (at_builtin; refine append_src rfl _ _ 22 rfl w.heap.size 5 i0 (.int .u8 0) 1 Try.underlying22 hf0 hz0 hz1 hz2 rfl _ _ _ rfl hown2.out ac nc cc (nums .u8 C nc) rfl hc.out.2.1.2.2 (nums_len _ _ _) (nums_news (hc.out.1.below hb02 (Nat.le_refl _))) (nums_one _ _ _) (by omega) (by omega) hs2 ?_)
    intro v3 w3 hown3 hg3 _
    have hb3 : Below w.heap.size w2 w3 := Below.grown (Below.refl _ _) hg3 hs2 (fun k hk => (hown2.out.lt k hk).1)
    have hb03 := hb02.trans hb3
    have hs3 := hb03.size
    try simp only [Nat.zero_add, List.nil_append] at hown3
    rw [nums_app] at hown3
    obtain ⟨al, cl, rfl, q1, q2, q3, hmine⟩ := own_mine hown3
    have hall := Lib.hid hmine.rd
    replace q3 := Lib.hid q3
    clear hmine hown3 hb3 hg3 hown2 hb2 hb02 hs2 hs1 w1 w2
    go_wp2_with fail
    refine (twinBytes _ aa na ca A (ha.out.1.below hb03 (Nat.le_refl _)) (fun h => (ha.out.2.1.2.2 h).2) (by omega)).mono ?_
    rintro e w4 ⟨g, cg, rfl, hg, hb4, ht⟩
    have ht4 := Lib.hid ht
    have hu := Lib.hid (twinBytes_held ht hg)
    have hcg := twinBytes_caps ht4.out
    have hb04 := bthen hb03 hb4
    have hs4 := hb4.size
    clear ht
    go_wp2_with fail
    refine calls_abs (fun W => Below w4.heap.size w4 W ∧ Blk W w4.heap.size #[.slice (some ⟨g, 0, none⟩) na cg, .slice ab nb cb, .slice ac nc cc] 22) ⟨below_alloc _ _, Blk.new _ _ _⟩ ?_
    rintro w5 ⟨hb5, hB5⟩
    have hb05 := bthen hb04 hb5
    have hs5 := hb5.size
    have P5 := parts3 hB5 (prt_twin (twinBytes_below ht4.out hb5) hA9.out) (hb.out.below hb05 (Nat.le_refl _)) (hc.out.below hb05 (Nat.le_refl _))
    have S5 := sumsPut w5 _ _ 3 _ _ _ _ P5 (by omega) (by rw [catN3]; omega)
    rw [catN3, catL3] at S5
    refine S5.mono ?_
    clear S5 P5 hB5
    rintro e w6 ⟨a6, rfl, m6, hb6⟩
    have x6 := Lib.hid (m6.mono (show w4.heap.size ≤ _ from hs5))
    have hb46 := hb5.trans (hb6.mono hs5)
    clear m6 hb6 hb05 hb5 hs5
    have hs6 := hb46.size
    go_wp2_with fail
    refine calls_abs (fun W => Below w6.heap.size w6 W ∧ Blk W w6.heap.size #[.slice (some ⟨g, 0, none⟩) na cg, .slice ab nb cb, .slice ac nc cc] 22) ⟨below_alloc _ _, Blk.new _ _ _⟩ ?_
    rintro w7 ⟨hb7, hB7⟩
    have hb07 := bthen (bthen hb04 hb46) hb7
    have hs7 := hb7.size
    have P7 := parts3 hB7 (prt_twin (twinBytes_below ht4.out (bthen hb46 hb7)) hA9.out) (hb.out.below hb07 (Nat.le_refl _)) (hc.out.below hb07 (Nat.le_refl _))
    have S7 := sumsOf w7 _ 3 3 _ _ _ _ P7 (by omega) (by rw [catN3]; omega)
    rw [catN3, catL3] at S7
    refine S7.mono ?_
    clear S7 P7 hB7
    rintro e w8 ⟨rfl, hb8⟩
    have hb68 := hb7.trans (hb8.mono hs7)
    clear hb7 hb8 hs7 hb07
    have hs8 := hb68.size
    go_wp2_with fail
    refine (refSum w8 al _ cl _ (hall.out.below (bthen (bthen hb4 hb46) hb68) (Nat.le_refl _)) hABC.out (by omega)).mono ?_
    rintro e w9 ⟨rfl, hb9⟩
    have hs9 := hb9.size
    generalize hSN : sumN (appL (appL A na B) (na + nb) C) (na + nb + nc) = S
    clear hSN
    go_wp2_with fail
    refine (refPut w9 al _ cl _ (hall.out.below (bthen (bthen (bthen hb4 hb46) hb68) hb9) (Nat.le_refl _)) ⟨q1, q2, q3.out⟩ hABC.out (by omega)).mono ?_
    rintro e w10 ⟨a10, c10, rfl, hc10, hc10', m10, hb10⟩
    have hs10 := hb10.size
    have x10 := Lib.hid m10
    clear m10
    go_wp2_with fail
    refine (sameBytes _ _ _ _ _ _ _ (x6.out.rd.below (bthen (bthen hb68 hb9) hb10) (Nat.le_refl _)) x10.out.rd (by omega)).mono ?_
    rintro e w11 ⟨rfl, q11, rfl⟩
    have hb611 := bthen (bthen (bthen hb68 hb9) hb10) (below_drewN w10 q11)
    clear hb68 hb9 hb10 x10 hc10 hc10'
    generalize w10.drewN q11 = w11 at *
    go_wp2_with fail
    refine (leftBytes _ _ _ _ _ _ _ (twinBytes_below ht4.out (bthen hb46 hb611)) (ha.out.1.below (bthen (bthen hb04 hb46) hb611) (Nat.le_refl _))).mono ?_
    rintro e w12 ⟨rfl, q12, rfl⟩
    replace hb611 := bthen hb611 (below_drewN w11 q12)
    generalize w11.drewN q12 = w12 at *
    have hs12 := hb611.size
    have hb012 := bthen (bthen hb04 hb46) hb611
    have hs0 := hb012.size
    go_wp2_with fail
    refine calls_abs (fun W => Below w12.heap.size w12 W ∧ Shelf w.heap.size W w12.heap.size [] [] [] w.heap.size w.heap.size w.heap.size) ⟨below_alloc _ _, shelfNew hs0⟩ ?_
    rintro w13 ⟨hb13, k13⟩
    have u13 := hu.out.below (bthen (bthen hb46 hb611) hb13) (Nat.le_refl _)
    have y13 := x6.out.held.below (bthen hb611 hb13) (Nat.le_refl _)
    have t13 := twinBytes_below ht4.out (bthen (bthen hb46 hb611) hb13)
    refine (shelfBytes k13 u13 (by omega) (by omega) (by omega) (by simp)).mono ?_
    rintro e w14 ⟨rfl, k14, hb14, bk14⟩
    have y14 := y13.to (w' := w14) fun g cur hc => bk14 g cur _ hc (by decide) (by decide) (by decide) (by decide)
    have t14 := twinBytes_to (w' := w14) t13 fun cur hc => bk14 g cur _ hc (by decide) (by decide) (by decide) (by decide)
    have hb014 := (bthen hb012 hb13).trans hb14
    have hz14 := Nat.le_trans hb13.size hb14.size
    clear u13 y13 t13 k13 hb14 bk14
    go_wp2_with fail
    refine (shelfBytes k14 y14 (by omega) (by omega) (by omega) (by simp)).mono ?_
    rintro e w15 ⟨rfl, k15, hb15, bk15⟩
    have t15 := Lib.hid (twinBytes_to (w' := w15) t14 fun cur hc => bk15 g cur _ hc (by decide) (by decide) (by decide) (by decide))
    have hb015 := hb014.trans hb15
    have hs15 := hb015.size
    have hz15 := hb15.size
    clear y14 t14 k14 hb15 bk15 hb014
    go_wp2_with fail
    refine calls_abs (fun W => Below w15.heap.size w15 W ∧ Blk W w15.heap.size #[.slice (some ⟨g, 0, none⟩) na cg] 22) ⟨below_alloc _ _, Blk.new _ _ _⟩ ?_
    rintro w16 ⟨hb16, hB16⟩
    have hs16 := hb16.size
    have pt := prt_twin (twinBytes_below t15.out hb16) hA9.out
    have P16 := parts_one (hB16.cell (i := 0) rfl) pt.1 pt.2.1 pt.2.2
    have S16 := sumsPut w16 _ 1 1 _ _ _ _ P16 (by omega) (by rw [catN_one]; omega)
    rw [catN_one] at S16
    refine S16.mono ?_
    clear S16 P16 pt hB16
    rintro e w17 ⟨a17, rfl, m17, hb17⟩
    have hb1517 := hb16.trans (hb17.mono hs16)
    have k17 := k15.below hb1517
    have hb017 := bthen hb015 hb1517
    have hs17 := hb1517.size
    have hs17' := hb17.size
    clear k15 hb16 hb17 hb1517 hb015
    go_wp2_with fail
    refine (shelfBytes k17 m17.held (by omega) (by omega) (by omega) (by simp)).mono ?_
    rintro e w18 ⟨rfl, k18, hb18, bk18⟩
    have hb018 := hb017.trans hb18
    have hs18 := hb018.size
    have hz18 := hb18.size
    clear k17 m17 hb18 bk18 hb017
    go_wp2_with fail
    have S18 := sumsPut w18 none 0 0 _ _ _ _ (parts_nil w18 none) (by omega) (by simp [catN])
    refine S18.mono ?_
    clear S18
    rintro e w19 ⟨a19, rfl, m19, hb19⟩
    have k19 := k18.below hb19
    have hb019 := bthen hb018 hb19
    have hs19 := hb19.size
    clear k18 hb19 hb018
    go_wp2_with fail
    refine (shelfBytes k19 m19.held ?_ ?_ ?_ ?_).mono ?_
    · omega
    · omega
    · simp [catN]
    · simp
    rintro e w20 ⟨rfl, k20, hb20, bk20⟩
    have hb020 := hb019.trans hb20
    have hs20 := hb020.size
    clear k19 m19 hb20 bk20 hb019
    go_wp2_with fail
    refine (shelfApart k20 hs20).mono ?_
    rintro e w21 ⟨rfl, hb21⟩
    have hb021 := hb020.trans hb21
    clear k20 hb21
    go_wp2_with fail
    refine (lives02 _).mono ?_
    rintro e wx ⟨rfl, hbL⟩
    go_wp2_with fail
    go_ret
    exact ⟨rfl, bthen hb021 hbL⟩
  · have gd : (decide ((300 : Int) < (na : Int)) || decide ((300 : Int) < (nb : Int)) || decide ((300 : Int) < (nc : Int))) = true := by simp; omega
    go_enter Try.func3, Try.ntmps3
    go_wp2_with fail
    all_goals first
      | (exfalso; omega)
      | (refine (lives02 _).mono ?_
         rintro e wx ⟨rfl, hbL⟩
         go_wp2_with fail
         go_ret
         exact ⟨rfl, hbL⟩)
end Go.Proofs.Ytpcohgjbhgaogaa
