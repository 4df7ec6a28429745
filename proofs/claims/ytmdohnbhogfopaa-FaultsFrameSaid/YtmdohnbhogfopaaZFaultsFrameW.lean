/- FaultsFrame: the law. -/
import Derived.Test.YtmdohnbhogfopaaZFaultsFrameM
import Derived.Test.YtmdohnbhogfopaaZFaultsAgainW
namespace Go.Proofs.Ytmdohnbhogfopaa
open Go.RowKit Go.Maps
set_option linter.unusedSimpArgs false
set_option linter.unusedVariables false
set_option maxRecDepth 100000
theorem kdOf_lt (k : Nat) : 0 ≤ kdOf k ∧ kdOf k < 256 := by
  unfold kdOf
  repeat' split
  all_goals omega
theorem kdOf_ne (k : Nat) : kdOf k ≠ 4 := by
  unfold kdOf
  repeat' split
  all_goals omega
theorem kdOf_at (k : Nat) (hk : k < 4) {W : World} {kb : Nat} (h : Blk W kb #[.int .u8 8, .int .u8 2, .int .u8 5, .int .u8 6] 24) : W.cell? ⟨kb, k, none⟩ = some (.int .u8 (kdOf k)) := by
  obtain rfl | rfl | rfl | rfl : k = 0 ∨ k = 1 ∨ k = 2 ∨ k = 3 := by omega
  · exact h.cell (i := 0) rfl
  · exact h.cell (i := 1) rfl
  · exact h.cell (i := 2) rfl
  · exact h.cell (i := 3) rfl
/-- How many symbols are there before tick t of the k-th. -/
def cntK (k : Nat) (fr : Int) (t : Int) : Nat := if k = 0 then min (t - fr).toNat 114 else 114
theorem newF (w : World) (sd fr : Int) (hs : 0 ≤ sd ∧ sd < 18446744073709551616) (hf : 0 ≤ fr ∧ fr < 256) (k : Nat) (kb : Nat) (v : Value) (n : Nat) (W : World) (h : FrAt w sd kb v n W) (b : Nat) (hb : Blk W b #[.int .i64 fr, .int .i64 1000, .int .u8 0, .int .u8 (kdOf k), .int .u64 sd] 27) :
    Calls Try.prog 16 #[.int .i64 4, .agg #[.int .i64 (-1), .int .i64 6, .slice (some ⟨b, 0, none⟩) 1 1]] W fun e W' => ∃ pm bt bl, e = .returned (.tuple #[.pointer (some ⟨pm, 0, none⟩), .int .i64 0]) ∧ FrM w sd fr kb (kdOf k) v n pm bt bl 0 W' := by
  have hS : SpAt 0 W (.slice (some ⟨b, 0, none⟩) 1 1) (FF sd fr (kdOf k)).S := SpAt.of_blk (S := [⟨fr, 1000, 0, kdOf k, sd⟩]) hb rfl (by unfold maxLen; simp)
  refine (newM W (FF sd fr (kdOf k)) (FF_ok sd fr _ hs hf (kdOf_lt k)) _ hS (ob v) h.ob).mono ?_
  rintro e W' ⟨pm, bt, bl, rfl, hM, hb2, h1, h2, h3, h4, h5⟩
  have := h.bel.size
  exact ⟨pm, bt, bl, rfl, h.below hb2, by omega, _, _, hM⟩
def InvKF (w : World) (sd fr : Int) (kb : Nat) (gk : Nat) (a : Act) (wr : World) : Prop :=
  ∃ (k : Nat) (v : Value), k + gk = 4 ∧ Hid (FrAt w sd kb v (if k = 0 then 0 else 114) wr) ∧ a.tmps.size = 205 ∧ a.defers = [] ∧ slot a 0 = .int .u64 sd ∧ slot a 1 = .int .u8 fr ∧ slot a 5 = .slice (some ⟨kb, 0, none⟩) 4 4 ∧ slot a 6 = v ∧ slot a 7 = .int .i64 k
def InvTF (w : World) (sd fr : Int) (kb : Nat) (k : Nat) (pm bt bl : Nat) (gk : Nat) (a : Act) (wr : World) : Prop :=
  ∃ (j : Nat) (v : Value), (j : Int) + gk = fr + 120 ∧ Hid (FrM w sd fr kb (kdOf k) v (cntK k fr j) pm bt bl j wr) ∧ a.tmps.size = 205 ∧ a.defers = [] ∧ slot a 0 = .int .u64 sd ∧ slot a 1 = .int .u8 fr ∧ slot a 5 = .slice (some ⟨kb, 0, none⟩) 4 4 ∧ slot a 6 = v ∧ slot a 7 = .int .i64 k ∧ slot a 9 = .pointer (some ⟨pm, 0, none⟩) ∧ slot a 11 = .int .i64 j
def InvIF (w w1 : World) (sd fr : Int) (kb : Nat) (k j : Nat) (v : Value) (pm bp bx : Nat) (gk : Nat) (a : Act) (wr : World) : Prop :=
  ∃ i : Nat, i + gk = 4 ∧ Hid (Below w1.heap.size w1 wr) ∧ a.tmps.size = 205 ∧ a.defers = [] ∧ slot a 0 = .int .u64 sd ∧ slot a 1 = .int .u8 fr ∧ slot a 5 = .slice (some ⟨kb, 0, none⟩) 4 4 ∧ slot a 6 = v ∧ slot a 7 = .int .i64 k ∧ slot a 9 = .pointer (some ⟨pm, 0, none⟩) ∧ slot a 11 = .int .i64 j ∧ slot a 12 = .pointer (some ⟨bp, 0, none⟩) ∧ slot a 13 = .pointer (some ⟨bx, 0, none⟩) ∧ slot a 14 = .int .i64 i
set_option maxHeartbeats 16000000 in
theorem faultsFrame_any (w : World) (sd : Int) (hs : 0 ≤ sd ∧ sd < 18446744073709551616) (fr : Int) (hf : 0 ≤ fr ∧ fr < 256) :
    Calls Try.prog 4 #[.int .u64 sd, .int .u8 fr] w fun e w' => e = .returned (.bool true) ∧ Below w.heap.size w w' := by
  have hLv := Lib.hid (fun W => lives29 W)
  have hsd := Lib.hid hs
  have hfr := Lib.hid hf
  have q0 : IntKind.i64.wrap fr = fr := wrapI _ (by omega) (by omega)
  have q1 : IntKind.i64.wrap (fr + 120) = fr + 120 := wrapI _ (by omega) (by omega)
  have hA0 : Hid (FrAt w sd w.heap.size (.slice none 0 0) 0 (w.alloc (.cells #[.int .u8 8, .int .u8 2, .int .u8 5, .int .u8 6] 24))) := ⟨below_alloc _ _, Blk.new _ _ _, by simpa [nums] using World.ownsRow_nil _ _ _ _⟩
  go_enter Try.func4, Try.ntmps4
  go_upto_region 2 with fail
  generalize w.alloc (.cells #[.int .u8 8, .int .u8 2, .int .u8 5, .int .u8 6] 24) = w1 at *
  generalize hkb : w.heap.size = kb at *
  rw [hkb.symm] at hA0
  subst hkb
  go_wp2_with fail
  refine wp_loop_k (InvKF w sd fr w.heap.size) 4 ?_ ?_
  · exact ⟨0, .slice none 0 0, by omega, hA0, by kernel_rfl, rfl, by kernel_rfl, by kernel_rfl, by kernel_rfl, by kernel_rfl, by kernel_rfl⟩
  clear hA0
  intro gk a wr hI K hK
  obtain ⟨k, v, hk0, hA, hs', hd', k0', k1', k5', k6', k7'⟩ := hI
  rw [fr205 a hs' hd']; simp only [k0', k1', k5', k6', k7']; clear hs' hd' k0' k1' k5' k6' k7'
  replace hK := Lib.hid hK
  by_cases hlt : k < 4
  · have g1 : decide ((k : Int) < 4) = true := by simp; omega
    have g2 : (k : Int) < 4 := by omega
    have gw : IntKind.i64.wrap ((k : Int) + 1) = ((k + 1 : Nat) : Int) := by rw [wrapI _ (by omega) (by omega)]; omega
    have ck := kdOf_at k hlt hA.out.kin
    have lk := hA.out.kin.lt
    generalize hkd : kdOf k = kd at *
    replace hkd := Lib.hid hkd
    go_upto_region 7 with fail
    have hA2 : Hid (FrAt w sd w.heap.size v (if k = 0 then 0 else 114) (wr.alloc (.cells #[.int .i64 fr, .int .i64 1000, .int .u8 0, .int .u8 kd, .int .u64 sd] 27))) := hA.out.below (below_alloc _ _)
    have k2 : Blk (wr.alloc (.cells #[.int .i64 fr, .int .i64 1000, .int .u8 0, .int .u8 kd, .int .u64 sd] 27)) wr.heap.size #[.int .i64 fr, .int .i64 1000, .int .u8 0, .int .u8 kd, .int .u64 sd] 27 := Blk.new _ _ _
    clear ck lk hA
    generalize wr.alloc (.cells #[.int .i64 fr, .int .i64 1000, .int .u8 0, .int .u8 kd, .int .u64 sd] 27) = w2 at *
    generalize wr.heap.size = b2 at *
    have f0 := k2.cell (i := 0) rfl
    have f1 := k2.cell (i := 1) rfl
    have f2 := k2.cell (i := 2) rfl
    have f3 := k2.cell (i := 3) rfl
    have f4 := k2.cell (i := 4) rfl
    have l2 := k2.lt
    clear k2
    go_wp2_with fail
    have hA3 : Hid (FrAt w sd w.heap.size v (if k = 0 then 0 else 114) (w2.alloc (.cells #[.int .i64 fr, .int .i64 1000, .int .u8 0, .int .u8 kd, .int .u64 sd] 27))) := hA2.out.below (below_alloc _ _)
    have k3 : Blk (w2.alloc (.cells #[.int .i64 fr, .int .i64 1000, .int .u8 0, .int .u8 kd, .int .u64 sd] 27)) w2.heap.size #[.int .i64 fr, .int .i64 1000, .int .u8 0, .int .u8 kd, .int .u64 sd] 27 := Blk.new _ _ _
    generalize w2.alloc (.cells #[.int .i64 fr, .int .i64 1000, .int .u8 0, .int .u8 kd, .int .u64 sd] 27) = w9 at *
    rw [← hkd.out] at k3
    have C := Lib.hid (newF w sd fr hsd.out hfr.out k w.heap.size v _ _ hA3.out _ k3)
    clear k3 hA3 hA2 f0 f1 f2 f3 f4 l2
    refine C.out.mono ?_
    rintro e w3 ⟨pm, bt, bl, rfl, hM⟩
    have hM0 : Hid (FrM w sd fr w.heap.size (kdOf k) v (cntK k fr ((0 : Nat) : Int)) pm bt bl 0 w3) := by
      have e0 : cntK k fr ((0 : Nat) : Int) = if k = 0 then 0 else 114 := by
        unfold cntK
        split
        · have : (((0 : Nat) : Int) - fr).toNat = 0 := by have := hfr.out; omega
          omega
        · rfl
      rw [e0]
      exact hM
    clear hM C hkd
    go_wp2_with fail
    refine wp_loop_k (InvTF w sd fr w.heap.size k pm bt bl) (fr + 120).toNat ?_ ?_
    · exact ⟨0, v, by omega, hM0, by kernel_rfl, rfl, by kernel_rfl, by kernel_rfl, by kernel_rfl, by kernel_rfl, by kernel_rfl, by kernel_rfl, by kernel_rfl⟩
    clear hM0
    intro gk2 a wr hI K2 hK2
    obtain ⟨j, v, hj0, hM, hs', hd', k0', k1', k5', k6', k7', k9', k11'⟩ := hI
    rw [fr205 a hs' hd']; simp only [k0', k1', k5', k6', k7', k9', k11']; clear hs' hd' k0' k1' k5' k6' k7' k9' k11'
    replace hK2 := Lib.hid hK2
    by_cases hltj : (j : Int) < fr + 120
    · have g3 : decide ((j : Int) < fr + 120) = true := by simp [hltj]
      have gwj : IntKind.i64.wrap ((j : Int) + 1) = ((j + 1 : Nat) : Int) := by rw [wrapI _ (by omega) (by omega)]; omega
      have e8 : IntKind.u8.wrap (j : Int) = (j : Int) % 256 := by rw [IntKind.wrap_u8]
      have e9 : Int.emod (j : Int) 256 = (j : Int) % 256 := rfl
      have hn8 : 0 ≤ (j : Int) % 256 ∧ (j : Int) % 256 < 256 := by omega
      have hp := Lib.hid (postC_ok ((j : Int) % 256) hn8)
      have hP : Hid (∀ W, Calls Try.prog 18 #[.int .u8 ((j : Int) % 256)] W fun e w' => ∃ a n k, e = .returned (.agg #[.int .u8 (postC ((j : Int) % 256)).s, .slice a n k]) ∧ WordAt 0 w' (.slice a n k) (postC ((j : Int) % 256)).R ∧ Below W.heap.size W w') := fun W => (postW W _ hn8).mono (by
        rintro e w' ⟨v', rfl, hO, hb⟩
        obtain ⟨a, n, k, rfl⟩ := hO.sl
        exact ⟨a, n, k, rfl, hO.at0 (postC_ok _ hn8).R, hb⟩)
      have hsay : Hid (¬ (j : Int) < fr → SaidK sd fr k j ((j : Int) % 256) (sayF sd fr (kdOf k) j (postC ((j : Int) % 256)))) := fun h => saidK sd fr k hlt j _ hn8 h
      have hpr : Hid (∀ i, i < 4 → (postC ((j : Int) % 256)).R[i]? = some (rowN ((j : Int) % 256))) := fun i hi => rep4 _ i hi
      have hrow := Lib.hid (rowN_ok ((j : Int) % 256) hn8)
      have hps : Hid ((postC ((j : Int) % 256)).s = 1 + (j : Int) % 256 % 2) := rfl
      have hlen4 : Hid ((postC ((j : Int) % 256)).R.length = 4) := by
        have : (postC ((j : Int) % 256)).R.length = 4 := by simp [postC]
        exact this
      generalize postC ((j : Int) % 256) = p at *
      generalize hrw : rowN ((j : Int) % 256) = rw0 at *
      generalize hn : (j : Int) % 256 = n at *
      replace hrw := Lib.hid hrw
      replace hn := Lib.hid hn
      go_wp2_with fail
      refine (hP.out _).mono ?_
      rintro e w6 ⟨a6, n6, k6, rfl, hw6, hb6⟩
      replace hM := Lib.hid (hM.out.below hb6)
      replace hw6 := Lib.hid hw6
      clear hb6 hP
      go_wp2_with fail
      have hM7 : Hid (FrM w sd fr w.heap.size (kdOf k) v (cntK k fr j) pm bt bl j (w6.alloc (.cells #[.int .u8 p.s, .slice a6 n6 k6] 40))) := hM.out.below (below_alloc _ _)
      have hw7 : Hid (WordAt 0 (w6.alloc (.cells #[.int .u8 p.s, .slice a6 n6 k6] 40)) (.slice a6 n6 k6) p.R) := hw6.out.below (below_alloc _ _)
      have kp : Hid (Blk (w6.alloc (.cells #[.int .u8 p.s, .slice a6 n6 k6] 40)) w6.heap.size #[.int .u8 p.s, .slice a6 n6 k6] 40) := Blk.new _ _ _
      clear hM hw6
      generalize w6.alloc (.cells #[.int .u8 p.s, .slice a6 n6 k6] 40) = w7 at *
      generalize w6.heap.size = bp at *
      refine (hM7.out.says hsd.out hfr.out (kdOf_lt k) (kdOf_ne k) (by have := hfr.out; omega) j (by have := hfr.out; omega) p hp.out _ hw7.out).mono ?_
      rintro e w8 ⟨r, a8, n8, k8, rfl, hr, hX, hM8, hkc, hbk⟩
      have kp8 := hbk _ _ _ kp.out
      have hw8 := hw7.out.keep hkc
      rw [← hr] at hsay
      have hreq : Hid ((j : Int) < fr → r = p) := fun h => by rw [hr]; unfold sayF; rw [if_pos h]
      clear hM7 hw7 kp hkc hbk hr
      go_upto_region 15 with fail
      have hb89 := below_alloc w8 (.cells #[.int .u8 r.s, .slice a8 n8 k8] 40)
      have hM9 := Lib.hid (hM8.below hb89)
      have hX9 := Lib.hid (hX.below hb89)
      have hw9 := Lib.hid (hw8.below hb89)
      have kp9 := kp8.below hb89 kp8.lt
      have kx9 := Blk.new w8 #[.int .u8 r.s, .slice a8 n8 k8] 40
      clear hM8 hX hw8 kp8 hb89
      generalize w8.alloc (.cells #[.int .u8 r.s, .slice a8 n8 k8] 40) = w9 at *
      generalize w8.heap.size = bx at *
      have p0 := kp9.cell (i := 0) rfl
      have p1 := kp9.cell (i := 1) rfl
      have x0 := kx9.cell (i := 0) rfl
      have x1 := kx9.cell (i := 1) rfl
      have lp := kp9.lt
      have lx := kx9.lt
      by_cases htf : (j : Int) < fr
      · have g4 : decide ((j : Int) < fr) = true := by simp [htf]
        have hrp : r = p := hreq.out htf
        subst hrp
        have hE := Lib.hid (alikeFine w9 r.s r.R hp.out.fine _ _ hX9.out hw9.out)
        have hcn : Hid (cntK k fr ((j + 1 : Nat) : Int) = cntK k fr j) := by
          have : cntK k fr ((j + 1 : Nat) : Int) = cntK k fr j := by
            unfold cntK
            split
            · congr 1
              omega
            · rfl
          exact this
        clear hX9 hw9 kp9 kx9 hsay hreq
        go_wp2_with fail
        refine hE.out.mono ?_
        rintro e w10 ⟨rfl, hb10⟩
        have hM10 := Lib.hid (hM9.out.below hb10)
        rw [← hcn.out] at hM10
        clear hM9 hE hb10 p0 p1 x0 x1 lp lx
        go_wp2_with fail
        exact hK2.out ((fr + 120).toNat - (j + 1)) _ _ (by omega) ⟨j + 1, v, by omega, hM10, by kernel_rfl, rfl, by kernel_rfl, by kernel_rfl, by kernel_rfl, by kernel_rfl, by kernel_rfl, by kernel_rfl, by kernel_rfl⟩
      have g4 : decide ((j : Int) < fr) = false := by simp; omega
      have hS := Lib.hid (hsay.out (by omega))
      clear hsay hreq
      have hlx : n8 = 4 := by
        obtain ⟨_, _, _, h1, h2, _⟩ := hX9.out.len
        simp only [Value.slice.injEq] at h2
        rw [h2.2.1, h1, hS.out.len]
      have hlp : n6 = 4 := by
        obtain ⟨_, _, _, h1, h2, _⟩ := hw9.out.len
        simp only [Value.slice.injEq] at h2
        rw [h2.2.1, h1, hlen4.out]
      subst hlx hlp
      go_upto_region 18 with fail
      refine wp_cut (fun a wx => (w9 = wx) ∧ a.tmps.size = 205 ∧ a.defers = [] ∧ slot a 0 = .int .u64 sd ∧ slot a 1 = .int .u8 fr ∧ slot a 5 = .slice (some ⟨w.heap.size, 0, none⟩) 4 4 ∧ slot a 6 = v ∧ slot a 7 = .int .i64 k ∧ slot a 9 = .pointer (some ⟨pm, 0, none⟩) ∧ slot a 11 = .int .i64 j ∧ slot a 12 = .pointer (some ⟨bp, 0, none⟩) ∧ slot a 13 = .pointer (some ⟨bx, 0, none⟩) ∧ slot a 78 = .bool false) ?_ ?_
      · intro K' hK'
        by_cases z1 : 1 < k
        · have z2 : decide ((1 : Int) < (k : Int)) = true := by simp; omega
          have z3 : (r.s != p.s) = false := by rw [hS.out.sym z1, hps.out]; simp
          clear z1
          go_wp2_with fail
          refine hK' _ _ trivial ⟨rfl, by kernel_rfl, rfl, by kernel_rfl, by kernel_rfl, by kernel_rfl, by kernel_rfl, by kernel_rfl, by kernel_rfl, by kernel_rfl, by kernel_rfl, by kernel_rfl, by kernel_rfl⟩
        · have z2 : decide ((1 : Int) < (k : Int)) = false := by simp; omega
          clear z1
          go_wp2_with fail
          refine hK' _ _ trivial ⟨rfl, by kernel_rfl, rfl, by kernel_rfl, by kernel_rfl, by kernel_rfl, by kernel_rfl, by kernel_rfl, by kernel_rfl, by kernel_rfl, by kernel_rfl, by kernel_rfl, by kernel_rfl⟩
      rintro a wx ⟨rfl, hs', hd', k0', k1', k5', k6', k7', k9', k11', k12', k13', k78'⟩; rw [fr205 a hs' hd']; simp only [k0', k1', k5', k6', k7', k9', k11', k12', k13', k78']; clear hs' hd' k0' k1' k5' k6' k7' k9' k11' k12' k13' k78'
      have hcl : Hid (∀ W, Below w9.heap.size w9 W → W.cell? ⟨bx, 0, none⟩ = some (.int .u8 r.s) ∧ W.cell? ⟨bx, 1, none⟩ = some (.slice a8 4 k8) ∧ W.cell? ⟨bp, 0, none⟩ = some (.int .u8 p.s) ∧ W.cell? ⟨bp, 1, none⟩ = some (.slice a6 4 k6) ∧ bx < W.heap.size ∧ bp < W.heap.size) := fun W hW =>
        ⟨(kx9.below hW lx).cell (i := 0) rfl, (kx9.below hW lx).cell (i := 1) rfl, (kp9.below hW lp).cell (i := 0) rfl, (kp9.below hW lp).cell (i := 1) rfl, Nat.lt_of_lt_of_le lx hW.size, Nat.lt_of_lt_of_le lp hW.size⟩
      clear p0 p1 x0 x1
      replace kx9 := Lib.hid kx9
      replace kp9 := Lib.hid kp9
      go_wp2_with fail
      refine wp_loop_k (InvIF w w9 sd fr w.heap.size k j v pm bp bx) 4 ?_ ?_
      · exact ⟨0, by omega, Below.refl _ _, by kernel_rfl, rfl, by kernel_rfl, by kernel_rfl, by kernel_rfl, by kernel_rfl, by kernel_rfl, by kernel_rfl, by kernel_rfl, by kernel_rfl, by kernel_rfl, by kernel_rfl⟩
      intro gk3 a wr hI K3 hK3
      obtain ⟨i, hi0, hb, hs', hd', k0', k1', k5', k6', k7', k9', k11', k12', k13', k14'⟩ := hI
      rw [fr205 a hs' hd']; simp only [k0', k1', k5', k6', k7', k9', k11', k12', k13', k14']; clear hs' hd' k0' k1' k5' k6' k7' k9' k11' k12' k13' k14'
      replace hK3 := Lib.hid hK3
      by_cases hlti : i < 4
      · have g5 : decide ((i : Int) < 4) = true := by simp; omega
        have g6 : (i : Int) < 4 := by omega
        have gwi : IntKind.i64.wrap ((i : Int) + 1) = ((i + 1 : Nat) : Int) := by rw [wrapI _ (by omega) (by omega)]; omega
        obtain ⟨ad8, rfl⟩ : ∃ ad, a8 = some ad := by
          rcases hX9.out with ⟨h, _⟩ | ⟨ad, cap, h, _⟩
          · cases h
          · simp only [Value.slice.injEq] at h; exact ⟨ad, h.1⟩
        obtain ⟨ad6, rfl⟩ : ∃ ad, a6 = some ad := by
          rcases hw9.out with ⟨h, _⟩ | ⟨ad, cap, h, _⟩
          · cases h
          · simp only [Value.slice.injEq] at h; exact ⟨ad, h.1⟩
        have hk8 : 4 ≤ k8 ∧ k8 ≤ 9223372036854775807 := by
          rcases hX9.out with ⟨h, _⟩ | ⟨ad, cap, h, h1, h2, _⟩
          · cases h
          · simp only [Value.slice.injEq] at h
            unfold maxLen at h2
            omega
        have hk6 : 4 ≤ k6 ∧ k6 ≤ 9223372036854775807 := by
          rcases hw9.out with ⟨h, _⟩ | ⟨ad, cap, h, h1, h2, _⟩
          · cases h
          · simp only [Value.slice.injEq] at h
            unfold maxLen at h2
            omega
        have s1 : (0 : Int) ≤ (i : Int) := by omega
        have s2 : (i : Int) ≤ (i : Int) + 1 := by omega
        have s3 : (i : Int) + 1 ≤ (k8 : Int) := by omega
        have s4 : (i : Int) + 1 ≤ (k6 : Int) := by omega
        have s5 : ((i + 1 : Nat) : Int) ≤ (k8 : Int) := by omega
        have s6 : ((i + 1 : Nat) : Int) ≤ (k6 : Int) := by omega
        have s7 : (i : Int) ≤ ((i + 1 : Nat) : Int) := by omega
        have s8 : ¬ k6 = i := by omega
        have s9 : ¬ k8 = i := by omega
        obtain ⟨d0, d1, d2, d3, dx, dp⟩ := hcl.out _ hb.out
        obtain ⟨x, hx1, hx2, hx3, hx4⟩ := hS.out.row i hlti
        rw [hrw.out] at hx2 hx3 hx4
        have hxk : RowOk x := hS.out.fine.ok x (List.mem_of_getElem? hx1)
        have hxt : x.tab.length ≤ 1000 := hS.out.fine.t x (List.mem_of_getElem? hx1)
        have hrt : rw0.tab.length ≤ 1000 := by rw [← hx2]; exact hxt
        have hW6 : Hid (WordAt 0 w9 (.slice (some (ad6.add (i * 57))) 1 (k6 - i)) [rw0]) := by
          have : WordAt 0 w9 (.slice (some (ad6.add (i * 57))) 1 (k6 - i)) [rw0] := by
            exact hw9.out.sub (hpr.out i hlti) (by omega)
          exact this
        have hW8 : Hid (WordAt 0 w9 (.slice (some (ad8.add (i * 57))) 1 (k8 - i)) [x]) := by
          have : WordAt 0 w9 (.slice (some (ad8.add (i * 57))) 1 (k8 - i)) [x] := by
            exact hX9.out.sub hx1 (by omega)
          exact this
        have P1 : Hid (∀ W, Below w9.heap.size w9 W → Calls Try.prog 22 #[.slice (some (ad6.add (i * 57))) 1 (k6 - i)] W fun e w' => ∃ a n c, e = .returned (.slice a n c) ∧ WordAt 0 w' (.slice a n c) [rw0] ∧ Below W.heap.size W w') := fun W hW => (othersR W _ [rw0] (hW6.out.below hW) (by simpa using hrow.out) (by simp) (by simp; omega)).mono (by
          rintro e w' ⟨v', rfl, hO, hbo⟩
          obtain ⟨a, n, c, rfl⟩ := hO.sl
          exact ⟨a, n, c, rfl, hO.at0 (by simpa using hrow.out), hbo⟩)
        have P2 : Hid (∀ W v7, Below w9.heap.size w9 W → WordAt 0 W v7 [rw0] → Calls Try.prog 21 #[.slice (some (ad8.add (i * 57))) 1 (k8 - i), v7] W fun e w' => e = .returned (.bool (sameB k i)) ∧ Below W.heap.size W w') := fun W v7 hW h7 => by
          have hN : RowsNear [x] [rw0] := ⟨rfl, fun q r1 r2 e1 e2 => by
            match q, e1, e2 with
            | 0, e1, e2 =>
              simp at e1 e2
              subst e1 e2
              exact ⟨hx3, hx2⟩⟩
          have := sameAllR W _ v7 [x] [rw0] (hW8.out.below hW) h7 hN (by simpa using hxk) (by simpa using hrow.out) (by simp) (by simp; omega)
          have e : sameRows [x] [rw0] = sameB k i := by simp [sameRows, hx4]
          rw [e] at this
          exact this
        have hR : Hid (Below w9.heap.size w9 wr.drew) := bdrewN hb.out 1
        clear hx1 hx2 hx3 hx4 hxk hxt hrt hW6 hW8 d0 d1 d2 d3 dx dp
        go_upto_region 23 with fail
        generalize hsb : sameB k i = sb at *
        replace hsb := Lib.hid hsb
        go_region_held3 (fun W => W.cell? ⟨bx, 0, none⟩ = some (.int .u8 r.s) ∧ W.cell? ⟨bx, 1, none⟩ = some (.slice (some ad8) 4 k8) ∧ W.cell? ⟨bp, 0, none⟩ = some (.int .u8 p.s) ∧ W.cell? ⟨bp, 1, none⟩ = some (.slice (some ad6) 4 k6) ∧ bx < W.heap.size ∧ bp < W.heap.size)
          (exact hcl.out _ hR.out)
          (first
            | (go_at_call 22
               (with_reducible refine (P1.out _ hR.out).mono ?_)
               rintro e wn ⟨an, nn, cn, rfl, hY, hbn⟩
               replace hR := Lib.hid (bthen hR.out hbn)
               replace hY := Lib.hid hY
               clear hbn)
            | (go_at_call 21
               (with_reducible refine (P2.out _ _ hR.out hY.out).mono ?_)
               rintro e wn ⟨rfl, hbn⟩
               replace hR := Lib.hid (bthen hR.out hbn)
               clear hbn hY)
            | fail)
        clear P1 P2 hb
        go_upto_region 24 with fail
        refine wp_cut (fun a wx => (wn = wx) ∧ a.tmps.size = 205 ∧ a.defers = [] ∧ slot a 0 = .int .u64 sd ∧ slot a 1 = .int .u8 fr ∧ slot a 5 = .slice (some ⟨w.heap.size, 0, none⟩) 4 4 ∧ slot a 6 = v ∧ slot a 7 = .int .i64 k ∧ slot a 9 = .pointer (some ⟨pm, 0, none⟩) ∧ slot a 11 = .int .i64 j ∧ slot a 12 = .pointer (some ⟨bp, 0, none⟩) ∧ slot a 13 = .pointer (some ⟨bx, 0, none⟩) ∧ slot a 14 = .int .i64 i ∧ slot a 118 = .bool false) ?_ ?_
        · intro K' hK'
          have hz : k < 2 ∨ (k = 2 ∧ i = 1) ∨ (k = 2 ∧ ¬ i = 1) ∨ (k = 3 ∧ i = 1) ∨ (k = 3 ∧ ¬ i = 1) := by omega
          rcases hz with z0 | z0 | z0 | z0 | z0
          · obtain rfl : sb = true := by
              have h1 := hsb.out
              rw [← h1]
              unfold sameB
              rw [Bool.eq_iff_iff]
              simp
              omega
            have y1 : decide ((k : Int) < 2) = true := by simp; omega
            clear z0 hsb
            go_wp2_with fail
            refine hK' _ _ trivial ⟨rfl, by kernel_rfl, rfl, by kernel_rfl, by kernel_rfl, by kernel_rfl, by kernel_rfl, by kernel_rfl, by kernel_rfl, by kernel_rfl, by kernel_rfl, by kernel_rfl, by kernel_rfl, by kernel_rfl⟩
          · obtain rfl : sb = false := by
              have h1 := hsb.out
              rw [← h1]
              unfold sameB
              rw [Bool.eq_iff_iff]
              simp
              omega
            have y1 : decide ((k : Int) < 2) = false := by simp; omega
            have y2 : ((k : Int) == 2) = true := by simp; omega
            have y3 : ((i : Int) != 1) = false := by simp; omega
            have y4 : ((k : Int) == 3) = false := by simp; omega
            clear z0 hsb
            go_wp2_with fail
            refine hK' _ _ trivial ⟨rfl, by kernel_rfl, rfl, by kernel_rfl, by kernel_rfl, by kernel_rfl, by kernel_rfl, by kernel_rfl, by kernel_rfl, by kernel_rfl, by kernel_rfl, by kernel_rfl, by kernel_rfl, by kernel_rfl⟩
          · obtain rfl : sb = true := by
              have h1 := hsb.out
              rw [← h1]
              unfold sameB
              rw [Bool.eq_iff_iff]
              simp
              omega
            have y1 : decide ((k : Int) < 2) = false := by simp; omega
            have y2 : ((k : Int) == 2) = true := by simp; omega
            have y3 : ((i : Int) != 1) = true := by simp; omega
            clear z0 hsb
            go_wp2_with fail
            refine hK' _ _ trivial ⟨rfl, by kernel_rfl, rfl, by kernel_rfl, by kernel_rfl, by kernel_rfl, by kernel_rfl, by kernel_rfl, by kernel_rfl, by kernel_rfl, by kernel_rfl, by kernel_rfl, by kernel_rfl, by kernel_rfl⟩
          · obtain rfl : sb = true := by
              have h1 := hsb.out
              rw [← h1]
              unfold sameB
              rw [Bool.eq_iff_iff]
              simp
              omega
            have y1 : decide ((k : Int) < 2) = false := by simp; omega
            have y2 : ((k : Int) == 2) = false := by simp; omega
            have y4 : ((k : Int) == 3) = true := by simp; omega
            have y5 : ((i : Int) == 1) = true := by simp; omega
            clear z0 hsb
            go_wp2_with fail
            refine hK' _ _ trivial ⟨rfl, by kernel_rfl, rfl, by kernel_rfl, by kernel_rfl, by kernel_rfl, by kernel_rfl, by kernel_rfl, by kernel_rfl, by kernel_rfl, by kernel_rfl, by kernel_rfl, by kernel_rfl, by kernel_rfl⟩
          · obtain rfl : sb = false := by
              have h1 := hsb.out
              rw [← h1]
              unfold sameB
              rw [Bool.eq_iff_iff]
              simp
              omega
            have y1 : decide ((k : Int) < 2) = false := by simp; omega
            have y2 : ((k : Int) == 2) = false := by simp; omega
            have y4 : ((k : Int) == 3) = true := by simp; omega
            have y5 : ((i : Int) == 1) = false := by simp; omega
            clear z0 hsb
            go_wp2_with fail
            refine hK' _ _ trivial ⟨rfl, by kernel_rfl, rfl, by kernel_rfl, by kernel_rfl, by kernel_rfl, by kernel_rfl, by kernel_rfl, by kernel_rfl, by kernel_rfl, by kernel_rfl, by kernel_rfl, by kernel_rfl, by kernel_rfl⟩
        rintro a wx ⟨rfl, hs', hd', k0', k1', k5', k6', k7', k9', k11', k12', k13', k14', k118'⟩; rw [fr205 a hs' hd']; simp only [k0', k1', k5', k6', k7', k9', k11', k12', k13', k14', k118']; clear hs' hd' k0' k1' k5' k6' k7' k9' k11' k12' k13' k14' k118'
        go_wp2_with fail
        exact hK3.out (4 - (i + 1)) _ _ (by omega) ⟨i + 1, by omega, hR, by kernel_rfl, rfl, by kernel_rfl, by kernel_rfl, by kernel_rfl, by kernel_rfl, by kernel_rfl, by kernel_rfl, by kernel_rfl, by kernel_rfl, by kernel_rfl, by kernel_rfl⟩
      have g5 : decide ((i : Int) < 4) = false := by simp; omega
      have g6 : ¬ (i : Int) < 4 := by omega
      obtain ⟨d0, d1, d2, d3, dx, dp⟩ := hcl.out _ hb.out
      have hM10 := Lib.hid (hM9.out.below hb.out)
      have hcl0 : Hid (∀ W, Below wr.heap.size wr W → W.cell? ⟨bx, 0, none⟩ = some (.int .u8 r.s) ∧ W.cell? ⟨bp, 0, none⟩ = some (.int .u8 p.s) ∧ bx < W.heap.size ∧ bp < W.heap.size) := fun W hW => by
        obtain ⟨q0, q1, q2, q3, q4, q5⟩ := hcl.out _ (bthen hb.out hW)
        exact ⟨q0, q2, q4, q5⟩
      have hkx := Lib.hid (kx9.out.below hb.out lx)
      have hkp := Lib.hid (kp9.out.below hb.out lp)
      clear hM9 hcl hX9 hw9 kx9 kp9 lx lp hb
      have hjr : fr ≤ (j : Int) ∧ (j : Int) < 1000 := by have := hfr.out; omega
      have hfa := frame_at sd fr j hfr.out hjr
      generalize hbb : decide (k = 0 ∧ (j : Int) - fr < 114) = bb at *
      replace hbb := Lib.hid hbb
      have h26 : ((k : Int) == 0) = true ∧ (r.s != 0) = bb ∨ ((k : Int) == 0) = false ∧ bb = false := by
        by_cases z0 : k = 0
        · refine .inl ⟨by simp; omega, ?_⟩
          rw [hS.out.frame z0, hfa, ← hbb.out]
          by_cases z1 : (j : Int) - fr < 114
          · rw [if_pos z1]
            have := SL_pos sd ((j : Int) - fr).toNat (by omega)
            rw [decide_eq_true (show k = 0 ∧ (j : Int) - fr < 114 from ⟨z0, z1⟩)]
            simp
            omega
          · rw [if_neg z1, decide_eq_false (fun h => z1 h.2)]
            rfl
        · refine .inr ⟨by simp; omega, ?_⟩
          rw [← hbb.out, decide_eq_false (fun h => z0 h.1)]
      go_upto_region 26 with fail
      refine wp_cut (fun a wx => (wr = wx) ∧ a.tmps.size = 205 ∧ a.defers = [] ∧ slot a 0 = .int .u64 sd ∧ slot a 1 = .int .u8 fr ∧ slot a 5 = .slice (some ⟨w.heap.size, 0, none⟩) 4 4 ∧ slot a 6 = v ∧ slot a 7 = .int .i64 k ∧ slot a 9 = .pointer (some ⟨pm, 0, none⟩) ∧ slot a 11 = .int .i64 j ∧ slot a 12 = .pointer (some ⟨bp, 0, none⟩) ∧ slot a 13 = .pointer (some ⟨bx, 0, none⟩) ∧ slot a 125 = .bool bb) ?_ ?_
      · intro K' hK'
        rcases h26 with ⟨y1, y2⟩ | ⟨y1, y2⟩
        · go_wp2_with fail
          refine hK' _ _ trivial ⟨rfl, by kernel_rfl, rfl, by kernel_rfl, by kernel_rfl, by kernel_rfl, by kernel_rfl, by kernel_rfl, by kernel_rfl, by kernel_rfl, by kernel_rfl, by kernel_rfl, by kernel_rfl⟩
        · subst y2
          go_wp2_with fail
          refine hK' _ _ trivial ⟨rfl, by kernel_rfl, rfl, by kernel_rfl, by kernel_rfl, by kernel_rfl, by kernel_rfl, by kernel_rfl, by kernel_rfl, by kernel_rfl, by kernel_rfl, by kernel_rfl, by kernel_rfl⟩
      clear h26
      rintro a wx ⟨rfl, hs', hd', k0', k1', k5', k6', k7', k9', k11', k12', k13', k125'⟩; rw [fr205 a hs' hd']; simp only [k0', k1', k5', k6', k7', k9', k11', k12', k13', k125']; clear hs' hd' k0' k1' k5' k6' k7' k9' k11' k12' k13' k125'
      replace hfa := Lib.hid hfa
      go_upto_if 125 with fail
      refine wp_cut (fun a wx => (∃ v', slot a 6 = v' ∧ Hid (FrM w sd fr w.heap.size (kdOf k) v' (cntK k fr ((j + 1 : Nat) : Int)) pm bt bl (j + 1) wx) ∧ Hid (Blk wx bx #[.int .u8 r.s, .slice a8 4 k8] 40) ∧ Hid (Blk wx bp #[.int .u8 p.s, .slice a6 4 k6] 40)) ∧ a.tmps.size = 205 ∧ a.defers = [] ∧ slot a 0 = .int .u64 sd ∧ slot a 1 = .int .u8 fr ∧ slot a 5 = .slice (some ⟨w.heap.size, 0, none⟩) 4 4 ∧ slot a 7 = .int .i64 k ∧ slot a 9 = .pointer (some ⟨pm, 0, none⟩) ∧ slot a 11 = .int .i64 j ∧ slot a 12 = .pointer (some ⟨bp, 0, none⟩) ∧ slot a 13 = .pointer (some ⟨bx, 0, none⟩)) ?_ ?_
      · intro K' hK'
        cases bb with
        | false =>
          have hcn : cntK k fr ((j + 1 : Nat) : Int) = cntK k fr j := by
            have h1 := of_decide_eq_false hbb.out
            unfold cntK
            split
            · omega
            · rfl
          rw [← hcn] at hM10
          go_wp2_with fail
          refine hK' _ _ trivial ⟨⟨v, by kernel_rfl, hM10, hkx, hkp⟩, by kernel_rfl, rfl, by kernel_rfl, by kernel_rfl, by kernel_rfl, by kernel_rfl, by kernel_rfl, by kernel_rfl, by kernel_rfl, by kernel_rfl⟩
        | true =>
          obtain ⟨z0, z1⟩ := of_decide_eq_true hbb.out
          have hcn : cntK k fr ((j + 1 : Nat) : Int) = cntK k fr j + 1 := by
            unfold cntK
            rw [if_pos z0, if_pos z0]
            omega
          have hcj : cntK k fr j = ((j : Int) - fr).toNat := by
            unfold cntK
            rw [if_pos z0]
            omega
          have hrs : r.s = SL sd (cntK k fr j) := by
            rw [hS.out.frame z0, hfa.out, if_pos z1, hcj]
          have hc114 : cntK k fr j ≤ 114 := by omega
          rw [hcn] at hK'
          clear hcj hcn z0 z1
          generalize cntK k fr j = N at *
          replace hrs := Lib.hid hrs
          obtain ⟨i0, hi, hz0, hz1, hz2⟩ := info_parts elemS
          have hw := Lib.hid hM10.out.at_.own
          have hbs := hM10.out.at_.bel.size
          have hna := Lib.hid (Below.refl wr.heap.size wr)
          go_wp2_with (at_builtin; refine append_at rfl _ _ 47 rfl w.heap.size 35 i0 (.int .u8 0) 1 Try.underlying47 hi hz0 hz1 hz2 rfl _ _ _ rfl hw.out _ rfl rfl (by omega) (by omega) hbs ?_)
          intro v' w' hown1 hg1 hat1
          rw [hrs.out, ← nums_succ] at hown1
          have hba := below_alloc wr (.cells #[.int .u8 r.s] 35)
          have hwa := hw.out.alloc (.cells #[.int .u8 r.s] 35)
          have hM11 := Lib.hid ((hM10.out.below hba).app hg1 (by simpa using hat1) hown1)
          have hkg : ∀ b cs U, Blk (wr.alloc (.cells #[.int .u8 r.s] 35)) b cs U → U ≠ 35 → Blk w' b cs U := fun b cs U hb hU => (hg1.block b hb.lt fun e => by
            obtain ⟨cur, hc⟩ := ownsRow_blk hwa e.symm
            exact hc.ne hb (fun e => hU e.symm) rfl).trans hb
          have hkx2 := Lib.hid (hkg _ _ _ (hkx.out.below hba hkx.out.lt) (by decide))
          have hkp2 := Lib.hid (hkg _ _ _ (hkp.out.below hba hkp.out.lt) (by decide))
          clear hkg hwa hba hg1 hat1 hown1 hw hkx hkp hcl0 d0 d1 d2 d3
          go_wp2_with fail
          refine hK' _ _ trivial ⟨⟨v', by kernel_rfl, hM11, hkx2, hkp2⟩, by kernel_rfl, rfl, by kernel_rfl, by kernel_rfl, by kernel_rfl, by kernel_rfl, by kernel_rfl, by kernel_rfl, by kernel_rfl, by kernel_rfl⟩
      clear d0 d1 d2 d3 dx dp hM10 hcl0 hkx hkp hfa hbb
      rintro a wx ⟨⟨v', e6, hM11, hkx, hkp⟩, hs', hd', k0', k1', k5', k7', k9', k11', k12', k13'⟩; rw [fr205 a hs' hd']; simp only [k0', k1', k5', k7', k9', k11', k12', k13']; clear hs' hd' k0' k1' k5' k7' k9' k11' k12' k13'
      simp only [e6]
      clear e6
      have hcl : Hid (∀ W, Below wx.heap.size wx W → W.cell? ⟨bx, 0, none⟩ = some (.int .u8 r.s) ∧ W.cell? ⟨bp, 0, none⟩ = some (.int .u8 p.s)) := fun W hW =>
        ⟨(hkx.out.below hW hkx.out.lt).cell (i := 0) rfl, (hkp.out.below hW hkp.out.lt).cell (i := 0) rfl⟩
      have lx := hkx.out.lt
      have lp := hkp.out.lt
      have hbd : Below wx.heap.size wx wx.drew := below_drewN wx 1
      have fin : Hid (∀ W, Below wx.heap.size wx W → FrM w sd fr w.heap.size (kdOf k) v' (cntK k fr ((j + 1 : Nat) : Int)) pm bt bl (j + 1) W) := fun W hW => hM11.out.below hW
      clear hkx hkp hM11
      go_upto_region 28 with fail
      by_cases z0 : k = 1
      · have hrt : ¬ r.s = p.s → r.s = turnS p.s := fun h => by
          rcases hS.out.turn z0 with q | q
          · exact absurd (q.trans hps.out.symm) h
          · rw [q, hps.out]
        replace hrt := Lib.hid hrt
        subst z0
        have y1 : (((1 : Nat) : Int) == 1) = true := rfl
        by_cases z1 : r.s = p.s
        · have y2 : (r.s != p.s) = false := by simp [z1]
          refine wp_region_held_drew (S := fun W => W.cell? ⟨bx, 0, none⟩ = some (.int .u8 r.s) ∧ W.cell? ⟨bp, 0, none⟩ = some (.int .u8 p.s)) (by kernel_rfl) (hcl.out _ hbd) (fun hHeld => ?_)
          refine wpAnyH_take (i := 0) (oi := { dst := some 131, op := .move (.tmp 7), type := _, pos := _, after := _, guard := _ }) (v := ?_) rfl (by kernel_rfl) (by kernel_rfl) (by kernel_rfl) (fun _ _ _ h => h) (Or.inl ⟨by rfl, ?_⟩) (by assumption) ?_
          rotate_left
          · (intro w hSw; (try dsimp only at hSw); go_simp) <;> with_reducible rfl
          try simp only [Act.put, List.setIfInBounds_toArray, List.set_cons_zero, List.set_cons_succ]
          refine wpAnyH_take (i := 1) (oi := { dst := some 132, op := .binOp _ _ (.tmp 131) _ _, type := _, pos := _, after := _, guard := _ }) (v := ?_) rfl (by kernel_rfl) (by kernel_rfl) (by kernel_rfl) (fun _ _ _ h => h) (Or.inl ⟨by rfl, ?_⟩) (by assumption) ?_
          rotate_left
          · (intro w hSw; (try dsimp only at hSw); go_simp) <;> with_reducible rfl
          try simp only [Act.put, List.setIfInBounds_toArray, List.set_cons_zero, List.set_cons_succ]
          refine wpAnyH_take (i := 2) (oi := { dst := some 133, op := .move (.tmp 132), type := _, pos := _, after := _, guard := _ }) (v := ?_) rfl (by kernel_rfl) (by kernel_rfl) (by kernel_rfl) (fun _ _ _ h => h) (Or.inl ⟨by rfl, ?_⟩) (by assumption) ?_
          rotate_left
          · (intro w hSw; (try dsimp only at hSw); go_simp) <;> with_reducible rfl
          try simp only [Act.put, List.setIfInBounds_toArray, List.set_cons_zero, List.set_cons_succ]
          refine wpAnyH_take (i := 3) (oi := { dst := some 134, op := .fieldAddr _ (.tmp 13) 0, type := _, pos := _, after := _, guard := _ }) (v := ?_) rfl (by kernel_rfl) (by kernel_rfl) (by kernel_rfl) (fun _ _ _ h => h) (Or.inl ⟨by rfl, ?_⟩) (by assumption) ?_
          rotate_left
          · (intro w hSw; (try dsimp only at hSw); go_simp) <;> with_reducible rfl
          try simp only [Act.put, List.setIfInBounds_toArray, List.set_cons_zero, List.set_cons_succ]
          refine wpAnyH_take (i := 4) (oi := { dst := some 135, op := .load _ (.tmp 134), type := _, pos := _, after := _, guard := _ }) (v := ?_) rfl (by kernel_rfl) (by kernel_rfl) (by kernel_rfl) (fun _ _ _ h => h) (Or.inl ⟨by rfl, ?_⟩) (by assumption) ?_
          rotate_left
          · (intro w hSw; (try dsimp only at hSw); go_simp) <;> with_reducible rfl
          try simp only [Act.put, List.setIfInBounds_toArray, List.set_cons_zero, List.set_cons_succ]
          refine wpAnyH_take (i := 5) (oi := { dst := some 136, op := .fieldAddr _ (.tmp 12) 0, type := _, pos := _, after := _, guard := _ }) (v := ?_) rfl (by kernel_rfl) (by kernel_rfl) (by kernel_rfl) (fun _ _ _ h => h) (Or.inl ⟨by rfl, ?_⟩) (by assumption) ?_
          rotate_left
          · (intro w hSw; (try dsimp only at hSw); go_simp) <;> with_reducible rfl
          try simp only [Act.put, List.setIfInBounds_toArray, List.set_cons_zero, List.set_cons_succ]
          refine wpAnyH_take (i := 6) (oi := { dst := some 137, op := .load _ (.tmp 136), type := _, pos := _, after := _, guard := _ }) (v := ?_) rfl (by kernel_rfl) (by kernel_rfl) (by kernel_rfl) (fun _ _ _ h => h) (Or.inl ⟨by rfl, ?_⟩) (by assumption) ?_
          rotate_left
          · (intro w hSw; (try dsimp only at hSw); go_simp) <;> with_reducible rfl
          try simp only [Act.put, List.setIfInBounds_toArray, List.set_cons_zero, List.set_cons_succ]
          refine wpAnyH_take (i := 7) (oi := { dst := some 138, op := .binOp _ _ (.tmp 135) (.tmp 137) _, type := _, pos := _, after := _, guard := _ }) (v := ?_) rfl (by kernel_rfl) (by kernel_rfl) (by kernel_rfl) (fun _ _ _ h => h) (Or.inl ⟨by rfl, ?_⟩) (by assumption) ?_
          rotate_left
          · (intro w hSw; (try dsimp only at hSw); go_simp) <;> with_reducible rfl
          try simp only [Act.put, List.setIfInBounds_toArray, List.set_cons_zero, List.set_cons_succ]
          refine wpAnyH_take (i := 8) (oi := { dst := some 139, op := .pick (.tmp 133) (.tmp 138) _, type := _, pos := _, after := _, guard := _ }) (v := ?_) rfl (by kernel_rfl) (by kernel_rfl) (by kernel_rfl) (fun _ _ _ h => h) (Or.inl ⟨by rfl, ?_⟩) (by assumption) ?_
          rotate_left
          · (intro w hSw; (try dsimp only at hSw); go_simp) <;> with_reducible rfl
          try simp only [Act.put, List.setIfInBounds_toArray, List.set_cons_zero, List.set_cons_succ]
          refine wpAnyH_take (i := 9) (oi := { dst := some 140, op := .move (.tmp 139), type := _, pos := _, after := _, guard := _ }) (v := ?_) rfl (by kernel_rfl) (by kernel_rfl) (by kernel_rfl) (fun _ _ _ h => h) (Or.inl ⟨by rfl, ?_⟩) (by assumption) ?_
          rotate_left
          · (intro w hSw; (try dsimp only at hSw); go_simp) <;> with_reducible rfl
          try simp only [Act.put, List.setIfInBounds_toArray, List.set_cons_zero, List.set_cons_succ]
          refine wpAnyH_take (i := 10) (oi := { dst := some 141, op := .fieldAddr _ (.tmp 13) 0, type := _, pos := _, after := _, guard := _ }) (v := undef) rfl (by kernel_rfl) (by kernel_rfl) (by kernel_rfl) (fun _ _ _ h => h) (Or.inr ⟨by rfl, rfl⟩) (by assumption) ?_
          try simp only [Act.put, List.setIfInBounds_toArray, List.set_cons_zero, List.set_cons_succ]
          refine wpAnyH_take (i := 11) (oi := { dst := some 142, op := .load _ (.tmp 141), type := _, pos := _, after := _, guard := _ }) (v := undef) rfl (by kernel_rfl) (by kernel_rfl) (by kernel_rfl) (fun _ _ _ h => h) (Or.inr ⟨by rfl, rfl⟩) (by assumption) ?_
          try simp only [Act.put, List.setIfInBounds_toArray, List.set_cons_zero, List.set_cons_succ]
          refine wpAnyH_take (i := 12) (oi := { dst := some 143, op := .buildSlice 47 1 #[(0, .tmp 142)], type := _, pos := _, after := _, guard := _ }) (v := undef) rfl (by kernel_rfl) (by kernel_rfl) (by kernel_rfl) (fun _ _ _ h => h) (Or.inr ⟨by rfl, rfl⟩) (by assumption) ?_
          try simp only [Act.put, List.setIfInBounds_toArray, List.set_cons_zero, List.set_cons_succ]
          refine wpAnyH_take (i := 13) (oi := { dst := some 144, op := .fieldAddr _ (.tmp 12) 0, type := _, pos := _, after := _, guard := _ }) (v := undef) rfl (by kernel_rfl) (by kernel_rfl) (by kernel_rfl) (fun _ _ _ h => h) (Or.inr ⟨by rfl, rfl⟩) (by assumption) ?_
          try simp only [Act.put, List.setIfInBounds_toArray, List.set_cons_zero, List.set_cons_succ]
          refine wpAnyH_take (i := 14) (oi := { dst := some 145, op := .load _ (.tmp 144), type := _, pos := _, after := _, guard := _ }) (v := undef) rfl (by kernel_rfl) (by kernel_rfl) (by kernel_rfl) (fun _ _ _ h => h) (Or.inr ⟨by rfl, rfl⟩) (by assumption) ?_
          try simp only [Act.put, List.setIfInBounds_toArray, List.set_cons_zero, List.set_cons_succ]
          refine wpAnyH_take (i := 15) (oi := { dst := some 146, op := .buildSlice 47 1 #[(0, .tmp 145)], type := _, pos := _, after := _, guard := _ }) (v := undef) rfl (by kernel_rfl) (by kernel_rfl) (by kernel_rfl) (fun _ _ _ h => h) (Or.inr ⟨by rfl, rfl⟩) (by assumption) ?_
          try simp only [Act.put, List.setIfInBounds_toArray, List.set_cons_zero, List.set_cons_succ]
          refine wpAnyH_take (i := 16) (oi := { dst := some 147, op := .buildSlice 146 1 #[(0, .const (.int .i64 0))], type := _, pos := _, after := _, guard := _ }) (v := undef) rfl (by kernel_rfl) (by kernel_rfl) (by kernel_rfl) (fun _ _ _ h => h) (Or.inr ⟨by rfl, rfl⟩) (by assumption) ?_
          try simp only [Act.put, List.setIfInBounds_toArray, List.set_cons_zero, List.set_cons_succ]
          refine wpAnyH_take (i := 17) (oi := { dst := some 148, op := .call { callee := .value (.func 24), args := _, argTypes := _ }, type := _, pos := _, after := _, guard := _ }) (v := undef) rfl (by kernel_rfl) (by kernel_rfl) (by kernel_rfl) (fun _ _ _ h => h) (Or.inr ⟨by rfl, rfl⟩) (by assumption) ?_
          try simp only [Act.put, List.setIfInBounds_toArray, List.set_cons_zero, List.set_cons_succ]
          refine wpAnyH_take (i := 18) (oi := { dst := some 149, op := .call { callee := .value (.func 23), args := _, argTypes := _ }, type := _, pos := _, after := _, guard := _ }) (v := undef) rfl (by kernel_rfl) (by kernel_rfl) (by kernel_rfl) (fun _ _ _ h => h) (Or.inr ⟨by rfl, rfl⟩) (by assumption) ?_
          try simp only [Act.put, List.setIfInBounds_toArray, List.set_cons_zero, List.set_cons_succ]
          refine wpAnyH_take (i := 19) (oi := { dst := some 150, op := .unOp _ _ (.tmp 149), type := _, pos := _, after := _, guard := _ }) (v := undef) rfl (by kernel_rfl) (by kernel_rfl) (by kernel_rfl) (fun _ _ _ h => h) (Or.inr ⟨by rfl, rfl⟩) (by assumption) ?_
          try simp only [Act.put, List.setIfInBounds_toArray, List.set_cons_zero, List.set_cons_succ]
          refine wpAnyH_take (i := 20) (oi := { dst := some 151, op := .pick (.tmp 140) (.tmp 150) _, type := _, pos := _, after := _, guard := _ }) (v := ?_) rfl (by kernel_rfl) (by kernel_rfl) (by kernel_rfl) (fun _ _ _ h => h) (Or.inl ⟨by rfl, ?_⟩) (by assumption) ?_
          rotate_left
          · (intro w hSw; (try dsimp only at hSw); go_simp) <;> with_reducible rfl
          try simp only [Act.put, List.setIfInBounds_toArray, List.set_cons_zero, List.set_cons_succ]
          refine wpAnyH_done (by kernel_rfl) ?_ _
          have hV := Lib.hid (fin.out _ hbd)
          clear hHeld hcl fin
          go_wp2_with fail
          exact hK2.out ((fr + 120).toNat - (j + 1)) _ _ (by omega) ⟨j + 1, v', by omega, hV, by kernel_rfl, rfl, by kernel_rfl, by kernel_rfl, by kernel_rfl, by kernel_rfl, by kernel_rfl, by kernel_rfl, by kernel_rfl⟩
        · have y2 : (r.s != p.s) = true := by simp [z1]
          replace hrt := Lib.hid (hrt.out z1)
          clear z1
          have hc := Lib.hid hbd
          refine wp_region_held_drew (S := fun W => W.cell? ⟨bx, 0, none⟩ = some (.int .u8 r.s) ∧ W.cell? ⟨bp, 0, none⟩ = some (.int .u8 p.s)) (by kernel_rfl) (hcl.out _ hbd) (fun hHeld => ?_)
          generalize wx.drew = wz0 at *
          refine wpAnyH_take (i := 0) (oi := { dst := some 131, op := .move (.tmp 7), type := _, pos := _, after := _, guard := _ }) (v := ?_) rfl (by kernel_rfl) (by kernel_rfl) (by kernel_rfl) (fun _ _ _ h => h) (Or.inl ⟨by rfl, ?_⟩) (by assumption) ?_
          rotate_left
          · (intro w hSw; (try dsimp only at hSw); go_simp) <;> with_reducible rfl
          try simp only [Act.put, List.setIfInBounds_toArray, List.set_cons_zero, List.set_cons_succ]
          refine wpAnyH_take (i := 1) (oi := { dst := some 132, op := .binOp _ _ (.tmp 131) _ _, type := _, pos := _, after := _, guard := _ }) (v := ?_) rfl (by kernel_rfl) (by kernel_rfl) (by kernel_rfl) (fun _ _ _ h => h) (Or.inl ⟨by rfl, ?_⟩) (by assumption) ?_
          rotate_left
          · (intro w hSw; (try dsimp only at hSw); go_simp) <;> with_reducible rfl
          try simp only [Act.put, List.setIfInBounds_toArray, List.set_cons_zero, List.set_cons_succ]
          refine wpAnyH_take (i := 2) (oi := { dst := some 133, op := .move (.tmp 132), type := _, pos := _, after := _, guard := _ }) (v := ?_) rfl (by kernel_rfl) (by kernel_rfl) (by kernel_rfl) (fun _ _ _ h => h) (Or.inl ⟨by rfl, ?_⟩) (by assumption) ?_
          rotate_left
          · (intro w hSw; (try dsimp only at hSw); go_simp) <;> with_reducible rfl
          try simp only [Act.put, List.setIfInBounds_toArray, List.set_cons_zero, List.set_cons_succ]
          refine wpAnyH_take (i := 3) (oi := { dst := some 134, op := .fieldAddr _ (.tmp 13) 0, type := _, pos := _, after := _, guard := _ }) (v := ?_) rfl (by kernel_rfl) (by kernel_rfl) (by kernel_rfl) (fun _ _ _ h => h) (Or.inl ⟨by rfl, ?_⟩) (by assumption) ?_
          rotate_left
          · (intro w hSw; (try dsimp only at hSw); go_simp) <;> with_reducible rfl
          try simp only [Act.put, List.setIfInBounds_toArray, List.set_cons_zero, List.set_cons_succ]
          refine wpAnyH_take (i := 4) (oi := { dst := some 135, op := .load _ (.tmp 134), type := _, pos := _, after := _, guard := _ }) (v := ?_) rfl (by kernel_rfl) (by kernel_rfl) (by kernel_rfl) (fun _ _ _ h => h) (Or.inl ⟨by rfl, ?_⟩) (by assumption) ?_
          rotate_left
          · (intro w hSw; (try dsimp only at hSw); go_simp) <;> with_reducible rfl
          try simp only [Act.put, List.setIfInBounds_toArray, List.set_cons_zero, List.set_cons_succ]
          refine wpAnyH_take (i := 5) (oi := { dst := some 136, op := .fieldAddr _ (.tmp 12) 0, type := _, pos := _, after := _, guard := _ }) (v := ?_) rfl (by kernel_rfl) (by kernel_rfl) (by kernel_rfl) (fun _ _ _ h => h) (Or.inl ⟨by rfl, ?_⟩) (by assumption) ?_
          rotate_left
          · (intro w hSw; (try dsimp only at hSw); go_simp) <;> with_reducible rfl
          try simp only [Act.put, List.setIfInBounds_toArray, List.set_cons_zero, List.set_cons_succ]
          refine wpAnyH_take (i := 6) (oi := { dst := some 137, op := .load _ (.tmp 136), type := _, pos := _, after := _, guard := _ }) (v := ?_) rfl (by kernel_rfl) (by kernel_rfl) (by kernel_rfl) (fun _ _ _ h => h) (Or.inl ⟨by rfl, ?_⟩) (by assumption) ?_
          rotate_left
          · (intro w hSw; (try dsimp only at hSw); go_simp) <;> with_reducible rfl
          try simp only [Act.put, List.setIfInBounds_toArray, List.set_cons_zero, List.set_cons_succ]
          refine wpAnyH_take (i := 7) (oi := { dst := some 138, op := .binOp _ _ (.tmp 135) (.tmp 137) _, type := _, pos := _, after := _, guard := _ }) (v := ?_) rfl (by kernel_rfl) (by kernel_rfl) (by kernel_rfl) (fun _ _ _ h => h) (Or.inl ⟨by rfl, ?_⟩) (by assumption) ?_
          rotate_left
          · (intro w hSw; (try dsimp only at hSw); go_simp) <;> with_reducible rfl
          try simp only [Act.put, List.setIfInBounds_toArray, List.set_cons_zero, List.set_cons_succ]
          refine wpAnyH_take (i := 8) (oi := { dst := some 139, op := .pick (.tmp 133) (.tmp 138) _, type := _, pos := _, after := _, guard := _ }) (v := ?_) rfl (by kernel_rfl) (by kernel_rfl) (by kernel_rfl) (fun _ _ _ h => h) (Or.inl ⟨by rfl, ?_⟩) (by assumption) ?_
          rotate_left
          · (intro w hSw; (try dsimp only at hSw); go_simp) <;> with_reducible rfl
          try simp only [Act.put, List.setIfInBounds_toArray, List.set_cons_zero, List.set_cons_succ]
          refine wpAnyH_take (i := 9) (oi := { dst := some 140, op := .move (.tmp 139), type := _, pos := _, after := _, guard := _ }) (v := ?_) rfl (by kernel_rfl) (by kernel_rfl) (by kernel_rfl) (fun _ _ _ h => h) (Or.inl ⟨by rfl, ?_⟩) (by assumption) ?_
          rotate_left
          · (intro w hSw; (try dsimp only at hSw); go_simp) <;> with_reducible rfl
          try simp only [Act.put, List.setIfInBounds_toArray, List.set_cons_zero, List.set_cons_succ]
          refine wpAnyH_take (i := 10) (oi := { dst := some 141, op := .fieldAddr _ (.tmp 13) 0, type := _, pos := _, after := _, guard := _ }) (v := ?_) rfl (by kernel_rfl) (by kernel_rfl) (by kernel_rfl) (fun _ _ _ h => h) (Or.inl ⟨by rfl, ?_⟩) (by assumption) ?_
          rotate_left
          · (intro w hSw; (try dsimp only at hSw); go_simp) <;> with_reducible rfl
          try simp only [Act.put, List.setIfInBounds_toArray, List.set_cons_zero, List.set_cons_succ]
          refine wpAnyH_take (i := 11) (oi := { dst := some 142, op := .load _ (.tmp 141), type := _, pos := _, after := _, guard := _ }) (v := ?_) rfl (by kernel_rfl) (by kernel_rfl) (by kernel_rfl) (fun _ _ _ h => h) (Or.inl ⟨by rfl, ?_⟩) (by assumption) ?_
          rotate_left
          · (intro w hSw; (try dsimp only at hSw); go_simp) <;> with_reducible rfl
          try simp only [Act.put, List.setIfInBounds_toArray, List.set_cons_zero, List.set_cons_succ]
          refine wpAnyH_take (i := 13) (oi := { dst := some 144, op := .fieldAddr _ (.tmp 12) 0, type := _, pos := _, after := _, guard := _ }) (v := ?_) rfl (by kernel_rfl) (by kernel_rfl) (by kernel_rfl) (fun _ _ _ h => h) (Or.inl ⟨by rfl, ?_⟩) (by assumption) ?_
          rotate_left
          · (intro w hSw; (try dsimp only at hSw); go_simp) <;> with_reducible rfl
          try simp only [Act.put, List.setIfInBounds_toArray, List.set_cons_zero, List.set_cons_succ]
          refine wpAnyH_take (i := 14) (oi := { dst := some 145, op := .load _ (.tmp 144), type := _, pos := _, after := _, guard := _ }) (v := ?_) rfl (by kernel_rfl) (by kernel_rfl) (by kernel_rfl) (fun _ _ _ h => h) (Or.inl ⟨by rfl, ?_⟩) (by assumption) ?_
          rotate_left
          · (intro w hSw; (try dsimp only at hSw); go_simp) <;> with_reducible rfl
          try simp only [Act.put, List.setIfInBounds_toArray, List.set_cons_zero, List.set_cons_succ]
          refine wpAnyH_ready (rs := [12, 15, 16]) (by kernel_rfl) (by simp) ?_
          refine AllReadyH.cons (o := { dst := some 143, op := .buildSlice 47 1 #[(0, .tmp 142)], type := _, pos := _, after := _, guard := _ }) rfl (fun K6 hK6 => ?_) ?_
          · go_simp
            have hc' := Lib.hid (bthen hc.out (below_alloc wz0 (.cells #[.int .u8 r.s] 35)))
            have k12 := Lib.hid (Blk.new wz0 #[.int .u8 r.s] 35)
            refine hK6.out _ _ (hcl.out _ hc'.out) (fun hHeld => ?_)
            clear hK6 K6
            generalize wz0.alloc (.cells #[.int .u8 r.s] 35) = wz1 at *
            generalize wz0.heap.size = g12 at *
            replace hc := hc'
            clear hc'
            try simp only [Act.put, List.setIfInBounds_toArray, List.set_cons_zero, List.set_cons_succ]
            refine wpAnyH_ready (rs := [15, 16]) (by kernel_rfl) (by simp) ?_
            refine AllReadyH.cons (o := { dst := some 146, op := .buildSlice 47 1 #[(0, .tmp 145)], type := _, pos := _, after := _, guard := _ }) rfl (fun K6 hK6 => ?_) ?_
            · go_simp
              have hc' := Lib.hid (bthen hc.out (below_alloc wz1 (.cells #[.int .u8 p.s] 35)))
              replace k12 := Lib.hid (k12.out.below (below_alloc wz1 (.cells #[.int .u8 p.s] 35)) k12.out.lt)
              have k15 := Lib.hid (Blk.new wz1 #[.int .u8 p.s] 35)
              refine hK6.out _ _ (hcl.out _ hc'.out) (fun hHeld => ?_)
              clear hK6 K6
              generalize wz1.alloc (.cells #[.int .u8 p.s] 35) = wz2 at *
              generalize wz1.heap.size = g15 at *
              replace hc := hc'
              clear hc'
              try simp only [Act.put, List.setIfInBounds_toArray, List.set_cons_zero, List.set_cons_succ]
              refine wpAnyH_ready (rs := [16]) (by kernel_rfl) (by simp) ?_
              refine AllReadyH.cons (o := { dst := some 147, op := .buildSlice 146 1 #[(0, .const (.int .i64 0))], type := _, pos := _, after := _, guard := _ }) rfl (fun K6 hK6 => ?_) AllReadyH.nil
              go_simp
              have hc' := Lib.hid (bthen hc.out (below_alloc wz2 (.cells #[.int .i64 0] 3)))
              replace k12 := Lib.hid (k12.out.below (below_alloc wz2 (.cells #[.int .i64 0] 3)) k12.out.lt)
              replace k15 := Lib.hid (k15.out.below (below_alloc wz2 (.cells #[.int .i64 0] 3)) k15.out.lt)
              have k16 := Lib.hid (Blk.new wz2 #[.int .i64 0] 3)
              refine hK6.out _ _ (hcl.out _ hc'.out) (fun hHeld => ?_)
              clear hK6 K6
              generalize wz2.alloc (.cells #[.int .i64 0] 3) = wz3 at *
              generalize wz2.heap.size = g16 at *
              replace hc := hc'
              clear hc'
              try simp only [Act.put, List.setIfInBounds_toArray, List.set_cons_zero, List.set_cons_succ]
              refine wpAnyH_ready (rs := [17]) (by kernel_rfl) (by simp) ?_
              refine AllReadyH.cons (o := { dst := some 148, op := .call { callee := .value (.func 24), args := _, argTypes := _ }, type := _, pos := _, after := _, guard := _ }) rfl (fun K6 hK6 => ?_) AllReadyH.nil
              go_simp
              refine (bitsTurn wz3 (some ⟨g15, 0, none⟩) 1 1 (fun _ => p.s) (some ⟨g16, 0, none⟩) 1 1 (fun _ => 0) (rd_one k15.out) (rd_one k16.out) (by simp) (by omega) (by omega)).mono ?_
              rintro e wz4 ⟨al, rfl, hMi, hbt⟩
              obtain ⟨gT, cuT, rfl, hg1, hg2, hg3, hg4⟩ := hMi (by omega)
              have hv := hg4 0 (by omega)
              rw [turn_one, ← hrt.out] at hv
              have hcT := hg2.cell hv
              have hc' := Lib.hid (bthen hc.out hbt)
              replace k12 := Lib.hid (k12.out.below (hbt) k12.out.lt)
              replace k15 := Lib.hid (k15.out.below (hbt) k15.out.lt)
              replace k16 := Lib.hid (k16.out.below (hbt) k16.out.lt)
              have kT : Hid (Rd .u8 wz4 (some ⟨gT, 0, none⟩) 1 (fun _ => r.s)) := fun q hq => by
                obtain rfl : q = 0 := by omega
                exact ⟨gT, 0, rfl, hcT⟩
              clear hMi hbt hg1 hg2 hg3 hg4 hv hcT
              refine hK6.out _ _ (hcl.out _ hc'.out) (fun hHeld => ?_)
              clear hK6 K6
              replace hc := hc'
              clear hc'
              try simp only [Act.put, List.setIfInBounds_toArray, List.set_cons_zero, List.set_cons_succ]
              refine wpAnyH_ready (rs := [18]) (by kernel_rfl) (by simp) ?_
              refine AllReadyH.cons (o := { dst := some 149, op := .call { callee := .value (.func 23), args := _, argTypes := _ }, type := _, pos := _, after := _, guard := _ }) rfl (fun K6 hK6 => ?_) AllReadyH.nil
              go_simp
              refine (sameSyms wz4 _ _ _ _ _ _ (rd_one k12.out) kT.out (by omega)).mono ?_
              rintro e wz5 ⟨rfl, q, rfl⟩
              have hc' := Lib.hid (bthen hc.out (below_drewN wz4 q))
              refine hK6.out _ _ (hcl.out _ hc'.out) (fun hHeld => ?_)
              clear hK6 K6 k12 kT k15 k16
              generalize wz4.drewN q = wz5z at *
              replace hc := hc'
              clear hc'
              try simp only [Act.put, List.setIfInBounds_toArray, List.set_cons_zero, List.set_cons_succ]
              refine wpAnyH_take (i := 19) (oi := { dst := some 150, op := .unOp _ _ (.tmp 149), type := _, pos := _, after := _, guard := _ }) (v := ?_) rfl (by kernel_rfl) (by kernel_rfl) (by kernel_rfl) (fun _ _ _ h => h) (Or.inl ⟨by rfl, ?_⟩) (by assumption) ?_
              rotate_left
              · (intro w hSw; (try dsimp only at hSw); go_simp) <;> with_reducible rfl
              try simp only [Act.put, List.setIfInBounds_toArray, List.set_cons_zero, List.set_cons_succ]
              refine wpAnyH_take (i := 20) (oi := { dst := some 151, op := .pick (.tmp 140) (.tmp 150) _, type := _, pos := _, after := _, guard := _ }) (v := ?_) rfl (by kernel_rfl) (by kernel_rfl) (by kernel_rfl) (fun _ _ _ h => h) (Or.inl ⟨by rfl, ?_⟩) (by assumption) ?_
              rotate_left
              · (intro w hSw; (try dsimp only at hSw); go_simp) <;> with_reducible rfl
              try simp only [Act.put, List.setIfInBounds_toArray, List.set_cons_zero, List.set_cons_succ]
              refine wpAnyH_done (by kernel_rfl) ?_ _
              have hV := Lib.hid (fin.out _ hc.out)
              clear hHeld hcl fin
              go_wp2_with fail
              exact hK2.out ((fr + 120).toNat - (j + 1)) _ _ (by omega) ⟨j + 1, v', by omega, hV, by kernel_rfl, rfl, by kernel_rfl, by kernel_rfl, by kernel_rfl, by kernel_rfl, by kernel_rfl, by kernel_rfl, by kernel_rfl⟩
            refine AllReadyH.cons (o := { dst := some 147, op := .buildSlice 146 1 #[(0, .const (.int .i64 0))], type := _, pos := _, after := _, guard := _ }) rfl (fun K6 hK6 => ?_) AllReadyH.nil
            go_simp
            have hc' := Lib.hid (bthen hc.out (below_alloc wz1 (.cells #[.int .i64 0] 3)))
            replace k12 := Lib.hid (k12.out.below (below_alloc wz1 (.cells #[.int .i64 0] 3)) k12.out.lt)
            have k16 := Lib.hid (Blk.new wz1 #[.int .i64 0] 3)
            refine hK6.out _ _ (hcl.out _ hc'.out) (fun hHeld => ?_)
            clear hK6 K6
            generalize wz1.alloc (.cells #[.int .i64 0] 3) = wz2 at *
            generalize wz1.heap.size = g16 at *
            replace hc := hc'
            clear hc'
            try simp only [Act.put, List.setIfInBounds_toArray, List.set_cons_zero, List.set_cons_succ]
            refine wpAnyH_ready (rs := [15]) (by kernel_rfl) (by simp) ?_
            refine AllReadyH.cons (o := { dst := some 146, op := .buildSlice 47 1 #[(0, .tmp 145)], type := _, pos := _, after := _, guard := _ }) rfl (fun K6 hK6 => ?_) AllReadyH.nil
            go_simp
            have hc' := Lib.hid (bthen hc.out (below_alloc wz2 (.cells #[.int .u8 p.s] 35)))
            replace k12 := Lib.hid (k12.out.below (below_alloc wz2 (.cells #[.int .u8 p.s] 35)) k12.out.lt)
            replace k16 := Lib.hid (k16.out.below (below_alloc wz2 (.cells #[.int .u8 p.s] 35)) k16.out.lt)
            have k15 := Lib.hid (Blk.new wz2 #[.int .u8 p.s] 35)
            refine hK6.out _ _ (hcl.out _ hc'.out) (fun hHeld => ?_)
            clear hK6 K6
            generalize wz2.alloc (.cells #[.int .u8 p.s] 35) = wz3 at *
            generalize wz2.heap.size = g15 at *
            replace hc := hc'
            clear hc'
            try simp only [Act.put, List.setIfInBounds_toArray, List.set_cons_zero, List.set_cons_succ]
            refine wpAnyH_ready (rs := [17]) (by kernel_rfl) (by simp) ?_
            refine AllReadyH.cons (o := { dst := some 148, op := .call { callee := .value (.func 24), args := _, argTypes := _ }, type := _, pos := _, after := _, guard := _ }) rfl (fun K6 hK6 => ?_) AllReadyH.nil
            go_simp
            refine (bitsTurn wz3 (some ⟨g15, 0, none⟩) 1 1 (fun _ => p.s) (some ⟨g16, 0, none⟩) 1 1 (fun _ => 0) (rd_one k15.out) (rd_one k16.out) (by simp) (by omega) (by omega)).mono ?_
            rintro e wz4 ⟨al, rfl, hMi, hbt⟩
            obtain ⟨gT, cuT, rfl, hg1, hg2, hg3, hg4⟩ := hMi (by omega)
            have hv := hg4 0 (by omega)
            rw [turn_one, ← hrt.out] at hv
            have hcT := hg2.cell hv
            have hc' := Lib.hid (bthen hc.out hbt)
            replace k12 := Lib.hid (k12.out.below (hbt) k12.out.lt)
            replace k15 := Lib.hid (k15.out.below (hbt) k15.out.lt)
            replace k16 := Lib.hid (k16.out.below (hbt) k16.out.lt)
            have kT : Hid (Rd .u8 wz4 (some ⟨gT, 0, none⟩) 1 (fun _ => r.s)) := fun q hq => by
              obtain rfl : q = 0 := by omega
              exact ⟨gT, 0, rfl, hcT⟩
            clear hMi hbt hg1 hg2 hg3 hg4 hv hcT
            refine hK6.out _ _ (hcl.out _ hc'.out) (fun hHeld => ?_)
            clear hK6 K6
            replace hc := hc'
            clear hc'
            try simp only [Act.put, List.setIfInBounds_toArray, List.set_cons_zero, List.set_cons_succ]
            refine wpAnyH_ready (rs := [18]) (by kernel_rfl) (by simp) ?_
            refine AllReadyH.cons (o := { dst := some 149, op := .call { callee := .value (.func 23), args := _, argTypes := _ }, type := _, pos := _, after := _, guard := _ }) rfl (fun K6 hK6 => ?_) AllReadyH.nil
            go_simp
            refine (sameSyms wz4 _ _ _ _ _ _ (rd_one k12.out) kT.out (by omega)).mono ?_
            rintro e wz5 ⟨rfl, q, rfl⟩
            have hc' := Lib.hid (bthen hc.out (below_drewN wz4 q))
            refine hK6.out _ _ (hcl.out _ hc'.out) (fun hHeld => ?_)
            clear hK6 K6 k12 kT k15 k16
            generalize wz4.drewN q = wz5z at *
            replace hc := hc'
            clear hc'
            try simp only [Act.put, List.setIfInBounds_toArray, List.set_cons_zero, List.set_cons_succ]
            refine wpAnyH_take (i := 19) (oi := { dst := some 150, op := .unOp _ _ (.tmp 149), type := _, pos := _, after := _, guard := _ }) (v := ?_) rfl (by kernel_rfl) (by kernel_rfl) (by kernel_rfl) (fun _ _ _ h => h) (Or.inl ⟨by rfl, ?_⟩) (by assumption) ?_
            rotate_left
            · (intro w hSw; (try dsimp only at hSw); go_simp) <;> with_reducible rfl
            try simp only [Act.put, List.setIfInBounds_toArray, List.set_cons_zero, List.set_cons_succ]
            refine wpAnyH_take (i := 20) (oi := { dst := some 151, op := .pick (.tmp 140) (.tmp 150) _, type := _, pos := _, after := _, guard := _ }) (v := ?_) rfl (by kernel_rfl) (by kernel_rfl) (by kernel_rfl) (fun _ _ _ h => h) (Or.inl ⟨by rfl, ?_⟩) (by assumption) ?_
            rotate_left
            · (intro w hSw; (try dsimp only at hSw); go_simp) <;> with_reducible rfl
            try simp only [Act.put, List.setIfInBounds_toArray, List.set_cons_zero, List.set_cons_succ]
            refine wpAnyH_done (by kernel_rfl) ?_ _
            have hV := Lib.hid (fin.out _ hc.out)
            clear hHeld hcl fin
            go_wp2_with fail
            exact hK2.out ((fr + 120).toNat - (j + 1)) _ _ (by omega) ⟨j + 1, v', by omega, hV, by kernel_rfl, rfl, by kernel_rfl, by kernel_rfl, by kernel_rfl, by kernel_rfl, by kernel_rfl, by kernel_rfl, by kernel_rfl⟩
          refine AllReadyH.cons (o := { dst := some 146, op := .buildSlice 47 1 #[(0, .tmp 145)], type := _, pos := _, after := _, guard := _ }) rfl (fun K6 hK6 => ?_) ?_
          · go_simp
            have hc' := Lib.hid (bthen hc.out (below_alloc wz0 (.cells #[.int .u8 p.s] 35)))
            have k15 := Lib.hid (Blk.new wz0 #[.int .u8 p.s] 35)
            refine hK6.out _ _ (hcl.out _ hc'.out) (fun hHeld => ?_)
            clear hK6 K6
            generalize wz0.alloc (.cells #[.int .u8 p.s] 35) = wz1 at *
            generalize wz0.heap.size = g15 at *
            replace hc := hc'
            clear hc'
            try simp only [Act.put, List.setIfInBounds_toArray, List.set_cons_zero, List.set_cons_succ]
            refine wpAnyH_ready (rs := [12, 16]) (by kernel_rfl) (by simp) ?_
            refine AllReadyH.cons (o := { dst := some 143, op := .buildSlice 47 1 #[(0, .tmp 142)], type := _, pos := _, after := _, guard := _ }) rfl (fun K6 hK6 => ?_) ?_
            · go_simp
              have hc' := Lib.hid (bthen hc.out (below_alloc wz1 (.cells #[.int .u8 r.s] 35)))
              replace k15 := Lib.hid (k15.out.below (below_alloc wz1 (.cells #[.int .u8 r.s] 35)) k15.out.lt)
              have k12 := Lib.hid (Blk.new wz1 #[.int .u8 r.s] 35)
              refine hK6.out _ _ (hcl.out _ hc'.out) (fun hHeld => ?_)
              clear hK6 K6
              generalize wz1.alloc (.cells #[.int .u8 r.s] 35) = wz2 at *
              generalize wz1.heap.size = g12 at *
              replace hc := hc'
              clear hc'
              try simp only [Act.put, List.setIfInBounds_toArray, List.set_cons_zero, List.set_cons_succ]
              refine wpAnyH_ready (rs := [16]) (by kernel_rfl) (by simp) ?_
              refine AllReadyH.cons (o := { dst := some 147, op := .buildSlice 146 1 #[(0, .const (.int .i64 0))], type := _, pos := _, after := _, guard := _ }) rfl (fun K6 hK6 => ?_) AllReadyH.nil
              go_simp
              have hc' := Lib.hid (bthen hc.out (below_alloc wz2 (.cells #[.int .i64 0] 3)))
              replace k12 := Lib.hid (k12.out.below (below_alloc wz2 (.cells #[.int .i64 0] 3)) k12.out.lt)
              replace k15 := Lib.hid (k15.out.below (below_alloc wz2 (.cells #[.int .i64 0] 3)) k15.out.lt)
              have k16 := Lib.hid (Blk.new wz2 #[.int .i64 0] 3)
              refine hK6.out _ _ (hcl.out _ hc'.out) (fun hHeld => ?_)
              clear hK6 K6
              generalize wz2.alloc (.cells #[.int .i64 0] 3) = wz3 at *
              generalize wz2.heap.size = g16 at *
              replace hc := hc'
              clear hc'
              try simp only [Act.put, List.setIfInBounds_toArray, List.set_cons_zero, List.set_cons_succ]
              refine wpAnyH_ready (rs := [17]) (by kernel_rfl) (by simp) ?_
              refine AllReadyH.cons (o := { dst := some 148, op := .call { callee := .value (.func 24), args := _, argTypes := _ }, type := _, pos := _, after := _, guard := _ }) rfl (fun K6 hK6 => ?_) AllReadyH.nil
              go_simp
              refine (bitsTurn wz3 (some ⟨g15, 0, none⟩) 1 1 (fun _ => p.s) (some ⟨g16, 0, none⟩) 1 1 (fun _ => 0) (rd_one k15.out) (rd_one k16.out) (by simp) (by omega) (by omega)).mono ?_
              rintro e wz4 ⟨al, rfl, hMi, hbt⟩
              obtain ⟨gT, cuT, rfl, hg1, hg2, hg3, hg4⟩ := hMi (by omega)
              have hv := hg4 0 (by omega)
              rw [turn_one, ← hrt.out] at hv
              have hcT := hg2.cell hv
              have hc' := Lib.hid (bthen hc.out hbt)
              replace k12 := Lib.hid (k12.out.below (hbt) k12.out.lt)
              replace k15 := Lib.hid (k15.out.below (hbt) k15.out.lt)
              replace k16 := Lib.hid (k16.out.below (hbt) k16.out.lt)
              have kT : Hid (Rd .u8 wz4 (some ⟨gT, 0, none⟩) 1 (fun _ => r.s)) := fun q hq => by
                obtain rfl : q = 0 := by omega
                exact ⟨gT, 0, rfl, hcT⟩
              clear hMi hbt hg1 hg2 hg3 hg4 hv hcT
              refine hK6.out _ _ (hcl.out _ hc'.out) (fun hHeld => ?_)
              clear hK6 K6
              replace hc := hc'
              clear hc'
              try simp only [Act.put, List.setIfInBounds_toArray, List.set_cons_zero, List.set_cons_succ]
              refine wpAnyH_ready (rs := [18]) (by kernel_rfl) (by simp) ?_
              refine AllReadyH.cons (o := { dst := some 149, op := .call { callee := .value (.func 23), args := _, argTypes := _ }, type := _, pos := _, after := _, guard := _ }) rfl (fun K6 hK6 => ?_) AllReadyH.nil
              go_simp
              refine (sameSyms wz4 _ _ _ _ _ _ (rd_one k12.out) kT.out (by omega)).mono ?_
              rintro e wz5 ⟨rfl, q, rfl⟩
              have hc' := Lib.hid (bthen hc.out (below_drewN wz4 q))
              refine hK6.out _ _ (hcl.out _ hc'.out) (fun hHeld => ?_)
              clear hK6 K6 k12 kT k15 k16
              generalize wz4.drewN q = wz5z at *
              replace hc := hc'
              clear hc'
              try simp only [Act.put, List.setIfInBounds_toArray, List.set_cons_zero, List.set_cons_succ]
              refine wpAnyH_take (i := 19) (oi := { dst := some 150, op := .unOp _ _ (.tmp 149), type := _, pos := _, after := _, guard := _ }) (v := ?_) rfl (by kernel_rfl) (by kernel_rfl) (by kernel_rfl) (fun _ _ _ h => h) (Or.inl ⟨by rfl, ?_⟩) (by assumption) ?_
              rotate_left
              · (intro w hSw; (try dsimp only at hSw); go_simp) <;> with_reducible rfl
              try simp only [Act.put, List.setIfInBounds_toArray, List.set_cons_zero, List.set_cons_succ]
              refine wpAnyH_take (i := 20) (oi := { dst := some 151, op := .pick (.tmp 140) (.tmp 150) _, type := _, pos := _, after := _, guard := _ }) (v := ?_) rfl (by kernel_rfl) (by kernel_rfl) (by kernel_rfl) (fun _ _ _ h => h) (Or.inl ⟨by rfl, ?_⟩) (by assumption) ?_
              rotate_left
              · (intro w hSw; (try dsimp only at hSw); go_simp) <;> with_reducible rfl
              try simp only [Act.put, List.setIfInBounds_toArray, List.set_cons_zero, List.set_cons_succ]
              refine wpAnyH_done (by kernel_rfl) ?_ _
              have hV := Lib.hid (fin.out _ hc.out)
              clear hHeld hcl fin
              go_wp2_with fail
              exact hK2.out ((fr + 120).toNat - (j + 1)) _ _ (by omega) ⟨j + 1, v', by omega, hV, by kernel_rfl, rfl, by kernel_rfl, by kernel_rfl, by kernel_rfl, by kernel_rfl, by kernel_rfl, by kernel_rfl, by kernel_rfl⟩
            refine AllReadyH.cons (o := { dst := some 147, op := .buildSlice 146 1 #[(0, .const (.int .i64 0))], type := _, pos := _, after := _, guard := _ }) rfl (fun K6 hK6 => ?_) AllReadyH.nil
            go_simp
            have hc' := Lib.hid (bthen hc.out (below_alloc wz1 (.cells #[.int .i64 0] 3)))
            replace k15 := Lib.hid (k15.out.below (below_alloc wz1 (.cells #[.int .i64 0] 3)) k15.out.lt)
            have k16 := Lib.hid (Blk.new wz1 #[.int .i64 0] 3)
            refine hK6.out _ _ (hcl.out _ hc'.out) (fun hHeld => ?_)
            clear hK6 K6
            generalize wz1.alloc (.cells #[.int .i64 0] 3) = wz2 at *
            generalize wz1.heap.size = g16 at *
            replace hc := hc'
            clear hc'
            try simp only [Act.put, List.setIfInBounds_toArray, List.set_cons_zero, List.set_cons_succ]
            refine wpAnyH_ready (rs := [12, 17]) (by kernel_rfl) (by simp) ?_
            refine AllReadyH.cons (o := { dst := some 143, op := .buildSlice 47 1 #[(0, .tmp 142)], type := _, pos := _, after := _, guard := _ }) rfl (fun K6 hK6 => ?_) ?_
            · go_simp
              have hc' := Lib.hid (bthen hc.out (below_alloc wz2 (.cells #[.int .u8 r.s] 35)))
              replace k15 := Lib.hid (k15.out.below (below_alloc wz2 (.cells #[.int .u8 r.s] 35)) k15.out.lt)
              replace k16 := Lib.hid (k16.out.below (below_alloc wz2 (.cells #[.int .u8 r.s] 35)) k16.out.lt)
              have k12 := Lib.hid (Blk.new wz2 #[.int .u8 r.s] 35)
              refine hK6.out _ _ (hcl.out _ hc'.out) (fun hHeld => ?_)
              clear hK6 K6
              generalize wz2.alloc (.cells #[.int .u8 r.s] 35) = wz3 at *
              generalize wz2.heap.size = g12 at *
              replace hc := hc'
              clear hc'
              try simp only [Act.put, List.setIfInBounds_toArray, List.set_cons_zero, List.set_cons_succ]
              refine wpAnyH_ready (rs := [17]) (by kernel_rfl) (by simp) ?_
              refine AllReadyH.cons (o := { dst := some 148, op := .call { callee := .value (.func 24), args := _, argTypes := _ }, type := _, pos := _, after := _, guard := _ }) rfl (fun K6 hK6 => ?_) AllReadyH.nil
              go_simp
              refine (bitsTurn wz3 (some ⟨g15, 0, none⟩) 1 1 (fun _ => p.s) (some ⟨g16, 0, none⟩) 1 1 (fun _ => 0) (rd_one k15.out) (rd_one k16.out) (by simp) (by omega) (by omega)).mono ?_
              rintro e wz4 ⟨al, rfl, hMi, hbt⟩
              obtain ⟨gT, cuT, rfl, hg1, hg2, hg3, hg4⟩ := hMi (by omega)
              have hv := hg4 0 (by omega)
              rw [turn_one, ← hrt.out] at hv
              have hcT := hg2.cell hv
              have hc' := Lib.hid (bthen hc.out hbt)
              replace k12 := Lib.hid (k12.out.below (hbt) k12.out.lt)
              replace k15 := Lib.hid (k15.out.below (hbt) k15.out.lt)
              replace k16 := Lib.hid (k16.out.below (hbt) k16.out.lt)
              have kT : Hid (Rd .u8 wz4 (some ⟨gT, 0, none⟩) 1 (fun _ => r.s)) := fun q hq => by
                obtain rfl : q = 0 := by omega
                exact ⟨gT, 0, rfl, hcT⟩
              clear hMi hbt hg1 hg2 hg3 hg4 hv hcT
              refine hK6.out _ _ (hcl.out _ hc'.out) (fun hHeld => ?_)
              clear hK6 K6
              replace hc := hc'
              clear hc'
              try simp only [Act.put, List.setIfInBounds_toArray, List.set_cons_zero, List.set_cons_succ]
              refine wpAnyH_ready (rs := [18]) (by kernel_rfl) (by simp) ?_
              refine AllReadyH.cons (o := { dst := some 149, op := .call { callee := .value (.func 23), args := _, argTypes := _ }, type := _, pos := _, after := _, guard := _ }) rfl (fun K6 hK6 => ?_) AllReadyH.nil
              go_simp
              refine (sameSyms wz4 _ _ _ _ _ _ (rd_one k12.out) kT.out (by omega)).mono ?_
              rintro e wz5 ⟨rfl, q, rfl⟩
              have hc' := Lib.hid (bthen hc.out (below_drewN wz4 q))
              refine hK6.out _ _ (hcl.out _ hc'.out) (fun hHeld => ?_)
              clear hK6 K6 k12 kT k15 k16
              generalize wz4.drewN q = wz5z at *
              replace hc := hc'
              clear hc'
              try simp only [Act.put, List.setIfInBounds_toArray, List.set_cons_zero, List.set_cons_succ]
              refine wpAnyH_take (i := 19) (oi := { dst := some 150, op := .unOp _ _ (.tmp 149), type := _, pos := _, after := _, guard := _ }) (v := ?_) rfl (by kernel_rfl) (by kernel_rfl) (by kernel_rfl) (fun _ _ _ h => h) (Or.inl ⟨by rfl, ?_⟩) (by assumption) ?_
              rotate_left
              · (intro w hSw; (try dsimp only at hSw); go_simp) <;> with_reducible rfl
              try simp only [Act.put, List.setIfInBounds_toArray, List.set_cons_zero, List.set_cons_succ]
              refine wpAnyH_take (i := 20) (oi := { dst := some 151, op := .pick (.tmp 140) (.tmp 150) _, type := _, pos := _, after := _, guard := _ }) (v := ?_) rfl (by kernel_rfl) (by kernel_rfl) (by kernel_rfl) (fun _ _ _ h => h) (Or.inl ⟨by rfl, ?_⟩) (by assumption) ?_
              rotate_left
              · (intro w hSw; (try dsimp only at hSw); go_simp) <;> with_reducible rfl
              try simp only [Act.put, List.setIfInBounds_toArray, List.set_cons_zero, List.set_cons_succ]
              refine wpAnyH_done (by kernel_rfl) ?_ _
              have hV := Lib.hid (fin.out _ hc.out)
              clear hHeld hcl fin
              go_wp2_with fail
              exact hK2.out ((fr + 120).toNat - (j + 1)) _ _ (by omega) ⟨j + 1, v', by omega, hV, by kernel_rfl, rfl, by kernel_rfl, by kernel_rfl, by kernel_rfl, by kernel_rfl, by kernel_rfl, by kernel_rfl, by kernel_rfl⟩
            refine AllReadyH.cons (o := { dst := some 148, op := .call { callee := .value (.func 24), args := _, argTypes := _ }, type := _, pos := _, after := _, guard := _ }) rfl (fun K6 hK6 => ?_) AllReadyH.nil
            go_simp
            refine (bitsTurn wz2 (some ⟨g15, 0, none⟩) 1 1 (fun _ => p.s) (some ⟨g16, 0, none⟩) 1 1 (fun _ => 0) (rd_one k15.out) (rd_one k16.out) (by simp) (by omega) (by omega)).mono ?_
            rintro e wz3 ⟨al, rfl, hMi, hbt⟩
            obtain ⟨gT, cuT, rfl, hg1, hg2, hg3, hg4⟩ := hMi (by omega)
            have hv := hg4 0 (by omega)
            rw [turn_one, ← hrt.out] at hv
            have hcT := hg2.cell hv
            have hc' := Lib.hid (bthen hc.out hbt)
            replace k15 := Lib.hid (k15.out.below (hbt) k15.out.lt)
            replace k16 := Lib.hid (k16.out.below (hbt) k16.out.lt)
            have kT : Hid (Rd .u8 wz3 (some ⟨gT, 0, none⟩) 1 (fun _ => r.s)) := fun q hq => by
              obtain rfl : q = 0 := by omega
              exact ⟨gT, 0, rfl, hcT⟩
            clear hMi hbt hg1 hg2 hg3 hg4 hv hcT
            refine hK6.out _ _ (hcl.out _ hc'.out) (fun hHeld => ?_)
            clear hK6 K6
            replace hc := hc'
            clear hc'
            try simp only [Act.put, List.setIfInBounds_toArray, List.set_cons_zero, List.set_cons_succ]
            refine wpAnyH_ready (rs := [12]) (by kernel_rfl) (by simp) ?_
            refine AllReadyH.cons (o := { dst := some 143, op := .buildSlice 47 1 #[(0, .tmp 142)], type := _, pos := _, after := _, guard := _ }) rfl (fun K6 hK6 => ?_) AllReadyH.nil
            go_simp
            have hc' := Lib.hid (bthen hc.out (below_alloc wz3 (.cells #[.int .u8 r.s] 35)))
            replace k15 := Lib.hid (k15.out.below (below_alloc wz3 (.cells #[.int .u8 r.s] 35)) k15.out.lt)
            replace k16 := Lib.hid (k16.out.below (below_alloc wz3 (.cells #[.int .u8 r.s] 35)) k16.out.lt)
            replace kT := Lib.hid (kT.out.below (below_alloc wz3 (.cells #[.int .u8 r.s] 35)) (Nat.le_refl _))
            have k12 := Lib.hid (Blk.new wz3 #[.int .u8 r.s] 35)
            refine hK6.out _ _ (hcl.out _ hc'.out) (fun hHeld => ?_)
            clear hK6 K6
            generalize wz3.alloc (.cells #[.int .u8 r.s] 35) = wz4 at *
            generalize wz3.heap.size = g12 at *
            replace hc := hc'
            clear hc'
            try simp only [Act.put, List.setIfInBounds_toArray, List.set_cons_zero, List.set_cons_succ]
            refine wpAnyH_ready (rs := [18]) (by kernel_rfl) (by simp) ?_
            refine AllReadyH.cons (o := { dst := some 149, op := .call { callee := .value (.func 23), args := _, argTypes := _ }, type := _, pos := _, after := _, guard := _ }) rfl (fun K6 hK6 => ?_) AllReadyH.nil
            go_simp
            refine (sameSyms wz4 _ _ _ _ _ _ (rd_one k12.out) kT.out (by omega)).mono ?_
            rintro e wz5 ⟨rfl, q, rfl⟩
            have hc' := Lib.hid (bthen hc.out (below_drewN wz4 q))
            refine hK6.out _ _ (hcl.out _ hc'.out) (fun hHeld => ?_)
            clear hK6 K6 k12 kT k15 k16
            generalize wz4.drewN q = wz5z at *
            replace hc := hc'
            clear hc'
            try simp only [Act.put, List.setIfInBounds_toArray, List.set_cons_zero, List.set_cons_succ]
            refine wpAnyH_take (i := 19) (oi := { dst := some 150, op := .unOp _ _ (.tmp 149), type := _, pos := _, after := _, guard := _ }) (v := ?_) rfl (by kernel_rfl) (by kernel_rfl) (by kernel_rfl) (fun _ _ _ h => h) (Or.inl ⟨by rfl, ?_⟩) (by assumption) ?_
            rotate_left
            · (intro w hSw; (try dsimp only at hSw); go_simp) <;> with_reducible rfl
            try simp only [Act.put, List.setIfInBounds_toArray, List.set_cons_zero, List.set_cons_succ]
            refine wpAnyH_take (i := 20) (oi := { dst := some 151, op := .pick (.tmp 140) (.tmp 150) _, type := _, pos := _, after := _, guard := _ }) (v := ?_) rfl (by kernel_rfl) (by kernel_rfl) (by kernel_rfl) (fun _ _ _ h => h) (Or.inl ⟨by rfl, ?_⟩) (by assumption) ?_
            rotate_left
            · (intro w hSw; (try dsimp only at hSw); go_simp) <;> with_reducible rfl
            try simp only [Act.put, List.setIfInBounds_toArray, List.set_cons_zero, List.set_cons_succ]
            refine wpAnyH_done (by kernel_rfl) ?_ _
            have hV := Lib.hid (fin.out _ hc.out)
            clear hHeld hcl fin
            go_wp2_with fail
            exact hK2.out ((fr + 120).toNat - (j + 1)) _ _ (by omega) ⟨j + 1, v', by omega, hV, by kernel_rfl, rfl, by kernel_rfl, by kernel_rfl, by kernel_rfl, by kernel_rfl, by kernel_rfl, by kernel_rfl, by kernel_rfl⟩
          refine AllReadyH.cons (o := { dst := some 147, op := .buildSlice 146 1 #[(0, .const (.int .i64 0))], type := _, pos := _, after := _, guard := _ }) rfl (fun K6 hK6 => ?_) AllReadyH.nil
          go_simp
          have hc' := Lib.hid (bthen hc.out (below_alloc wz0 (.cells #[.int .i64 0] 3)))
          have k16 := Lib.hid (Blk.new wz0 #[.int .i64 0] 3)
          refine hK6.out _ _ (hcl.out _ hc'.out) (fun hHeld => ?_)
          clear hK6 K6
          generalize wz0.alloc (.cells #[.int .i64 0] 3) = wz1 at *
          generalize wz0.heap.size = g16 at *
          replace hc := hc'
          clear hc'
          try simp only [Act.put, List.setIfInBounds_toArray, List.set_cons_zero, List.set_cons_succ]
          refine wpAnyH_ready (rs := [12, 15]) (by kernel_rfl) (by simp) ?_
          refine AllReadyH.cons (o := { dst := some 143, op := .buildSlice 47 1 #[(0, .tmp 142)], type := _, pos := _, after := _, guard := _ }) rfl (fun K6 hK6 => ?_) ?_
          · go_simp
            have hc' := Lib.hid (bthen hc.out (below_alloc wz1 (.cells #[.int .u8 r.s] 35)))
            replace k16 := Lib.hid (k16.out.below (below_alloc wz1 (.cells #[.int .u8 r.s] 35)) k16.out.lt)
            have k12 := Lib.hid (Blk.new wz1 #[.int .u8 r.s] 35)
            refine hK6.out _ _ (hcl.out _ hc'.out) (fun hHeld => ?_)
            clear hK6 K6
            generalize wz1.alloc (.cells #[.int .u8 r.s] 35) = wz2 at *
            generalize wz1.heap.size = g12 at *
            replace hc := hc'
            clear hc'
            try simp only [Act.put, List.setIfInBounds_toArray, List.set_cons_zero, List.set_cons_succ]
            refine wpAnyH_ready (rs := [15]) (by kernel_rfl) (by simp) ?_
            refine AllReadyH.cons (o := { dst := some 146, op := .buildSlice 47 1 #[(0, .tmp 145)], type := _, pos := _, after := _, guard := _ }) rfl (fun K6 hK6 => ?_) AllReadyH.nil
            go_simp
            have hc' := Lib.hid (bthen hc.out (below_alloc wz2 (.cells #[.int .u8 p.s] 35)))
            replace k12 := Lib.hid (k12.out.below (below_alloc wz2 (.cells #[.int .u8 p.s] 35)) k12.out.lt)
            replace k16 := Lib.hid (k16.out.below (below_alloc wz2 (.cells #[.int .u8 p.s] 35)) k16.out.lt)
            have k15 := Lib.hid (Blk.new wz2 #[.int .u8 p.s] 35)
            refine hK6.out _ _ (hcl.out _ hc'.out) (fun hHeld => ?_)
            clear hK6 K6
            generalize wz2.alloc (.cells #[.int .u8 p.s] 35) = wz3 at *
            generalize wz2.heap.size = g15 at *
            replace hc := hc'
            clear hc'
            try simp only [Act.put, List.setIfInBounds_toArray, List.set_cons_zero, List.set_cons_succ]
            refine wpAnyH_ready (rs := [17]) (by kernel_rfl) (by simp) ?_
            refine AllReadyH.cons (o := { dst := some 148, op := .call { callee := .value (.func 24), args := _, argTypes := _ }, type := _, pos := _, after := _, guard := _ }) rfl (fun K6 hK6 => ?_) AllReadyH.nil
            go_simp
            refine (bitsTurn wz3 (some ⟨g15, 0, none⟩) 1 1 (fun _ => p.s) (some ⟨g16, 0, none⟩) 1 1 (fun _ => 0) (rd_one k15.out) (rd_one k16.out) (by simp) (by omega) (by omega)).mono ?_
            rintro e wz4 ⟨al, rfl, hMi, hbt⟩
            obtain ⟨gT, cuT, rfl, hg1, hg2, hg3, hg4⟩ := hMi (by omega)
            have hv := hg4 0 (by omega)
            rw [turn_one, ← hrt.out] at hv
            have hcT := hg2.cell hv
            have hc' := Lib.hid (bthen hc.out hbt)
            replace k12 := Lib.hid (k12.out.below (hbt) k12.out.lt)
            replace k15 := Lib.hid (k15.out.below (hbt) k15.out.lt)
            replace k16 := Lib.hid (k16.out.below (hbt) k16.out.lt)
            have kT : Hid (Rd .u8 wz4 (some ⟨gT, 0, none⟩) 1 (fun _ => r.s)) := fun q hq => by
              obtain rfl : q = 0 := by omega
              exact ⟨gT, 0, rfl, hcT⟩
            clear hMi hbt hg1 hg2 hg3 hg4 hv hcT
            refine hK6.out _ _ (hcl.out _ hc'.out) (fun hHeld => ?_)
            clear hK6 K6
            replace hc := hc'
            clear hc'
            try simp only [Act.put, List.setIfInBounds_toArray, List.set_cons_zero, List.set_cons_succ]
            refine wpAnyH_ready (rs := [18]) (by kernel_rfl) (by simp) ?_
            refine AllReadyH.cons (o := { dst := some 149, op := .call { callee := .value (.func 23), args := _, argTypes := _ }, type := _, pos := _, after := _, guard := _ }) rfl (fun K6 hK6 => ?_) AllReadyH.nil
            go_simp
            refine (sameSyms wz4 _ _ _ _ _ _ (rd_one k12.out) kT.out (by omega)).mono ?_
            rintro e wz5 ⟨rfl, q, rfl⟩
            have hc' := Lib.hid (bthen hc.out (below_drewN wz4 q))
            refine hK6.out _ _ (hcl.out _ hc'.out) (fun hHeld => ?_)
            clear hK6 K6 k12 kT k15 k16
            generalize wz4.drewN q = wz5z at *
            replace hc := hc'
            clear hc'
            try simp only [Act.put, List.setIfInBounds_toArray, List.set_cons_zero, List.set_cons_succ]
            refine wpAnyH_take (i := 19) (oi := { dst := some 150, op := .unOp _ _ (.tmp 149), type := _, pos := _, after := _, guard := _ }) (v := ?_) rfl (by kernel_rfl) (by kernel_rfl) (by kernel_rfl) (fun _ _ _ h => h) (Or.inl ⟨by rfl, ?_⟩) (by assumption) ?_
            rotate_left
            · (intro w hSw; (try dsimp only at hSw); go_simp) <;> with_reducible rfl
            try simp only [Act.put, List.setIfInBounds_toArray, List.set_cons_zero, List.set_cons_succ]
            refine wpAnyH_take (i := 20) (oi := { dst := some 151, op := .pick (.tmp 140) (.tmp 150) _, type := _, pos := _, after := _, guard := _ }) (v := ?_) rfl (by kernel_rfl) (by kernel_rfl) (by kernel_rfl) (fun _ _ _ h => h) (Or.inl ⟨by rfl, ?_⟩) (by assumption) ?_
            rotate_left
            · (intro w hSw; (try dsimp only at hSw); go_simp) <;> with_reducible rfl
            try simp only [Act.put, List.setIfInBounds_toArray, List.set_cons_zero, List.set_cons_succ]
            refine wpAnyH_done (by kernel_rfl) ?_ _
            have hV := Lib.hid (fin.out _ hc.out)
            clear hHeld hcl fin
            go_wp2_with fail
            exact hK2.out ((fr + 120).toNat - (j + 1)) _ _ (by omega) ⟨j + 1, v', by omega, hV, by kernel_rfl, rfl, by kernel_rfl, by kernel_rfl, by kernel_rfl, by kernel_rfl, by kernel_rfl, by kernel_rfl, by kernel_rfl⟩
          refine AllReadyH.cons (o := { dst := some 146, op := .buildSlice 47 1 #[(0, .tmp 145)], type := _, pos := _, after := _, guard := _ }) rfl (fun K6 hK6 => ?_) AllReadyH.nil
          go_simp
          have hc' := Lib.hid (bthen hc.out (below_alloc wz1 (.cells #[.int .u8 p.s] 35)))
          replace k16 := Lib.hid (k16.out.below (below_alloc wz1 (.cells #[.int .u8 p.s] 35)) k16.out.lt)
          have k15 := Lib.hid (Blk.new wz1 #[.int .u8 p.s] 35)
          refine hK6.out _ _ (hcl.out _ hc'.out) (fun hHeld => ?_)
          clear hK6 K6
          generalize wz1.alloc (.cells #[.int .u8 p.s] 35) = wz2 at *
          generalize wz1.heap.size = g15 at *
          replace hc := hc'
          clear hc'
          try simp only [Act.put, List.setIfInBounds_toArray, List.set_cons_zero, List.set_cons_succ]
          refine wpAnyH_ready (rs := [12, 17]) (by kernel_rfl) (by simp) ?_
          refine AllReadyH.cons (o := { dst := some 143, op := .buildSlice 47 1 #[(0, .tmp 142)], type := _, pos := _, after := _, guard := _ }) rfl (fun K6 hK6 => ?_) ?_
          · go_simp
            have hc' := Lib.hid (bthen hc.out (below_alloc wz2 (.cells #[.int .u8 r.s] 35)))
            replace k15 := Lib.hid (k15.out.below (below_alloc wz2 (.cells #[.int .u8 r.s] 35)) k15.out.lt)
            replace k16 := Lib.hid (k16.out.below (below_alloc wz2 (.cells #[.int .u8 r.s] 35)) k16.out.lt)
            have k12 := Lib.hid (Blk.new wz2 #[.int .u8 r.s] 35)
            refine hK6.out _ _ (hcl.out _ hc'.out) (fun hHeld => ?_)
            clear hK6 K6
            generalize wz2.alloc (.cells #[.int .u8 r.s] 35) = wz3 at *
            generalize wz2.heap.size = g12 at *
            replace hc := hc'
            clear hc'
            try simp only [Act.put, List.setIfInBounds_toArray, List.set_cons_zero, List.set_cons_succ]
            refine wpAnyH_ready (rs := [17]) (by kernel_rfl) (by simp) ?_
            refine AllReadyH.cons (o := { dst := some 148, op := .call { callee := .value (.func 24), args := _, argTypes := _ }, type := _, pos := _, after := _, guard := _ }) rfl (fun K6 hK6 => ?_) AllReadyH.nil
            go_simp
            refine (bitsTurn wz3 (some ⟨g15, 0, none⟩) 1 1 (fun _ => p.s) (some ⟨g16, 0, none⟩) 1 1 (fun _ => 0) (rd_one k15.out) (rd_one k16.out) (by simp) (by omega) (by omega)).mono ?_
            rintro e wz4 ⟨al, rfl, hMi, hbt⟩
            obtain ⟨gT, cuT, rfl, hg1, hg2, hg3, hg4⟩ := hMi (by omega)
            have hv := hg4 0 (by omega)
            rw [turn_one, ← hrt.out] at hv
            have hcT := hg2.cell hv
            have hc' := Lib.hid (bthen hc.out hbt)
            replace k12 := Lib.hid (k12.out.below (hbt) k12.out.lt)
            replace k15 := Lib.hid (k15.out.below (hbt) k15.out.lt)
            replace k16 := Lib.hid (k16.out.below (hbt) k16.out.lt)
            have kT : Hid (Rd .u8 wz4 (some ⟨gT, 0, none⟩) 1 (fun _ => r.s)) := fun q hq => by
              obtain rfl : q = 0 := by omega
              exact ⟨gT, 0, rfl, hcT⟩
            clear hMi hbt hg1 hg2 hg3 hg4 hv hcT
            refine hK6.out _ _ (hcl.out _ hc'.out) (fun hHeld => ?_)
            clear hK6 K6
            replace hc := hc'
            clear hc'
            try simp only [Act.put, List.setIfInBounds_toArray, List.set_cons_zero, List.set_cons_succ]
            refine wpAnyH_ready (rs := [18]) (by kernel_rfl) (by simp) ?_
            refine AllReadyH.cons (o := { dst := some 149, op := .call { callee := .value (.func 23), args := _, argTypes := _ }, type := _, pos := _, after := _, guard := _ }) rfl (fun K6 hK6 => ?_) AllReadyH.nil
            go_simp
            refine (sameSyms wz4 _ _ _ _ _ _ (rd_one k12.out) kT.out (by omega)).mono ?_
            rintro e wz5 ⟨rfl, q, rfl⟩
            have hc' := Lib.hid (bthen hc.out (below_drewN wz4 q))
            refine hK6.out _ _ (hcl.out _ hc'.out) (fun hHeld => ?_)
            clear hK6 K6 k12 kT k15 k16
            generalize wz4.drewN q = wz5z at *
            replace hc := hc'
            clear hc'
            try simp only [Act.put, List.setIfInBounds_toArray, List.set_cons_zero, List.set_cons_succ]
            refine wpAnyH_take (i := 19) (oi := { dst := some 150, op := .unOp _ _ (.tmp 149), type := _, pos := _, after := _, guard := _ }) (v := ?_) rfl (by kernel_rfl) (by kernel_rfl) (by kernel_rfl) (fun _ _ _ h => h) (Or.inl ⟨by rfl, ?_⟩) (by assumption) ?_
            rotate_left
            · (intro w hSw; (try dsimp only at hSw); go_simp) <;> with_reducible rfl
            try simp only [Act.put, List.setIfInBounds_toArray, List.set_cons_zero, List.set_cons_succ]
            refine wpAnyH_take (i := 20) (oi := { dst := some 151, op := .pick (.tmp 140) (.tmp 150) _, type := _, pos := _, after := _, guard := _ }) (v := ?_) rfl (by kernel_rfl) (by kernel_rfl) (by kernel_rfl) (fun _ _ _ h => h) (Or.inl ⟨by rfl, ?_⟩) (by assumption) ?_
            rotate_left
            · (intro w hSw; (try dsimp only at hSw); go_simp) <;> with_reducible rfl
            try simp only [Act.put, List.setIfInBounds_toArray, List.set_cons_zero, List.set_cons_succ]
            refine wpAnyH_done (by kernel_rfl) ?_ _
            have hV := Lib.hid (fin.out _ hc.out)
            clear hHeld hcl fin
            go_wp2_with fail
            exact hK2.out ((fr + 120).toNat - (j + 1)) _ _ (by omega) ⟨j + 1, v', by omega, hV, by kernel_rfl, rfl, by kernel_rfl, by kernel_rfl, by kernel_rfl, by kernel_rfl, by kernel_rfl, by kernel_rfl, by kernel_rfl⟩
          refine AllReadyH.cons (o := { dst := some 148, op := .call { callee := .value (.func 24), args := _, argTypes := _ }, type := _, pos := _, after := _, guard := _ }) rfl (fun K6 hK6 => ?_) AllReadyH.nil
          go_simp
          refine (bitsTurn wz2 (some ⟨g15, 0, none⟩) 1 1 (fun _ => p.s) (some ⟨g16, 0, none⟩) 1 1 (fun _ => 0) (rd_one k15.out) (rd_one k16.out) (by simp) (by omega) (by omega)).mono ?_
          rintro e wz3 ⟨al, rfl, hMi, hbt⟩
          obtain ⟨gT, cuT, rfl, hg1, hg2, hg3, hg4⟩ := hMi (by omega)
          have hv := hg4 0 (by omega)
          rw [turn_one, ← hrt.out] at hv
          have hcT := hg2.cell hv
          have hc' := Lib.hid (bthen hc.out hbt)
          replace k15 := Lib.hid (k15.out.below (hbt) k15.out.lt)
          replace k16 := Lib.hid (k16.out.below (hbt) k16.out.lt)
          have kT : Hid (Rd .u8 wz3 (some ⟨gT, 0, none⟩) 1 (fun _ => r.s)) := fun q hq => by
            obtain rfl : q = 0 := by omega
            exact ⟨gT, 0, rfl, hcT⟩
          clear hMi hbt hg1 hg2 hg3 hg4 hv hcT
          refine hK6.out _ _ (hcl.out _ hc'.out) (fun hHeld => ?_)
          clear hK6 K6
          replace hc := hc'
          clear hc'
          try simp only [Act.put, List.setIfInBounds_toArray, List.set_cons_zero, List.set_cons_succ]
          refine wpAnyH_ready (rs := [12]) (by kernel_rfl) (by simp) ?_
          refine AllReadyH.cons (o := { dst := some 143, op := .buildSlice 47 1 #[(0, .tmp 142)], type := _, pos := _, after := _, guard := _ }) rfl (fun K6 hK6 => ?_) AllReadyH.nil
          go_simp
          have hc' := Lib.hid (bthen hc.out (below_alloc wz3 (.cells #[.int .u8 r.s] 35)))
          replace k15 := Lib.hid (k15.out.below (below_alloc wz3 (.cells #[.int .u8 r.s] 35)) k15.out.lt)
          replace k16 := Lib.hid (k16.out.below (below_alloc wz3 (.cells #[.int .u8 r.s] 35)) k16.out.lt)
          replace kT := Lib.hid (kT.out.below (below_alloc wz3 (.cells #[.int .u8 r.s] 35)) (Nat.le_refl _))
          have k12 := Lib.hid (Blk.new wz3 #[.int .u8 r.s] 35)
          refine hK6.out _ _ (hcl.out _ hc'.out) (fun hHeld => ?_)
          clear hK6 K6
          generalize wz3.alloc (.cells #[.int .u8 r.s] 35) = wz4 at *
          generalize wz3.heap.size = g12 at *
          replace hc := hc'
          clear hc'
          try simp only [Act.put, List.setIfInBounds_toArray, List.set_cons_zero, List.set_cons_succ]
          refine wpAnyH_ready (rs := [18]) (by kernel_rfl) (by simp) ?_
          refine AllReadyH.cons (o := { dst := some 149, op := .call { callee := .value (.func 23), args := _, argTypes := _ }, type := _, pos := _, after := _, guard := _ }) rfl (fun K6 hK6 => ?_) AllReadyH.nil
          go_simp
          refine (sameSyms wz4 _ _ _ _ _ _ (rd_one k12.out) kT.out (by omega)).mono ?_
          rintro e wz5 ⟨rfl, q, rfl⟩
          have hc' := Lib.hid (bthen hc.out (below_drewN wz4 q))
          refine hK6.out _ _ (hcl.out _ hc'.out) (fun hHeld => ?_)
          clear hK6 K6 k12 kT k15 k16
          generalize wz4.drewN q = wz5z at *
          replace hc := hc'
          clear hc'
          try simp only [Act.put, List.setIfInBounds_toArray, List.set_cons_zero, List.set_cons_succ]
          refine wpAnyH_take (i := 19) (oi := { dst := some 150, op := .unOp _ _ (.tmp 149), type := _, pos := _, after := _, guard := _ }) (v := ?_) rfl (by kernel_rfl) (by kernel_rfl) (by kernel_rfl) (fun _ _ _ h => h) (Or.inl ⟨by rfl, ?_⟩) (by assumption) ?_
          rotate_left
          · (intro w hSw; (try dsimp only at hSw); go_simp) <;> with_reducible rfl
          try simp only [Act.put, List.setIfInBounds_toArray, List.set_cons_zero, List.set_cons_succ]
          refine wpAnyH_take (i := 20) (oi := { dst := some 151, op := .pick (.tmp 140) (.tmp 150) _, type := _, pos := _, after := _, guard := _ }) (v := ?_) rfl (by kernel_rfl) (by kernel_rfl) (by kernel_rfl) (fun _ _ _ h => h) (Or.inl ⟨by rfl, ?_⟩) (by assumption) ?_
          rotate_left
          · (intro w hSw; (try dsimp only at hSw); go_simp) <;> with_reducible rfl
          try simp only [Act.put, List.setIfInBounds_toArray, List.set_cons_zero, List.set_cons_succ]
          refine wpAnyH_done (by kernel_rfl) ?_ _
          have hV := Lib.hid (fin.out _ hc.out)
          clear hHeld hcl fin
          go_wp2_with fail
          exact hK2.out ((fr + 120).toNat - (j + 1)) _ _ (by omega) ⟨j + 1, v', by omega, hV, by kernel_rfl, rfl, by kernel_rfl, by kernel_rfl, by kernel_rfl, by kernel_rfl, by kernel_rfl, by kernel_rfl, by kernel_rfl⟩
      · have y1 : ((k : Int) == 1) = false := by simp; omega
        refine wp_region_held_drew (S := fun W => W.cell? ⟨bx, 0, none⟩ = some (.int .u8 r.s) ∧ W.cell? ⟨bp, 0, none⟩ = some (.int .u8 p.s)) (by kernel_rfl) (hcl.out _ hbd) (fun hHeld => ?_)
        refine wpAnyH_take (i := 0) (oi := { dst := some 131, op := .move (.tmp 7), type := _, pos := _, after := _, guard := _ }) (v := ?_) rfl (by kernel_rfl) (by kernel_rfl) (by kernel_rfl) (fun _ _ _ h => h) (Or.inl ⟨by rfl, ?_⟩) (by assumption) ?_
        rotate_left
        · (intro w hSw; (try dsimp only at hSw); go_simp) <;> with_reducible rfl
        try simp only [Act.put, List.setIfInBounds_toArray, List.set_cons_zero, List.set_cons_succ]
        refine wpAnyH_take (i := 1) (oi := { dst := some 132, op := .binOp _ _ (.tmp 131) _ _, type := _, pos := _, after := _, guard := _ }) (v := ?_) rfl (by kernel_rfl) (by kernel_rfl) (by kernel_rfl) (fun _ _ _ h => h) (Or.inl ⟨by rfl, ?_⟩) (by assumption) ?_
        rotate_left
        · (intro w hSw; (try dsimp only at hSw); go_simp) <;> with_reducible rfl
        try simp only [Act.put, List.setIfInBounds_toArray, List.set_cons_zero, List.set_cons_succ]
        refine wpAnyH_take (i := 2) (oi := { dst := some 133, op := .move (.tmp 132), type := _, pos := _, after := _, guard := _ }) (v := ?_) rfl (by kernel_rfl) (by kernel_rfl) (by kernel_rfl) (fun _ _ _ h => h) (Or.inl ⟨by rfl, ?_⟩) (by assumption) ?_
        rotate_left
        · (intro w hSw; (try dsimp only at hSw); go_simp) <;> with_reducible rfl
        try simp only [Act.put, List.setIfInBounds_toArray, List.set_cons_zero, List.set_cons_succ]
        refine wpAnyH_take (i := 3) (oi := { dst := some 134, op := .fieldAddr _ (.tmp 13) 0, type := _, pos := _, after := _, guard := _ }) (v := undef) rfl (by kernel_rfl) (by kernel_rfl) (by kernel_rfl) (fun _ _ _ h => h) (Or.inr ⟨by rfl, rfl⟩) (by assumption) ?_
        try simp only [Act.put, List.setIfInBounds_toArray, List.set_cons_zero, List.set_cons_succ]
        refine wpAnyH_take (i := 4) (oi := { dst := some 135, op := .load _ (.tmp 134), type := _, pos := _, after := _, guard := _ }) (v := undef) rfl (by kernel_rfl) (by kernel_rfl) (by kernel_rfl) (fun _ _ _ h => h) (Or.inr ⟨by rfl, rfl⟩) (by assumption) ?_
        try simp only [Act.put, List.setIfInBounds_toArray, List.set_cons_zero, List.set_cons_succ]
        refine wpAnyH_take (i := 5) (oi := { dst := some 136, op := .fieldAddr _ (.tmp 12) 0, type := _, pos := _, after := _, guard := _ }) (v := undef) rfl (by kernel_rfl) (by kernel_rfl) (by kernel_rfl) (fun _ _ _ h => h) (Or.inr ⟨by rfl, rfl⟩) (by assumption) ?_
        try simp only [Act.put, List.setIfInBounds_toArray, List.set_cons_zero, List.set_cons_succ]
        refine wpAnyH_take (i := 6) (oi := { dst := some 137, op := .load _ (.tmp 136), type := _, pos := _, after := _, guard := _ }) (v := undef) rfl (by kernel_rfl) (by kernel_rfl) (by kernel_rfl) (fun _ _ _ h => h) (Or.inr ⟨by rfl, rfl⟩) (by assumption) ?_
        try simp only [Act.put, List.setIfInBounds_toArray, List.set_cons_zero, List.set_cons_succ]
        refine wpAnyH_take (i := 7) (oi := { dst := some 138, op := .binOp _ _ (.tmp 135) (.tmp 137) _, type := _, pos := _, after := _, guard := _ }) (v := undef) rfl (by kernel_rfl) (by kernel_rfl) (by kernel_rfl) (fun _ _ _ h => h) (Or.inr ⟨by rfl, rfl⟩) (by assumption) ?_
        try simp only [Act.put, List.setIfInBounds_toArray, List.set_cons_zero, List.set_cons_succ]
        refine wpAnyH_take (i := 8) (oi := { dst := some 139, op := .pick (.tmp 133) (.tmp 138) _, type := _, pos := _, after := _, guard := _ }) (v := ?_) rfl (by kernel_rfl) (by kernel_rfl) (by kernel_rfl) (fun _ _ _ h => h) (Or.inl ⟨by rfl, ?_⟩) (by assumption) ?_
        rotate_left
        · (intro w hSw; (try dsimp only at hSw); go_simp) <;> with_reducible rfl
        try simp only [Act.put, List.setIfInBounds_toArray, List.set_cons_zero, List.set_cons_succ]
        refine wpAnyH_take (i := 9) (oi := { dst := some 140, op := .move (.tmp 139), type := _, pos := _, after := _, guard := _ }) (v := ?_) rfl (by kernel_rfl) (by kernel_rfl) (by kernel_rfl) (fun _ _ _ h => h) (Or.inl ⟨by rfl, ?_⟩) (by assumption) ?_
        rotate_left
        · (intro w hSw; (try dsimp only at hSw); go_simp) <;> with_reducible rfl
        try simp only [Act.put, List.setIfInBounds_toArray, List.set_cons_zero, List.set_cons_succ]
        refine wpAnyH_take (i := 10) (oi := { dst := some 141, op := .fieldAddr _ (.tmp 13) 0, type := _, pos := _, after := _, guard := _ }) (v := undef) rfl (by kernel_rfl) (by kernel_rfl) (by kernel_rfl) (fun _ _ _ h => h) (Or.inr ⟨by rfl, rfl⟩) (by assumption) ?_
        try simp only [Act.put, List.setIfInBounds_toArray, List.set_cons_zero, List.set_cons_succ]
        refine wpAnyH_take (i := 11) (oi := { dst := some 142, op := .load _ (.tmp 141), type := _, pos := _, after := _, guard := _ }) (v := undef) rfl (by kernel_rfl) (by kernel_rfl) (by kernel_rfl) (fun _ _ _ h => h) (Or.inr ⟨by rfl, rfl⟩) (by assumption) ?_
        try simp only [Act.put, List.setIfInBounds_toArray, List.set_cons_zero, List.set_cons_succ]
        refine wpAnyH_take (i := 12) (oi := { dst := some 143, op := .buildSlice 47 1 #[(0, .tmp 142)], type := _, pos := _, after := _, guard := _ }) (v := undef) rfl (by kernel_rfl) (by kernel_rfl) (by kernel_rfl) (fun _ _ _ h => h) (Or.inr ⟨by rfl, rfl⟩) (by assumption) ?_
        try simp only [Act.put, List.setIfInBounds_toArray, List.set_cons_zero, List.set_cons_succ]
        refine wpAnyH_take (i := 13) (oi := { dst := some 144, op := .fieldAddr _ (.tmp 12) 0, type := _, pos := _, after := _, guard := _ }) (v := undef) rfl (by kernel_rfl) (by kernel_rfl) (by kernel_rfl) (fun _ _ _ h => h) (Or.inr ⟨by rfl, rfl⟩) (by assumption) ?_
        try simp only [Act.put, List.setIfInBounds_toArray, List.set_cons_zero, List.set_cons_succ]
        refine wpAnyH_take (i := 14) (oi := { dst := some 145, op := .load _ (.tmp 144), type := _, pos := _, after := _, guard := _ }) (v := undef) rfl (by kernel_rfl) (by kernel_rfl) (by kernel_rfl) (fun _ _ _ h => h) (Or.inr ⟨by rfl, rfl⟩) (by assumption) ?_
        try simp only [Act.put, List.setIfInBounds_toArray, List.set_cons_zero, List.set_cons_succ]
        refine wpAnyH_take (i := 15) (oi := { dst := some 146, op := .buildSlice 47 1 #[(0, .tmp 145)], type := _, pos := _, after := _, guard := _ }) (v := undef) rfl (by kernel_rfl) (by kernel_rfl) (by kernel_rfl) (fun _ _ _ h => h) (Or.inr ⟨by rfl, rfl⟩) (by assumption) ?_
        try simp only [Act.put, List.setIfInBounds_toArray, List.set_cons_zero, List.set_cons_succ]
        refine wpAnyH_take (i := 16) (oi := { dst := some 147, op := .buildSlice 146 1 #[(0, .const (.int .i64 0))], type := _, pos := _, after := _, guard := _ }) (v := undef) rfl (by kernel_rfl) (by kernel_rfl) (by kernel_rfl) (fun _ _ _ h => h) (Or.inr ⟨by rfl, rfl⟩) (by assumption) ?_
        try simp only [Act.put, List.setIfInBounds_toArray, List.set_cons_zero, List.set_cons_succ]
        refine wpAnyH_take (i := 17) (oi := { dst := some 148, op := .call { callee := .value (.func 24), args := _, argTypes := _ }, type := _, pos := _, after := _, guard := _ }) (v := undef) rfl (by kernel_rfl) (by kernel_rfl) (by kernel_rfl) (fun _ _ _ h => h) (Or.inr ⟨by rfl, rfl⟩) (by assumption) ?_
        try simp only [Act.put, List.setIfInBounds_toArray, List.set_cons_zero, List.set_cons_succ]
        refine wpAnyH_take (i := 18) (oi := { dst := some 149, op := .call { callee := .value (.func 23), args := _, argTypes := _ }, type := _, pos := _, after := _, guard := _ }) (v := undef) rfl (by kernel_rfl) (by kernel_rfl) (by kernel_rfl) (fun _ _ _ h => h) (Or.inr ⟨by rfl, rfl⟩) (by assumption) ?_
        try simp only [Act.put, List.setIfInBounds_toArray, List.set_cons_zero, List.set_cons_succ]
        refine wpAnyH_take (i := 19) (oi := { dst := some 150, op := .unOp _ _ (.tmp 149), type := _, pos := _, after := _, guard := _ }) (v := undef) rfl (by kernel_rfl) (by kernel_rfl) (by kernel_rfl) (fun _ _ _ h => h) (Or.inr ⟨by rfl, rfl⟩) (by assumption) ?_
        try simp only [Act.put, List.setIfInBounds_toArray, List.set_cons_zero, List.set_cons_succ]
        refine wpAnyH_take (i := 20) (oi := { dst := some 151, op := .pick (.tmp 140) (.tmp 150) _, type := _, pos := _, after := _, guard := _ }) (v := ?_) rfl (by kernel_rfl) (by kernel_rfl) (by kernel_rfl) (fun _ _ _ h => h) (Or.inl ⟨by rfl, ?_⟩) (by assumption) ?_
        rotate_left
        · (intro w hSw; (try dsimp only at hSw); go_simp) <;> with_reducible rfl
        try simp only [Act.put, List.setIfInBounds_toArray, List.set_cons_zero, List.set_cons_succ]
        refine wpAnyH_done (by kernel_rfl) ?_ _
        have hV := Lib.hid (fin.out _ hbd)
        clear hHeld hcl fin
        go_wp2_with fail
        exact hK2.out ((fr + 120).toNat - (j + 1)) _ _ (by omega) ⟨j + 1, v', by omega, hV, by kernel_rfl, rfl, by kernel_rfl, by kernel_rfl, by kernel_rfl, by kernel_rfl, by kernel_rfl, by kernel_rfl, by kernel_rfl⟩
    have g3 : decide ((j : Int) < fr + 120) = false := by simp; omega
    have g4 : ¬ (j : Int) < fr + 120 := by omega
    have hcn : cntK k fr (j : Int) = 114 := by
      unfold cntK
      split
      · omega
      · rfl
    have hA9 := hM.out.at_
    rw [hcn] at hA9
    replace hA9 := Lib.hid hA9
    clear hM hK2 hcn
    go_wp2_with fail
    exact hK.out (4 - (k + 1)) _ _ (by omega) ⟨k + 1, v, by omega, (by rw [if_neg (by omega)]; exact hA9), by kernel_rfl, rfl, by kernel_rfl, by kernel_rfl, by kernel_rfl, by kernel_rfl, by kernel_rfl⟩
  have g1 : decide ((k : Int) < 4) = false := by simp; omega
  have g2 : ¬ (k : Int) < 4 := by omega
  rw [if_neg (by omega)] at hA
  clear hK
  obtain ⟨al, cl, rfl, h1, h2, h3, hmine⟩ := own_mine hA.out.own
  have hb := Lib.hid hA.out.bel
  have hrd : Rd .u8 wr al 114 (SL sd) := fun q hq => by
    obtain ⟨g, cu, rfl, m1, m2, m3, m4⟩ := hmine (by omega)
    refine ⟨g, 0, rfl, m2.cell ?_⟩
    rw [Nat.zero_add]
    exact m4 q hq
  have R := frRead wr al 114 cl (SL sd) hrd ⟨h1, h2, h3⟩ (by omega)
  obtain ⟨r1, r2, r3⟩ := SL_read sd hs
  rw [r1, r2, r3] at R
  unfold frV tailV at R
  have G1 := Lib.hid (fun W => frGood W true false)
  unfold tailV at G1
  have e1 : Int.tmod sd 8 = sd % 8 := Int.tmod_eq_emod_of_nonneg hs.1
  have e2 : IntKind.u64.wrap (sd % 8) = sd % 8 := by rw [IntKind.wrap_u64]; omega
  have e3 : IntKind.i64.wrap (sd % 8) = sd % 8 := wrapI _ (by omega) (by omega)
  have e4 : (2 : Int) ^ 8 = 256 := by decide
  have e5 : (2 : Int) ^ 16 = 65536 := by decide
  replace R := Lib.hid R
  clear h1 h2 h3 hmine hrd r1 r2 r3 hA
  generalize hsq : IntKind.u32.wrap (sd / 256) = sq at *
  generalize hvl : IntKind.u32.wrap (sd / 65536) = vl at *
  go_wp2_with fail
  refine R.out.mono ?_
  rintro e w2 ⟨rfl, hb2⟩
  have hbb := Lib.hid (bthen hb.out hb2)
  clear R hb hb2
  go_upto_region 31 with fail
  have hb4 : Below w2.heap.size w2 ((w2.alloc (.cells #[.int .i64 (sd % 8), .int .u8 2, .int .u8 0, .int .u32 sq, .int .u32 vl] 58)).alloc (.cells #[.bool true, .bool false] 60)) := blk_alloc2 _ _
  have kf : Blk ((w2.alloc (.cells #[.int .i64 (sd % 8), .int .u8 2, .int .u8 0, .int .u32 sq, .int .u32 vl] 58)).alloc (.cells #[.bool true, .bool false] 60)) w2.heap.size #[.int .i64 (sd % 8), .int .u8 2, .int .u8 0, .int .u32 sq, .int .u32 vl] 58 := (Blk.new _ _ _).alloc _
  have kt : Blk ((w2.alloc (.cells #[.int .i64 (sd % 8), .int .u8 2, .int .u8 0, .int .u32 sq, .int .u32 vl] 58)).alloc (.cells #[.bool true, .bool false] 60)) (w2.heap.size + 1) #[.bool true, .bool false] 60 := by
    have := Blk.new (w2.alloc (.cells #[.int .i64 (sd % 8), .int .u8 2, .int .u8 0, .int .u32 sq, .int .u32 vl] 58)) #[.bool true, .bool false] 60
    simpa using this
  have hbb4 := Lib.hid (bthen hbb.out hb4)
  clear hbb hb4
  generalize ((w2.alloc (.cells #[.int .i64 (sd % 8), .int .u8 2, .int .u8 0, .int .u32 sq, .int .u32 vl] 58)).alloc (.cells #[.bool true, .bool false] 60)) = w4 at *
  generalize w2.heap.size = bf at *
  have t0 := kt.cell (i := 0) rfl
  have t1 := kt.cell (i := 1) rfl
  have lt := kt.lt
  replace kf := Lib.hid kf
  clear kt
  go_wp2_with fail
  refine (G1.out _).mono ?_
  rintro e w5 ⟨rfl, hb5⟩
  have hbb5 := Lib.hid (bthen hbb4.out hb5)
  have kf5 := kf.out.below hb5 kf.out.lt
  have f0 := kf5.cell (i := 0) rfl
  have f1 := kf5.cell (i := 1) rfl
  have f2 := kf5.cell (i := 2) rfl
  have f3 := kf5.cell (i := 3) rfl
  have f4 := kf5.cell (i := 4) rfl
  have lf := kf5.lt
  clear hb5 kf kf5 t0 t1 lt hbb4 G1
  have eg : goodB true false = true := rfl
  rw [eg]
  go_wp2_with fail
  refine (hLv.out _).mono ?_
  rintro e w6 ⟨rfl, hb6⟩
  have hb7 := Lib.hid (bthen hbb5.out hb6)
  clear hb6 f0 f1 f2 f3 f4
  go_wp2_with fail
  go_ret
  exact ⟨rfl, hb7.out⟩
end Go.Proofs.Ytmdohnbhogfopaa
