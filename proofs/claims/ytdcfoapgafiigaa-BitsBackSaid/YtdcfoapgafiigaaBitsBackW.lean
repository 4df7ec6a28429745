/- BitsBack: the walk. -/
import Derived.Test.YtdcfoapgafiigaaLives01
import Derived.Test.YtdcfoapgafiigaaBytesC
namespace Go.Proofs.Ytdcfoapgafiigaa
open Go.RowKit
set_option linter.unusedSimpArgs false
set_option linter.unusedVariables false
set_option maxRecDepth 100000
theorem okB_of (L : Nat → Int) (n : Nat) : okB (ofL L) (8 * n) = true := by
  simp [okB, ofL_whole]
theorem cntB_of (L : Nat → Int) (n : Nat) : cntB (ofL L) (8 * n) = n := by
  simp [cntB, okB_of]
theorem numR_put (z b : Nat) (hb : b ≤ 64) : numR (putL (fun _ => 0) 0 z b) b = (((z % 2 ^ b : Nat) : Int), true) := by
  have hw : wholeL (putL (fun _ => 0) 0 z b) b = true := wholeL_iff.2 fun i hi => by
    rcases putL_one (fun _ => 0) 0 z b i with h | h | ⟨h, _⟩
    · exact .inl h
    · exact .inr h
    · omega
  have hn : numL (putL (fun _ => 0) 0 z b) b = ((z % 2 ^ b : Nat) : Int) := by
    rw [← numL_all]
    exact numL_congr fun i hi => by simp [putL]
  simp [numR, hw, hn, hb]
def holeL (L : Nat → Int) (i j : Nat) : Int := if j = i then 0 else L j
theorem hole_whole (L : Nat → Int) (i n : Nat) (hi : i < n) : wholeL (holeL L i) n = false := wholeL_false.2 ⟨i, hi, by simp [holeL], by simp [holeL]⟩
theorem shl_one (m : Nat) (hm : m < 64) : IntKind.u64.wrap ((2 : Int) ^ m) = ((2 ^ m : Nat) : Int) := by
  have h1 : 2 ^ m ≤ 2 ^ 63 := Nat.pow_le_pow_right (by decide) (by omega)
  have h2 : ((2 : Int) ^ m) = ((2 ^ m : Nat) : Int) := by simp
  rw [h2, IntKind.wrap_u64]
  generalize 2 ^ m = Y at *
  omega
theorem hole_one (L : Nat → Int) (i : Nat) : numR (fun j => holeL L i (i + j)) 1 = (0, false) := by
  have hw : wholeL (fun j => holeL L i (i + j)) 1 = false := wholeL_false.2 ⟨0, by omega, by simp [holeL], by simp [holeL]⟩
  simp [numR, hw]
theorem Rd.sub0 {k : IntKind} {w : World} {g n : Nat} {L : Nat → Int} (h : Rd k w (some ⟨g, 0, none⟩) n L) (p m : Nat) (hpm : p + m ≤ n) : Rd k w (some ⟨g, p, none⟩) m (fun i => L (p + i)) := by
  have := h.sub' p m hpm
  rwa [Nat.zero_add] at this
def InvBack (w0 : World) (as_ : Option Addr) (n : Nat) (z p : Nat) (k : Nat) (a : Act) (wr : World) : Prop :=
  ∃ j : Nat, j + k = 65 ∧ Below w0.heap.size w0 wr ∧ a.tmps.size = 135 ∧ a.defers = [] ∧ slot a 1 = .int .u64 z ∧ slot a 2 = .int .u16 p ∧ slot a 7 = .slice as_ (8 * n) (8 * n) ∧ slot a 10 = .int .i64 j
set_option maxHeartbeats 4000000 in
theorem bitsBack_any (w : World) (ao : Option Addr) (n c : Nat) (L : Nat → Int) (z p : Nat) (ha : Rd .u8 w ao n L) (hnil : NilOk ao n c) (hL : ∀ i, i < n → 0 ≤ L i ∧ L i < 256) (hz : z < 18446744073709551616) (hp : p < 65536) :
    Calls Try.prog 8 #[.slice ao n c, .int .u64 z, .int .u16 p] w fun e w' => e = .returned (.bool true) ∧ Below w.heap.size w w' := by
  replace ha := Lib.hid ha
  replace hL := Lib.hid hL
  clear hnil
  by_cases hn : n ≤ 500
  · have hn1 : decide ((500 : Int) < (n : Int)) = false := by simp; omega
    go_enter Try.func8, Try.ntmps8
    go_wp2_with fail
    refine (ofSyms _ _ _ _ _ ha.out hL.out (by omega)).mono ?_
    rintro e w1 ⟨a1, rfl, m1, hb⟩
    have x1 := Lib.hid m1
    clear m1
    go_wp2_with fail
    refine (bitsBytes _ _ _ _ _ x1.out.rd ⟨Nat.le_refl _, by omega, x1.out.none⟩ (by omega)).mono ?_
    rintro e w2 ⟨a2, rfl, m2, hb2⟩
    rw [okB_of, cntB_of]
    rw [cntB_of] at m2
    have x2 := Lib.hid (m2.congr fun j hj => ofL_num L j (hL.out j hj))
    clear m2
    go_wp2_with fail
    refine (sameBytes _ _ _ _ _ _ _ (ha.out.below (bthen hb hb2) (Nat.le_refl _)) x2.out.rd (by omega)).mono ?_
    rintro e w3 ⟨rfl, q3, rfl⟩
    have hb3 := bthen hb2 (below_drewN w2 q3)
    clear x2 hb2
    generalize w2.drewN q3 = w3 at *
    go_wp2_with fail
    refine (bitsWhole _ _ _ _ _ (x1.out.rd.below hb3 (Nat.le_refl _)) (by omega)).mono ?_
    rintro e _ ⟨rfl, rfl⟩
    rw [ofL_whole]
    go_wp2_with fail
    refine wp_loop_k (InvBack w3 a1 n z p) 65 ?_ ?_
    · exact ⟨0, by omega, Below.refl _ _, by kernel_rfl, rfl, by kernel_rfl, by kernel_rfl, by kernel_rfl, by kernel_rfl⟩
    · intro gk a wr hI K hK
      obtain ⟨j, hj, hbr, hs', hd', k1', k2', k7', k10'⟩ := hI
      rw [fr135 a hs' hd']; simp only [k1', k2', k7', k10']; clear hs' hd' k1' k2' k7' k10'
      by_cases hlt : j ≤ 64
      · have hbo : bitsOf (j : Int) = j := by unfold bitsOf; omega
        have P := bitsPut wr none 0 0 (fun _ => 0) z (j : Int) (fun i hi => absurd hi (by omega)) (by simp) (by omega) hz
        rw [hbo, Nat.zero_add] at P
        replace P := Lib.hid P
        clear hbo
        go_wp2_with fail
        refine P.out.mono ?_
        rintro e w4 ⟨a4, rfl, m4, hb4⟩
        have x4 := Lib.hid m4
        replace hb4 := bthen hbr hb4
        clear m4 P hbr
        go_wp2_with fail
        refine (bitsNum _ _ _ _ _ x4.out.rd (by omega)).mono ?_
        rintro e _ ⟨rfl, rfl⟩
        rw [numR_put z j hlt]
        have hj0 : ((j : Int) != (j : Int)) = false := by simp
        by_cases h64 : j = 64
        · subst h64
          have e1 : z % 2 ^ 64 = z := Nat.mod_eq_of_lt (by have : (2 : Nat) ^ 64 = 18446744073709551616 := by decide
                                                           omega)
          rw [e1]
          clear e1
          have e2 : ((z : Int) != (z : Int)) = false := by simp
          go_wp2_with fail
          refine hK 0 _ _ (by omega) ⟨65, by omega, hb4, by kernel_rfl, rfl, by kernel_rfl, by kernel_rfl, by kernel_rfl, ?_⟩
          show Value.int _ _ = Value.int _ _
          simp
        · have h64' : ((j : Int) == 64) = false := by simp; omega
          have hj64 : (j : Int) < 64 := by omega
          have hs := shl_one j (by omega)
          have hpos : 0 < 2 ^ j := two_pos j
          generalize hY : 2 ^ j = Y at *
          obtain ⟨M, hM⟩ : ∃ M : Nat, z % Y = M := ⟨_, rfl⟩
          have hMz : ((z : Int) % (Y : Int)) = M := by omega
          rw [hM]
          have e2 : ((M : Int) != (M : Int)) = false := by simp
          replace hY := Lib.hid hY
          replace hM := Lib.hid hM
          go_wp2_with fail
          refine hK (65 - (j + 1)) _ _ (by omega) ⟨j + 1, by omega, hb4, by kernel_rfl, rfl, by kernel_rfl, by kernel_rfl, by kernel_rfl, ?_⟩
          show Value.int _ _ = Value.int _ _
          simp
      · have hj65 : (64 : Int) < j := by omega
        by_cases h0 : n = 0
        · subst h0
          go_wp2_with fail
          refine (lives01 _).mono ?_
          rintro e wx ⟨rfl, hbL⟩
          go_wp2_with fail
          go_ret
          exact ⟨rfl, bthen (bthen (bthen hb hb3) hbr) hbL⟩
        · have h0' : (((8 * n : Nat) : Int) == 0) = false := by simp; omega
          obtain ⟨i, hi⟩ : ∃ i : Nat, (p : Int) % (8 * (n : Int)) = i := ⟨p % (8 * n), by simp⟩
          have hin : i < 8 * n := by have := Int.emod_lt_of_pos (p : Int) (b := 8 * (n : Int)) (by omega); omega
          have hin' : (i : Int) < 8 * (n : Int) := by omega
          obtain ⟨g, rfl, hg, hgl0, hcs0, hfs0⟩ := x1.out.some (by omega)
          have xr := x1.out.below (bthen hb3 hbr) (Nat.le_refl _)
          obtain ⟨g', hge, hgB, hgl, hcs, hfs⟩ := xr.some (by omega)
          simp only [Option.some.injEq, Addr.mk.injEq, and_true] at hge
          subst hge
          have hci := hcs i hin
          have hfi := hfs i
          have xs := Lib.hid (xr.set i hin 0 (holeL (ofL L) i) (fun j _ => rfl))
          have hbs := (bthen (bthen hb hb3) hbr).setCell (p := ⟨g, i, none⟩) hgB (.int .u8 0)
          have hok : Hid (okB (holeL (ofL L) i) (8 * n) = false) := by show okB (holeL (ofL L) i) (8 * n) = false; simp [okB, hole_whole _ i (8 * n) hin]
          have hcn : Hid (cntB (holeL (ofL L) i) (8 * n) = 0) := by show cntB (holeL (ofL L) i) (8 * n) = 0; simp [cntB, hok.out]
          have hww : Hid (wholeL (holeL (ofL L) i) (8 * n) = false) := hole_whole _ i (8 * n) hin
          clear hcs hfs hcs0 hfs0 xr
          go_wp2_with fail
          generalize hW : wr.setCell ⟨g, i, none⟩ (.int .u8 0) = w5 at *
          clear hW hci hfi
          refine (bitsBytes _ _ _ _ _ xs.out.rd ⟨Nat.le_refl _, by omega, xs.out.none⟩ (by omega)).mono ?_
          rintro e w6 ⟨a6, rfl, m6, hb6⟩
          rw [hok.out, hcn.out]
          clear m6
          go_wp2_with fail
          refine (bitsNum _ _ _ _ _ ((xs.out.rd.below hb6 (Nat.le_refl _)).sub0 i 1 (by omega)) (by omega)).mono ?_
          rintro e _ ⟨rfl, rfl⟩
          rw [hole_one]
          go_wp2_with fail
          refine (bitsWhole _ _ _ _ _ (xs.out.rd.below hb6 (Nat.le_refl _)) (by omega)).mono ?_
          rintro e _ ⟨rfl, rfl⟩
          rw [hww.out]
          go_wp2_with fail
          refine (lives01 _).mono ?_
          rintro e wx ⟨rfl, hbL⟩
          go_wp2_with fail
          go_ret
          exact ⟨rfl, bthen (bthen hbs hb6) hbL⟩
  · have hn1 : decide ((500 : Int) < (n : Int)) = true := by simp; omega
    go_enter Try.func8, Try.ntmps8
    go_wp2_with fail
    refine (lives01 _).mono ?_
    rintro e wx ⟨rfl, hbL⟩
    go_wp2_with fail
    go_ret
    exact ⟨rfl, hbL⟩
end Go.Proofs.Ytdcfoapgafiigaa
