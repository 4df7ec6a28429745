/- Frames: the document's Put, tails, Syms. -/
import Derived.Test.YtlhiamgaobbdnaaFramesF
import Derived.Laws.OwnMore
namespace Go.Proofs.Ytlhiamgaobbdnaa
open Go.RowKit
set_option linter.unusedSimpArgs false
set_option linter.unusedVariables false
set_option maxRecDepth 100000
def InvFP1 (w : World) (H : Nat → Int) (o kk st : Int) (sqn vn : Nat) (k : Nat) (a : Act) (wr : World) : Prop :=
  ∃ (e : Nat) (v : Value), e + k = 4 ∧ Below w.heap.size w wr ∧ w.heap.size + 1 ≤ wr.heap.size ∧ Blk wr w.heap.size #[.int .i64 o, .int .u8 kk, .int .u8 st, .int .u32 sqn, .int .u32 vn] 28 ∧ wr.ownsRow (w.heap.size + 1) 5 1 v (2 + e) (nums .u8 H (2 + e)) ∧
    a.tmps.size = 53 ∧ a.defers = [] ∧ slot a 1 = .pointer (some ⟨w.heap.size, 0, none⟩) ∧ slot a 4 = v ∧ slot a 5 = .int .i64 (3 - e)
def InvFP2 (w : World) (H : Nat → Int) (o kk st : Int) (sqn vn : Nat) (k : Nat) (a : Act) (wr : World) : Prop :=
  ∃ (e : Nat) (v : Value), e + k = 4 ∧ Below w.heap.size w wr ∧ w.heap.size + 1 ≤ wr.heap.size ∧ Blk wr w.heap.size #[.int .i64 o, .int .u8 kk, .int .u8 st, .int .u32 sqn, .int .u32 vn] 28 ∧ wr.ownsRow (w.heap.size + 1) 5 1 v (6 + e) (nums .u8 H (6 + e)) ∧
    a.tmps.size = 53 ∧ a.defers = [] ∧ slot a 1 = .pointer (some ⟨w.heap.size, 0, none⟩) ∧ slot a 4 = v ∧ slot a 6 = .int .i64 (3 - e)
set_option maxHeartbeats 4000000 in
theorem refFrPut (w : World) (o k st sq v : Int) (hk : 0 ≤ k ∧ k < 256) (hst : 0 ≤ st ∧ st < 256) (hsq : 0 ≤ sq ∧ sq < 4294967296) (hv : 0 ≤ v ∧ v < 4294967296) :
    Calls Try.prog 11 #[frV o k st sq v] w fun e w' => ∃ a cc, e = .returned (.tuple #[.slice a (lenF o k) cc, .int .i64 (errF o k)]) ∧ NilOk a (lenF o k) cc ∧ Mine .u8 5 w.heap.size w' a (lenF o k) (frL o k st sq v) ∧ Below w.heap.size w w' := by
  obtain ⟨sqn, rfl⟩ := Int.eq_ofNat_of_zero_le hsq.1
  obtain ⟨vn, rfl⟩ := Int.eq_ofNat_of_zero_le hv.1
  obtain ⟨i0, hi0, hz0, hz1, hz2⟩ := info_parts elemHBytes
  cases hm : mayB o k with
  | false =>
    simp only [lenF, errF, hm]
    unfold frV
    go_enter Try.func11, Try.ntmps11
    go_wp2_with fail
    refine (refMay _ o k st sqn vn).mono ?_
    rintro e w1 ⟨rfl, hb1⟩
    rw [hm]
    go_wp2_with fail
    refine bodyPost_ret (v := .tuple #[.slice none 0 0, .int .i64 1]) (by simp [results, Try.results11, go_sem]) rfl ⟨_, _, rfl, ⟨Nat.le_refl _, by omega, fun _ => ⟨rfl, rfl⟩⟩, Mine.nil _ _ _ _ _ _, bthen (below_alloc _ _) hb1⟩
  | true =>
    have hr := mayB_in hm
    have hh : (0 : Int) ≤ 16 * k + o ∧ 16 * k + o < 256 := by omega
    have u1 : IntKind.i64.wrap k = k := wrap_i64_small _ (by omega) (by omega)
    have u2 : IntKind.i64.wrap (16 * k) = 16 * k := wrap_i64_small _ (by omega) (by omega)
    have u3 : IntKind.i64.wrap (16 * k + o) = 16 * k + o := wrap_i64_small _ (by omega) (by omega)
    have u4 : IntKind.u8.wrap (16 * k + o) = 16 * k + o := by rw [IntKind.wrap_u8]; omega
    have u5 : (16 * k + o) % 256 = 16 * k + o := by omega
    simp only [lenF, errF, hm, if_true]
    have hfr : Hid (frL o k st sqn vn = putS (headL (16 * k + o) st sqn vn) 10) := by show frL o k st sqn vn = _; simp [frL]
    rw [hfr.out]
    obtain ⟨p0, p1, p2, p3⟩ := tail_u8 sqn (by omega)
    obtain ⟨t0, t1, t2, t3⟩ := tail_u8 vn (by omega)
    have hH := Lib.hid (headL_byte (sq := sqn) (v := vn) hh hst)
    have hd0 : Hid (∀ i, i < 4 → headL (16 * k + o) st sqn vn (2 + i) = tailB sqn i) := fun i hi => by
      rw [headL, appL, if_pos (by omega), appL, if_neg (by omega)]; congr 1; omega
    have hd1 : Hid (∀ i, i < 4 → headL (16 * k + o) st sqn vn (6 + i) = tailB vn i) := fun i hi => by
      rw [headL, appL, if_neg (by omega)]; congr 1; omega
    have hlit : Hid ([Value.int .u8 (16 * k + o), Value.int .u8 st] = nums .u8 (headL (16 * k + o) st sqn vn) 2) := rfl
    generalize headL (16 * k + o) st sqn vn = H at *
    have M := Lib.hid (fun W => refMay W o k st sqn vn)
    rw [hm] at M
    clear hm hfr hr hh hsq hv
    unfold frV at M ⊢
    go_enter Try.func11, Try.ntmps11
    go_wp2_with fail
    have hB0 := Blk.new w #[.int .i64 o, .int .u8 k, .int .u8 st, .int .u32 sqn, .int .u32 vn] 28
    refine (M.out _).mono ?_
    rintro e w1 ⟨rfl, hb1⟩
    have hB1 := hB0.below hb1 hB0.lt
    have hb01 := bthen (below_alloc _ _) hb1
    obtain ⟨⟨c0, c1, c2, c3, c4⟩, _⟩ := fr_cells hB1
    have hsz : w.heap.size + 1 ≤ w1.heap.size := hB1.lt
    have hown1 := Lib.hid (World.ownsRow_lit (base := w.heap.size + 1) (e := 5) (size := 1) w1 #[.int .u8 (16 * k + o), .int .u8 st] 2 hsz (by unfold maxLen; omega) rfl)
    have hB1' := Lib.hid hB1
    clear hB0 hb1 hB1 M
    go_wp2
    clear u1 u2 u3 u4 u5
    refine wp_loop_k (InvFP1 w H o k st sqn vn) 4 ?_ ?_
    · refine ⟨0, .slice (some ⟨w1.heap.size, 0, none⟩) 2 2, by omega, bthen hb01 (below_alloc _ _), by simp; omega, hB1'.out.alloc _, ?_, by kernel_rfl, rfl, by kernel_rfl, by kernel_rfl, by kernel_rfl⟩
      rw [Nat.add_zero, ← hlit.out]
      exact hown1.out
    clear c0 c1 c2 c3 c4 hB1' hown1 hb01 hsz
    intro gk a wr hI K1 hK1
    obtain ⟨e, vv, he, hb, hsz, hB, hown, hs', hd', k1', k4', k5'⟩ := hI
    rw [fr53 a hs' hd']; simp only [k1', k4', k5']; clear hs' hd' k1' k4' k5'
    replace hb := Lib.hid hb
    replace hown := Lib.hid hown
    replace hB := Lib.hid hB
    by_cases hle : e < 4
    · have hrow : Hid (H (2 + e) = tailB sqn e) := hd0.out e hle
      obtain ⟨s, hs⟩ : ∃ s : Int, s = 3 - (e : Int) := ⟨_, rfl⟩
      rw [← hs]
      have hcase : (e = 0 ∧ s = 3) ∨ (e = 1 ∧ s = 2) ∨ (e = 2 ∧ s = 1) ∨ (e = 3 ∧ s = 0) := by omega
      clear hs
      obtain ⟨⟨c0, c1, c2, c3, c4⟩, _⟩ := fr_cells hB.out
      rcases hcase with ⟨rfl, rfl⟩ | ⟨rfl, rfl⟩ | ⟨rfl, rfl⟩ | ⟨rfl, rfl⟩
      all_goals
        try simp only [Nat.add_zero] at hrow
        go_wp2_with (at_builtin; refine append_one rfl _ _ 29 rfl (w.heap.size + 1) 5 i0 (.int .u8 0) 1 Try.underlying29 hi0 hz0 hz1 hz2 rfl _ _ _ rfl hown.out _ rfl rfl (by omega) (by omega) hsz ?_)
        intro g1 cc1 w3 hown3 hg3 hb3
        rw [← hrow.out, ← nums_succ] at hown3
        have hb4 := Lib.hid (hb.out.trans (hb3.mono (Nat.le_succ _)))
        have hB4 := Lib.hid (hB.out.below hb3 (Nat.lt_succ_self _))
        have hsz4 : w.heap.size + 1 ≤ w3.heap.size := hB4.out.lt
        have hown4 := Lib.hid hown3
        clear hown3 hg3 hb3 hb hown hB c0 c1 c2 c3 c4
        go_wp2
        first
          | exact hK1 (gk - 1) _ _ (by omega) ⟨1, _, by omega, hb4.out, hsz4, hB4.out, hown4.out, by kernel_rfl, rfl, by kernel_rfl, by kernel_rfl, by kernel_rfl⟩
          | exact hK1 (gk - 1) _ _ (by omega) ⟨2, _, by omega, hb4.out, hsz4, hB4.out, hown4.out, by kernel_rfl, rfl, by kernel_rfl, by kernel_rfl, by kernel_rfl⟩
          | exact hK1 (gk - 1) _ _ (by omega) ⟨3, _, by omega, hb4.out, hsz4, hB4.out, hown4.out, by kernel_rfl, rfl, by kernel_rfl, by kernel_rfl, by kernel_rfl⟩
          | exact hK1 (gk - 1) _ _ (by omega) ⟨4, _, by omega, hb4.out, hsz4, hB4.out, hown4.out, by kernel_rfl, rfl, by kernel_rfl, by kernel_rfl, by kernel_rfl⟩
    · obtain rfl : e = 4 := by omega
      have g1 : decide ((0 : Int) ≤ 3 - ((4 : Nat) : Int)) = false := by decide
      clear hK1 he
      go_wp2
      refine wp_loop_k (InvFP2 w H o k st sqn vn) 4 ?_ ?_
      · exact ⟨0, vv, by omega, hb.out, hsz, hB.out, hown.out, by kernel_rfl, rfl, by kernel_rfl, by kernel_rfl, by kernel_rfl⟩
      clear hb hsz hB hown hle g1
      intro gk2 a wr hI K2 hK2
      obtain ⟨e, vv, he, hb, hsz, hB, hown, hs', hd', k1', k4', k6'⟩ := hI
      rw [fr53 a hs' hd']; simp only [k1', k4', k6']; clear hs' hd' k1' k4' k6'
      replace hb := Lib.hid hb
      replace hown := Lib.hid hown
      replace hB := Lib.hid hB
      by_cases hle : e < 4
      · have hrow : Hid (H (6 + e) = tailB vn e) := hd1.out e hle
        obtain ⟨s, hs⟩ : ∃ s : Int, s = 3 - (e : Int) := ⟨_, rfl⟩
        rw [← hs]
        have hcase : (e = 0 ∧ s = 3) ∨ (e = 1 ∧ s = 2) ∨ (e = 2 ∧ s = 1) ∨ (e = 3 ∧ s = 0) := by omega
        clear hs
        obtain ⟨⟨c0, c1, c2, c3, c4⟩, _⟩ := fr_cells hB.out
        rcases hcase with ⟨rfl, rfl⟩ | ⟨rfl, rfl⟩ | ⟨rfl, rfl⟩ | ⟨rfl, rfl⟩
        all_goals
          try simp only [Nat.add_zero] at hrow
          go_wp2_with (at_builtin; refine append_one rfl _ _ 29 rfl (w.heap.size + 1) 5 i0 (.int .u8 0) 1 Try.underlying29 hi0 hz0 hz1 hz2 rfl _ _ _ rfl hown.out _ rfl rfl (by omega) (by omega) hsz ?_)
          intro g1 cc1 w3 hown3 hg3 hb3
          rw [← hrow.out, ← nums_succ] at hown3
          have hb4 := Lib.hid (hb.out.trans (hb3.mono (Nat.le_succ _)))
          have hB4 := Lib.hid (hB.out.below hb3 (Nat.lt_succ_self _))
          have hsz4 : w.heap.size + 1 ≤ w3.heap.size := hB4.out.lt
          have hown4 := Lib.hid hown3
          clear hown3 hg3 hb3 hb hown hB c0 c1 c2 c3 c4
          go_wp2
          first
            | exact hK2 (gk2 - 1) _ _ (by omega) ⟨1, _, by omega, hb4.out, hsz4, hB4.out, hown4.out, by kernel_rfl, rfl, by kernel_rfl, by kernel_rfl, by kernel_rfl⟩
            | exact hK2 (gk2 - 1) _ _ (by omega) ⟨2, _, by omega, hb4.out, hsz4, hB4.out, hown4.out, by kernel_rfl, rfl, by kernel_rfl, by kernel_rfl, by kernel_rfl⟩
            | exact hK2 (gk2 - 1) _ _ (by omega) ⟨3, _, by omega, hb4.out, hsz4, hB4.out, hown4.out, by kernel_rfl, rfl, by kernel_rfl, by kernel_rfl, by kernel_rfl⟩
            | exact hK2 (gk2 - 1) _ _ (by omega) ⟨4, _, by omega, hb4.out, hsz4, hB4.out, hown4.out, by kernel_rfl, rfl, by kernel_rfl, by kernel_rfl, by kernel_rfl⟩
      · obtain rfl : e = 4 := by omega
        have g1 : decide ((0 : Int) ≤ 3 - ((4 : Nat) : Int)) = false := by decide
        obtain ⟨a4, c4, rfl, hc4, hcm4, hnil4, hm4⟩ := own_mine hown.out
        replace hm4 := Lib.hid hm4
        clear hK2 hown
        go_wp2_with fail
        refine (refPut wr a4 10 c4 H hm4.out.rd ⟨hc4, hcm4, hnil4⟩ hH.out (by omega)).mono ?_
        rintro e w5 ⟨a5, c5, rfl, q1, q2, m5, hb5⟩
        have hn5 := m5.none
        have hbs := hb.out.size
        have hb05 := bthen hb.out hb5
        go_wp2_with fail
        refine bodyPost_ret (v := .tuple #[.slice a5 14 c5, .int .i64 0]) (by simp [results, Try.results11, go_sem]) rfl ⟨_, _, rfl, ⟨q1, q2, fun e => by have := hn5 e; omega⟩, m5.mono hbs, hb05⟩
end Go.Proofs.Ytlhiamgaobbdnaa
