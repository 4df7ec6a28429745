/- FaultsApart: the law. -/
import Derived.Test.YtmdohnbhogfopaaZFaultsApartL
namespace Go.Proofs.Ytmdohnbhogfopaa
open Go.RowKit Go.Maps
set_option linter.unusedSimpArgs false
set_option linter.unusedVariables false
set_option maxRecDepth 100000
set_option maxHeartbeats 8000000 in
theorem apart_bad (w : World) (x : Int) (hx : 0 ≤ x ∧ x < 256) (m : Int) (hm : m = 4 + x % 13) (nd lk : Int) (u : Value) (S : List SpellC) (hs : SpAt 0 w u S) (ao : Option Addr) (n cap : Nat) (hF : faultB m nd lk S.length = false) :
    Calls Try.prog 8 #[.int .u8 x, .agg #[.int .i64 nd, .int .i64 lk, u], .slice ao n cap] w fun e w' => e = .returned (.bool true) ∧ Below w.heap.size w w' := by
  obtain ⟨sa, sn, sc, rfl, hsn⟩ : ∃ a n c, u = .slice a n c ∧ n = S.length := by
    rcases hs with ⟨rfl, h⟩ | ⟨ad, cap, rfl, _⟩
    · exact ⟨_, _, _, rfl, by rw [h]; rfl⟩
    · exact ⟨_, _, _, rfl, rfl⟩
  have hb0 := below_alloc w (.cells #[.int .i64 nd, .int .i64 lk, .slice sa sn sc] 34)
  have k0 : Blk (w.alloc (.cells #[.int .i64 nd, .int .i64 lk, .slice sa sn sc] 34)) w.heap.size #[.int .i64 nd, .int .i64 lk, .slice sa sn sc] 34 := Blk.new w _ _
  have hLv := Lib.hid (fun W => lives29 W)
  rw [← hsn] at hF
  have hN := Lib.hid (fun W => newBad W m nd lk sa sn sc hF)
  replace hb0 := Lib.hid hb0
  have q0 : IntKind.i64.wrap x = x := wrapI _ (by omega) (by omega)
  have q1 : Int.tmod x 13 = x % 13 := Int.tmod_eq_emod_of_nonneg (by omega)
  have q2 : IntKind.i64.wrap (x % 13) = x % 13 := wrapI _ (by omega) (by omega)
  have q3 : IntKind.i64.wrap (4 + x % 13) = m := by rw [wrapI _ (by omega) (by omega)]; omega
  clear hs hsn hF hm hx
  go_enter Try.func8, Try.ntmps8
  go_upto_region 2 with fail
  generalize w.alloc (.cells #[.int .i64 nd, .int .i64 lk, .slice sa sn sc] 34) = w1 at *
  have d0 := k0.cell (i := 0) rfl
  have d1 := k0.cell (i := 1) rfl
  have d2 := k0.cell (i := 2) rfl
  have l0 := k0.lt
  clear k0
  go_wp2_with fail
  refine (hN.out _).mono ?_
  rintro e w2 ⟨rfl, hb2⟩
  have hb02 := Lib.hid (bthen hb0.out hb2)
  clear d0 d1 d2 l0 hb0 hb2
  go_wp2_with fail
  refine (hLv.out _).mono ?_
  rintro e w4 ⟨rfl, hb4⟩
  have hb13 := Lib.hid (bthen hb02.out hb4)
  go_wp2_with fail
  go_ret
  exact ⟨rfl, hb13.out⟩
set_option maxHeartbeats 8000000 in
theorem apart_long (w : World) (x : Int) (hx : 0 ≤ x ∧ x < 256) (m : Int) (hm : m = 4 + x % 13) (F : FaultC) (hF : FaultOk F) (hFm : (F.m : Int) = m) (u : Value) (hs : SpAt 0 w u F.S) (ao : Option Addr) (n cap : Nat) (hn : 60 < n) :
    Calls Try.prog 8 #[.int .u8 x, .agg #[.int .i64 F.nd, .int .i64 F.lk, u], .slice ao n cap] w fun e w' => e = .returned (.bool true) ∧ Below w.heap.size w w' := by
  obtain ⟨sa, sn, sc, rfl, hsn⟩ : ∃ a n c, u = .slice a n c ∧ n = F.S.length := by
    rcases hs with ⟨rfl, h⟩ | ⟨ad, cap, rfl, _⟩
    · exact ⟨_, _, _, rfl, by rw [h]; rfl⟩
    · exact ⟨_, _, _, rfl, rfl⟩
  have hN := Lib.hid (fun (W : World) (hW : Below w.heap.size w W) => newM W F hF _ (hs.keep (KeepC.of_below hW)) [] (by simp))
  have hb0 := Lib.hid (below_alloc w (.cells #[.int .i64 F.nd, .int .i64 F.lk, .slice sa sn sc] 34))
  have k0 : Blk (w.alloc (.cells #[.int .i64 F.nd, .int .i64 F.lk, .slice sa sn sc] 34)) w.heap.size #[.int .i64 F.nd, .int .i64 F.lk, .slice sa sn sc] 34 := Blk.new w _ _
  have hLv := Lib.hid (fun W => lives29 W)
  have q0 : IntKind.i64.wrap x = x := wrapI _ (by omega) (by omega)
  have q1 : Int.tmod x 13 = x % 13 := Int.tmod_eq_emod_of_nonneg (by omega)
  have q2 : IntKind.i64.wrap (x % 13) = x % 13 := wrapI _ (by omega) (by omega)
  have q3 : IntKind.i64.wrap (4 + x % 13) = m := by rw [wrapI _ (by omega) (by omega)]; omega
  rw [hFm] at hN
  have g1 : decide ((60 : Int) < (n : Int)) = true := by simp; omega
  clear hs hsn hF hm hx hFm
  generalize F.nd = nd at *
  generalize F.lk = lk at *
  go_enter Try.func8, Try.ntmps8
  go_upto_region 2 with fail
  generalize w.alloc (.cells #[.int .i64 nd, .int .i64 lk, .slice sa sn sc] 34) = w1 at *
  have d0 := k0.cell (i := 0) rfl
  have d1 := k0.cell (i := 1) rfl
  have d2 := k0.cell (i := 2) rfl
  have l0 := k0.lt
  clear k0
  go_wp2_with fail
  refine (hN.out _ hb0.out).mono ?_
  rintro e w2 ⟨pm, bt, bl, rfl, hM, hb2, -, e1, e2, -, -⟩
  have hb02 := Lib.hid (bthen hb0.out hb2)
  clear d0 d1 d2 l0 hb0 hb2 hM hN e1 e2
  go_wp2_with fail
  refine (hLv.out _).mono ?_
  rintro e w4 ⟨rfl, hb4⟩
  have hb13 := Lib.hid (bthen hb02.out hb4)
  go_wp2_with fail
  go_ret
  exact ⟨rfl, hb13.out⟩
/-- Loops' heads: over links, ticks, spells. -/
def InvLk (w : World) (F : FaultC) (u : Value) (ao : Option Addr) (n cap : Nat) (m : Int) (pm bt bl : Nat) (N : Nat) (k : Nat) (a : Act) (wr : World) : Prop :=
  ∃ i c, i + k = N ∧ c ≤ 8 * i ∧ Hid (ApartAt w F u pm bt bl c wr) ∧ a.tmps.size = 205 ∧ a.defers = [] ∧ slot a 2 = .slice ao n cap ∧ slot a 4 = .pointer (some ⟨w.heap.size, 0, none⟩) ∧ slot a 7 = .int .i64 m ∧ slot a 8 = .pointer (some ⟨pm, 0, none⟩) ∧ slot a 10 = .int .i64 (cntI F i) ∧ slot a 11 = .int .i64 i
def InvTk (w : World) (F : FaultC) (u : Value) (ao : Option Addr) (n cap : Nat) (m : Int) (pm bt bl c0 : Nat) (cn l : Int) (k : Nat) (a : Act) (wr : World) : Prop :=
  ∃ i c, i + k = n ∧ i ≤ 8 ∧ c ≤ c0 + i ∧ Hid (ApartAt w F u pm bt bl c wr) ∧ a.tmps.size = 205 ∧ a.defers = [] ∧ slot a 2 = .slice ao n cap ∧ slot a 4 = .pointer (some ⟨w.heap.size, 0, none⟩) ∧ slot a 7 = .int .i64 m ∧ slot a 8 = .pointer (some ⟨pm, 0, none⟩) ∧ slot a 10 = .int .i64 cn ∧ slot a 11 = .int .i64 l ∧ slot a 12 = .bool (isF F l) ∧ slot a 13 = .int .i64 i
def InvSk (w : World) (F : FaultC) (u : Value) (ao : Option Addr) (n cap : Nat) (m : Int) (pm bt bl c : Nat) (cn l t : Int) (it : Nat) (k : Nat) (a : Act) (wr : World) : Prop :=
  ∃ j, j + k = F.S.length ∧ Hid (ApartAt w F u pm bt bl c wr) ∧ a.tmps.size = 205 ∧ a.defers = [] ∧ slot a 2 = .slice ao n cap ∧ slot a 4 = .pointer (some ⟨w.heap.size, 0, none⟩) ∧ slot a 7 = .int .i64 m ∧ slot a 8 = .pointer (some ⟨pm, 0, none⟩) ∧ slot a 10 = .int .i64 cn ∧ slot a 11 = .int .i64 l ∧ slot a 12 = .bool (isF F l) ∧ slot a 13 = .int .i64 it ∧ slot a 14 = .int .i64 t ∧ slot a 15 = .bool (anyS F l t j) ∧ slot a 16 = .int .i64 j
set_option maxHeartbeats 16000000 in
theorem apart_main (w : World) (x : Int) (hx : 0 ≤ x ∧ x < 256) (m : Int) (hm : m = 4 + x % 13) (F : FaultC) (hF : FaultOk F) (hFm : (F.m : Int) = m) (u : Value) (hs : SpAt 0 w u F.S) (ao : Option Addr) (n cap : Nat) (hn : n ≤ 60) (L : Nat → Int) (ha : Rd .u8 w ao n L) (hL : ∀ i, i < n → 0 ≤ L i ∧ L i < 256) :
    Calls Try.prog 8 #[.int .u8 x, .agg #[.int .i64 F.nd, .int .i64 F.lk, u], .slice ao n cap] w fun e w' => e = .returned (.bool true) ∧ Below w.heap.size w w' := by
  obtain ⟨sa, sn, sc, rfl, hsn⟩ : ∃ a n c, u = .slice a n c ∧ n = F.S.length := by
    rcases hs with ⟨rfl, h⟩ | ⟨ad, cap, rfl, _⟩
    · exact ⟨_, _, _, rfl, by rw [h]; rfl⟩
    · exact ⟨_, _, _, rfl, rfl⟩
  have hN := Lib.hid (fun (W : World) (hW : Below w.heap.size w W) => newM W F hF _ (hs.keep (KeepC.of_below hW)) [] (by simp))
  have hb0 := Lib.hid (below_alloc w (.cells #[.int .i64 F.nd, .int .i64 F.lk, .slice sa sn sc] 34))
  have k0 : Blk (w.alloc (.cells #[.int .i64 F.nd, .int .i64 F.lk, .slice sa sn sc] 34)) w.heap.size #[.int .i64 F.nd, .int .i64 F.lk, .slice sa sn sc] 34 := Blk.new w _ _
  have hLv := Lib.hid (fun W => lives29 W)
  have q0 : IntKind.i64.wrap x = x := wrapI _ (by omega) (by omega)
  have q1 : Int.tmod x 13 = x % 13 := Int.tmod_eq_emod_of_nonneg (by omega)
  have q2 : IntKind.i64.wrap (x % 13) = x % 13 := wrapI _ (by omega) (by omega)
  have q3 : IntKind.i64.wrap (4 + x % 13) = m := by rw [wrapI _ (by omega) (by omega)]; omega
  have w4 : IntKind.i64.wrap (4 * m) = 4 * m := wrapI _ (by omega) (by omega)
  have hbm : 4 ≤ m ∧ m ≤ 16 := by have := hF.m; omega
  rw [hFm] at hN
  have g1 : decide ((60 : Int) < (n : Int)) = false := by simp; omega
  have c0' := cntI_zero hF
  have hFk := Lib.hid hF
  have hTk : Hid (∀ i : Nat, i < n → ∃ b o, ao = some ⟨b, o, none⟩ ∧ (0 ≤ L i ∧ L i < 256) ∧ ∀ W, Below w.heap.size w W → W.cell? ⟨b, o + i, none⟩ = some (.int .u8 (L i))) := fun i hi => by
    obtain ⟨b, o, h1, h2⟩ := ha i hi
    exact ⟨b, o, h1, hL i hi, fun W hW => below_cell h2 hW (World.block_lt_of_cell? w _ h2)⟩
  have hSp : Hid (∀ (j : Nat) (s : SpellC), F.S[j]? = some s → ∃ ad, sa = some ad ∧ ∀ W, Below w.heap.size w W → W.cell? (ad.add (j * 5)) = some (.int .i64 s.fr) ∧ W.cell? ⟨(ad.add (j * 5)).block, (ad.add (j * 5)).off + 1, none⟩ = some (.int .i64 s.til) ∧ W.cell? ⟨(ad.add (j * 5)).block, (ad.add (j * 5)).off + 2, none⟩ = some (.int .u8 s.lk) ∧
      W.cell? ⟨(ad.add (j * 5)).block, (ad.add (j * 5)).off + 3, none⟩ = some (.int .u8 s.kd) ∧ W.cell? ⟨(ad.add (j * 5)).block, (ad.add (j * 5)).off + 4, none⟩ = some (.int .u64 s.sd)) := by
    intro j s hj
    rcases hs with ⟨_, h⟩ | ⟨ad, cap, h1, _, _, _, h5⟩
    · rw [h] at hj
      cases hj
    · simp only [Value.slice.injEq] at h1
      refine ⟨ad, h1.1, fun W hW => ?_⟩
      have hk : ∀ i v, (spL s)[i]? = some v → W.cell? ((ad.add (j * 5)).add i) = some v := fun i v hi => by
        have h0 := h5 j s hj i v hi
        exact below_cell h0 hW (World.block_lt_of_cell? w _ h0)
      generalize ad.add (j * 5) = A at *
      have e : ∀ i, A.add (i + 1) = ⟨A.block, A.off + (i + 1), none⟩ := fun i => by
        unfold Addr.add
        rw [if_neg (by omega)]
      have e0 : A.add 0 = A := by simp [Addr.add]
      exact ⟨by have := hk 0 _ rfl; rwa [e0] at this, by have := hk 1 _ rfl; rwa [e 0] at this, by have := hk 2 _ rfl; rwa [e 1] at this, by have := hk 3 _ rfl; rwa [e 2] at this, by have := hk 4 _ rfl; rwa [e 3] at this⟩
  have hSn : sn ≤ 64 := by rw [hsn]; exact hF.n
  replace hsn := Lib.hid hsn
  clear hs hF hm hx ha hL
  go_enter Try.func8, Try.ntmps8
  go_upto_region 2 with fail
  generalize w.alloc (.cells #[.int .i64 F.nd, .int .i64 F.lk, .slice sa sn sc] 34) = w1 at *
  have d0 := k0.cell (i := 0) rfl
  have d1 := k0.cell (i := 1) rfl
  have d2 := k0.cell (i := 2) rfl
  have l0 := k0.lt
  replace k0 := Lib.hid k0
  go_wp2_with fail
  refine (hN.out _ hb0.out).mono ?_
  rintro e w2 ⟨pm, bt, bl, rfl, hM, hb2, -, e1, e2, -, -⟩
  have hV : Hid (ApartAt w F (.slice sa sn sc) pm bt bl 0 w2) := ⟨bthen hb0.out hb2, k0.out.below hb2 k0.out.lt, by have := hb0.out.size; omega, _, _, hM⟩
  clear d0 d1 d2 l0 hb0 hb2 hM hN e1 e2 k0 q0 q1 q2 q3
  go_wp2_with fail
  refine wp_loop_k (InvLk w F (.slice sa sn sc) ao n cap m pm bt bl (4 * m).toNat) (4 * m).toNat ?_ ?_
  · exact ⟨0, 0, by omega, by omega, hV, by kernel_rfl, rfl, by kernel_rfl, by kernel_rfl, by kernel_rfl, by kernel_rfl, by show _ = Value.int _ (cntI F ((0 : Nat) : Int)); rw [show ((0 : Nat) : Int) = 0 from rfl, c0']; kernel_rfl, by kernel_rfl⟩
  clear hV
  intro gk a wr hI K hK
  obtain ⟨k, c, hi0, hc, hV, hs', hd', k2', k4', k7', k8', k10', k11'⟩ := hI
  rw [fr205 a hs' hd']; simp only [k2', k4', k7', k8', k10', k11']; clear hs' hd' k2' k4' k7' k8' k10' k11'
  replace hK := Lib.hid hK
  by_cases hlt : (k : Int) < 4 * m
  · have g2 : decide ((k : Int) < 4 * m) = true := by simp [hlt]
    have gw : IntKind.i64.wrap ((k : Int) + 1) = ((k + 1 : Nat) : Int) := by rw [wrapI _ (by omega) (by omega)]; omega
    have hk4 : (0 : Int) ≤ (k : Int) ∧ (k : Int) < 4 * F.m := by omega
    have hcm := cntI_more hFk.out k hk4
    have hcr := cntI_range hFk.out k (by omega)
    have hos := Lib.hid (own_said hFk.out k hk4)
    generalize hl : ((k : Nat) : Int) = l at *
    replace hl := Lib.hid hl
    have d0 : wr.cell? ⟨w.heap.size, 0, none⟩ = some (.int .i64 F.nd) := hV.out.box.cell (i := 0) rfl
    have d1 : wr.cell? ⟨w.heap.size, 1, none⟩ = some (.int .i64 F.lk) := hV.out.box.cell (i := 1) rfl
    have ld := hV.out.box.lt
    have e4 : Int.tdiv l 4 = l / 4 := Int.tdiv_eq_ediv_of_nonneg (by omega)
    have e5 : IntKind.i64.wrap (l / 4) = l / 4 := wrapI _ (by omega) (by omega)
    have e6 : IntKind.i64.wrap (cntI F l + 1) = cntI F l + 1 := wrapI _ (by omega) (by omega)
    go_upto_region 9 with fail
    refine wp_cut (fun a wx => (wr = wx) ∧ a.tmps.size = 205 ∧ a.defers = [] ∧ slot a 2 = .slice ao n cap ∧ slot a 4 = .pointer (some ⟨w.heap.size, 0, none⟩) ∧ slot a 7 = .int .i64 m ∧ slot a 8 = .pointer (some ⟨pm, 0, none⟩) ∧ slot a 10 = .int .i64 (cntI F l) ∧ slot a 11 = .int .i64 l ∧ slot a 12 = .bool (isF F l)) ?_ ?_
    · intro K' hK'
      rw [hos.out] at hK'
      by_cases z1 : 0 ≤ F.nd
      · have z2 : decide (0 ≤ F.nd) = true := by simp [z1]
        have z3 : decide (F.nd < 0) = false := by simp; omega
        rw [if_pos z1] at hK'
        cases z4 : (l / 4 == F.nd)
        all_goals
          rw [z4] at hK'
          go_wp2_with fail
          refine hK' _ _ trivial ⟨rfl, by kernel_rfl, rfl, by kernel_rfl, by kernel_rfl, by kernel_rfl, by kernel_rfl, by kernel_rfl, by kernel_rfl, by kernel_rfl⟩
      · have z2 : decide (0 ≤ F.nd) = false := by simp; omega
        have z3 : decide (F.nd < 0) = true := by simp; omega
        rw [if_neg z1] at hK'
        cases z4 : (l == F.lk)
        all_goals
          rw [z4] at hK'
          go_wp2_with fail
          refine hK' _ _ trivial ⟨rfl, by kernel_rfl, rfl, by kernel_rfl, by kernel_rfl, by kernel_rfl, by kernel_rfl, by kernel_rfl, by kernel_rfl, by kernel_rfl⟩
    clear e4 e5 d0 d1
    rintro a wx ⟨rfl, hs', hd', k2', k4', k7', k8', k10', k11', k12'⟩; rw [fr205 a hs' hd']; simp only [k2', k4', k7', k8', k10', k11', k12']; clear hs' hd' k2' k4' k7' k8' k10' k11' k12'
    have hIs := Lib.hid (hV.out.is hFk.out l)
    have hbb : (isF F l != isF F l) = false := by simp
    go_wp2_with fail
    refine hIs.out.mono ?_
    rintro e _ ⟨rfl, rfl⟩
    go_upto_if 77 with fail
    refine wp_cut (fun a wx => (wr = wx) ∧ a.tmps.size = 205 ∧ a.defers = [] ∧ slot a 2 = .slice ao n cap ∧ slot a 4 = .pointer (some ⟨w.heap.size, 0, none⟩) ∧ slot a 7 = .int .i64 m ∧ slot a 8 = .pointer (some ⟨pm, 0, none⟩) ∧ slot a 10 = .int .i64 (cntI F (l + 1)) ∧ slot a 11 = .int .i64 l ∧ slot a 12 = .bool (isF F l)) ?_ ?_
    · intro K' hK'
      rw [hcm] at hK'
      cases z4 : isF F l
      all_goals
        rw [z4] at hK'
        simp only [if_true, Bool.false_eq_true, if_false, Int.add_zero] at hK'
        go_wp2_with fail
        refine hK' _ _ trivial ⟨rfl, by kernel_rfl, rfl, by kernel_rfl, by kernel_rfl, by kernel_rfl, by kernel_rfl, by kernel_rfl, by kernel_rfl, by kernel_rfl⟩
    clear e6 hcm hbb hIs hcr hos
    rintro a wx ⟨rfl, hs', hd', k2', k4', k7', k8', k10', k11', k12'⟩; rw [fr205 a hs' hd']; simp only [k2', k4', k7', k8', k10', k11', k12']; clear hs' hd' k2' k4' k7' k8' k10' k11' k12'
    generalize hcn : cntI F (l + 1) = cn at *
    replace hcn := Lib.hid hcn
    have ec : Int.emod l 256 = l % 256 := rfl
    have eu : IntKind.u8.wrap l = l := by rw [IntKind.wrap_u8]; omega
    have hpl := Lib.hid (postC_ok l (by omega))
    have hPW := Lib.hid (fun W => postW W l (by omega))
    go_wp2_with fail
    refine wp_loop_k (InvTk w F (.slice sa sn sc) ao n cap m pm bt bl c cn l) n ?_ ?_
    · exact ⟨0, c, by omega, by omega, by omega, hV, by kernel_rfl, rfl, by kernel_rfl, by kernel_rfl, by kernel_rfl, by kernel_rfl, by kernel_rfl, by kernel_rfl, by kernel_rfl, by kernel_rfl⟩
    clear hV ld
    intro gk2 a wr hI K2 hK2
    obtain ⟨i, c2, hi2, hi8, hc2, hV, hs', hd', k2', k4', k7', k8', k10', k11', k12', k13'⟩ := hI
    rw [fr205 a hs' hd']; simp only [k2', k4', k7', k8', k10', k11', k12', k13']; clear hs' hd' k2' k4' k7' k8' k10' k11' k12' k13'
    replace hK2 := Lib.hid hK2
    by_cases hlti : i < n ∧ i < 8
    · have g3 : decide ((i : Int) < (n : Int)) = true := by simp; omega
      have g4 : decide ((i : Int) < 8) = true := by simp; omega
      have g5 : (i : Int) < (n : Int) := by omega
      have gwi : IntKind.i64.wrap ((i : Int) + 1) = ((i + 1 : Nat) : Int) := by rw [wrapI _ (by omega) (by omega)]; omega
      obtain ⟨b, o, rfl, hLi, hcw⟩ := hTk.out i hlti.1
      have cT := hcw _ hV.out.bel
      have eL : IntKind.i64.wrap (L i) = L i := wrapI _ (by omega) (by omega)
      replace hcw := Lib.hid hcw
      have ld := hV.out.box.lt
      generalize hT : L i = t at *
      replace hT := Lib.hid hT
      go_upto_region 19 with fail
      clear cT eL
      have az := anyS_zero F l t
      go_wp2_with fail
      refine wp_loop_k (InvSk w F (.slice sa sn sc) (some ⟨b, o, none⟩) n cap m pm bt bl c2 cn l t i) F.S.length ?_ ?_
      · exact ⟨0, by omega, hV, by kernel_rfl, rfl, by kernel_rfl, by kernel_rfl, by kernel_rfl, by kernel_rfl, by kernel_rfl, by kernel_rfl, by kernel_rfl, by kernel_rfl, by kernel_rfl, by rw [az]; kernel_rfl, by kernel_rfl⟩
      clear hV ld
      intro gk3 a wr hI K3 hK3
      obtain ⟨j, hj3, hV, hs', hd', k2', k4', k7', k8', k10', k11', k12', k13', k14', k15', k16'⟩ := hI
      rw [fr205 a hs' hd']; simp only [k2', k4', k7', k8', k10', k11', k12', k13', k14', k15', k16']; clear hs' hd' k2' k4' k7' k8' k10' k11' k12' k13' k14' k15' k16'
      replace hK3 := Lib.hid hK3
      have d0 : wr.cell? ⟨w.heap.size, 0, none⟩ = some (.int .i64 F.nd) := hV.out.box.cell (i := 0) rfl
      have d2 : wr.cell? ⟨w.heap.size, 2, none⟩ = some (.slice sa sn sc) := hV.out.box.cell (i := 2) rfl
      have ld := hV.out.box.lt
      by_cases hltj : j < sn
      · have g6 : decide ((j : Int) < (sn : Int)) = true := by simp; omega
        have g7 : (j : Int) < (sn : Int) := by omega
        have gwj : IntKind.i64.wrap ((j : Int) + 1) = ((j + 1 : Nat) : Int) := by rw [wrapI _ (by omega) (by omega)]; omega
        obtain ⟨s, hsj⟩ : ∃ s, F.S[j]? = some s := ⟨_, List.getElem?_eq_getElem (by have := hsn.out; omega)⟩
        obtain ⟨ad, rfl, hcs⟩ := hSp.out j s hsj
        have hmo := Lib.hid (anyS_more (l := l) (t := t) hsj)
        obtain ⟨f0, f1, f2, f3, f4⟩ := hcs _ hV.out.bel
        replace hcs := Lib.hid hcs
        replace hsj := Lib.hid hsj
        go_upto_region 23 with fail
        have hV5 : Hid (ApartAt w F (.slice (some ad) sn sc) pm bt bl c2 (wr.alloc (.cells #[.int .i64 s.fr, .int .i64 s.til, .int .u8 s.lk, .int .u8 s.kd, .int .u64 s.sd] 27))) := hV.out.below (below_alloc _ _)
        have k5 : Blk (wr.alloc (.cells #[.int .i64 s.fr, .int .i64 s.til, .int .u8 s.lk, .int .u8 s.kd, .int .u64 s.sd] 27)) wr.heap.size #[.int .i64 s.fr, .int .i64 s.til, .int .u8 s.lk, .int .u8 s.kd, .int .u64 s.sd] 27 := Blk.new _ _ _
        clear f0 f1 f2 f3 f4 d0 d2 ld hV
        generalize wr.alloc (.cells #[.int .i64 s.fr, .int .i64 s.til, .int .u8 s.lk, .int .u8 s.kd, .int .u64 s.sd] 27) = w5 at *
        generalize wr.heap.size = b5 at *
        have f0 := k5.cell (i := 0) rfl
        have f1 := k5.cell (i := 1) rfl
        have f2 := k5.cell (i := 2) rfl
        have l5 := k5.lt
        have d0 : w5.cell? ⟨w.heap.size, 0, none⟩ = some (.int .i64 F.nd) := hV5.out.box.cell (i := 0) rfl
        have ld := hV5.out.box.lt
        refine wp_cutQ (fun a wx => (w5 = wx) ∧ a.tmps.size = 205 ∧ a.defers = [] ∧ slot a 2 = .slice (some ⟨b, o, none⟩) n cap ∧ slot a 4 = .pointer (some ⟨w.heap.size, 0, none⟩) ∧ slot a 7 = .int .i64 m ∧ slot a 8 = .pointer (some ⟨pm, 0, none⟩) ∧ slot a 10 = .int .i64 cn ∧ slot a 11 = .int .i64 l ∧ slot a 12 = .bool (isF F l) ∧ slot a 13 = .int .i64 i ∧ slot a 14 = .int .i64 t ∧ slot a 15 = .bool (anyS F l t (j + 1)) ∧ slot a 16 = .int .i64 j) ?_ ?_
        · intro K' hK'
          rw [hmo.out] at hK'
          cases y0 : anyS F l t j with
          | true =>
            rw [y0] at hK'
            go_wp2_with fail
            refine hK' _ _ trivial ⟨rfl, by kernel_rfl, rfl, by kernel_rfl, by kernel_rfl, by kernel_rfl, by kernel_rfl, by kernel_rfl, by kernel_rfl, by kernel_rfl, by kernel_rfl, by kernel_rfl, by kernel_rfl, by kernel_rfl⟩
          | false =>
            rw [y0, Bool.false_or] at hK'
            by_cases z1 : s.fr ≤ t
            · have y1 : decide (s.fr ≤ t) = true := by simp [z1]
              by_cases z2 : t < s.til
              · have y2 : decide (t < s.til) = true := by simp [z2]
                by_cases z3 : F.nd < 0
                · have y3 : decide (F.nd < 0) = true := by simp [z3]
                  have e : inSp F.nd l t s = true := by
                    have h1 : decide (s.fr ≤ t ∧ t < s.til) = true := by simp; omega
                    have h2 : decide (F.nd = -1) = true := by have := hFk.out.nd; simp; omega
                    simp only [inSp, h1, h2, Bool.true_or, Bool.and_self]
                  rw [e] at hK'
                  clear z1 z2 z3 e
                  go_wp2_with fail
                  refine hK' _ _ trivial ⟨rfl, by kernel_rfl, rfl, by kernel_rfl, by kernel_rfl, by kernel_rfl, by kernel_rfl, by kernel_rfl, by kernel_rfl, by kernel_rfl, by kernel_rfl, by kernel_rfl, by kernel_rfl, by kernel_rfl⟩
                · have y3 : decide (F.nd < 0) = false := by simp; omega
                  have e : inSp F.nd l t s = (bits .and .u8 (s.lk / 2 ^ (l % 4).toNat) 1 == 1) := by
                    have h1 : decide (s.fr ≤ t ∧ t < s.til) = true := by simp; omega
                    have h2 : decide (F.nd = -1) = false := by simp; omega
                    simp only [inSp, h1, h2, Bool.false_or, Bool.true_and]
                    rfl
                  rw [e] at hK'
                  clear z1 z2 z3 e
                  go_wp2_with fail
                  refine hK' _ _ trivial ⟨rfl, by kernel_rfl, rfl, by kernel_rfl, by kernel_rfl, by kernel_rfl, by kernel_rfl, by kernel_rfl, by kernel_rfl, by kernel_rfl, by kernel_rfl, by kernel_rfl, ?_, by kernel_rfl⟩
                  rfl
              · have y2 : decide (t < s.til) = false := by simp; omega
                have e : inSp F.nd l t s = false := by
                  have h1 : decide (s.fr ≤ t ∧ t < s.til) = false := by simp; omega
                  simp only [inSp, h1, Bool.false_and]
                rw [e] at hK'
                clear z1 z2 e
                go_wp2_with fail
                refine hK' _ _ trivial ⟨rfl, by kernel_rfl, rfl, by kernel_rfl, by kernel_rfl, by kernel_rfl, by kernel_rfl, by kernel_rfl, by kernel_rfl, by kernel_rfl, by kernel_rfl, by kernel_rfl, by kernel_rfl, by kernel_rfl⟩
            · have y1 : decide (s.fr ≤ t) = false := by simp; omega
              have e : inSp F.nd l t s = false := by
                have h1 : decide (s.fr ≤ t ∧ t < s.til) = false := by simp; omega
                simp only [inSp, h1, Bool.false_and]
              rw [e] at hK'
              clear z1 e
              go_wp2_with fail
              refine hK' _ _ trivial ⟨rfl, by kernel_rfl, rfl, by kernel_rfl, by kernel_rfl, by kernel_rfl, by kernel_rfl, by kernel_rfl, by kernel_rfl, by kernel_rfl, by kernel_rfl, by kernel_rfl, by kernel_rfl, by kernel_rfl⟩
        clear f0 f1 f2 l5 d0 ld k5 hmo
        rintro a wx ⟨rfl, hs', hd', k2', k4', k7', k8', k10', k11', k12', k13', k14', k15', k16'⟩; rw [fr205 a hs' hd']; simp only [k2', k4', k7', k8', k10', k11', k12', k13', k14', k15', k16']; clear hs' hd' k2' k4' k7' k8' k10' k11' k12' k13' k14' k15' k16'
        go_wp2_with fail
        exact hK3.out (F.S.length - (j + 1)) _ _ (by have := hsn.out; omega) ⟨j + 1, by have := hsn.out; omega, hV5, by kernel_rfl, rfl, by kernel_rfl, by kernel_rfl, by kernel_rfl, by kernel_rfl, by kernel_rfl, by kernel_rfl, by kernel_rfl, by kernel_rfl, by kernel_rfl, by kernel_rfl, by kernel_rfl⟩
      have g6 : decide ((j : Int) < (sn : Int)) = false := by simp; omega
      have g7 : ¬ (j : Int) < (sn : Int) := by omega
      obtain rfl : j = F.S.length := by have := hsn.out; omega
      have hSy := Lib.hid (hV.out.says hFk.out (c := c2) (by omega) t l (by omega))
      generalize hany : anyS F l t F.S.length = any at *
      replace hany := Lib.hid hany
      have hPl : Hid (∀ W, Calls Try.prog 18 #[.int .u8 l] W fun e w' => ∃ a n k, e = .returned (.agg #[.int .u8 (postC l).s, .slice a n k]) ∧ WordAt 0 w' (.slice a n k) (postC l).R ∧ Below W.heap.size W w') := fun W => (hPW.out W).mono (by
        rintro e w' ⟨v', rfl, hO, hb⟩
        obtain ⟨a, n, k, rfl⟩ := hO.sl
        exact ⟨a, n, k, rfl, hO.at0 hpl.out.R, hb⟩)
      clear hPW
      generalize postC l = p at *
      go_wp2_with fail
      refine (hPl.out _).mono ?_
      rintro e w6 ⟨a6, n6, k6, rfl, hw6, hb6⟩
      replace hV := Lib.hid (hV.out.below hb6)
      clear hSy
      have hSy := Lib.hid (hV.out.says hFk.out (c := c2) (by omega) t l (by omega) p hpl.out _ hw6)
      clear hb6 hw6 d0 d2 ld
      go_wp2_with fail
      refine hSy.out.mono ?_
      rintro e w7 ⟨r, a7, n7, k7, rfl, hX, hr, hV7⟩
      clear hSy hV
      replace hX := Lib.hid hX
      replace hr := Lib.hid hr
      replace hV7 := Lib.hid hV7
      rw [hany.out] at hr
      go_upto_region 25 with fail
      have hV8 : Hid (ApartAt w F (.slice sa sn sc) pm bt bl (c2 + 1) (w7.alloc (.cells #[.int .u8 r.s, .slice a7 n7 k7] 40))) := hV7.out.below (below_alloc _ _)
      have hX8 : Hid (WordAt 0 (w7.alloc (.cells #[.int .u8 r.s, .slice a7 n7 k7] 40)) (.slice a7 n7 k7) r.R) := hX.out.below (below_alloc _ _)
      have k8 : Blk (w7.alloc (.cells #[.int .u8 r.s, .slice a7 n7 k7] 40)) w7.heap.size #[.int .u8 r.s, .slice a7 n7 k7] 40 := Blk.new _ _ _
      clear hV7 hX
      generalize w7.alloc (.cells #[.int .u8 r.s, .slice a7 n7 k7] 40) = w8 at *
      generalize w7.heap.size = b8 at *
      have hbd : Below w8.heap.size w8 w8.drew := below_drewN w8 1
      have hcl : Hid (∀ W, Below w8.heap.size w8 W → W.cell? ⟨b8, 0, none⟩ = some (.int .u8 r.s) ∧ W.cell? ⟨b8, 1, none⟩ = some (.slice a7 n7 k7)) := fun W hW => ⟨(k8.below hW k8.lt).cell (i := 0) rfl, (k8.below hW k8.lt).cell (i := 1) rfl⟩
      have lk8 := k8.lt
      clear k8
      have fin : Hid (∀ W, Below w8.heap.size w8 W → ApartAt w F (.slice sa sn sc) pm bt bl (c2 + 1) W) := fun W hW => hV8.out.below hW
      have hfp := Lib.hid hpl.out.fine
      cases hown : isF F l with
      | false =>
        have hrp : r = p := hr.out (.inl hown)
        subst hrp
        refine wp_region_held_drew (S := fun W => W.cell? ⟨b8, 0, none⟩ = some (.int .u8 r.s) ∧ W.cell? ⟨b8, 1, none⟩ = some (.slice a7 n7 k7)) (by kernel_rfl) (hcl.out _ hbd) (fun hHeld => ?_)
        refine wpAnyH_take (i := 0) (oi := { dst := some 141, op := .move (.tmp 12), type := _, pos := _, after := _, guard := _ }) (v := ?_) rfl (by kernel_rfl) (by kernel_rfl) (by kernel_rfl) (fun _ _ _ h => h) (Or.inl ⟨by rfl, ?_⟩) (by assumption) ?_
        rotate_left
        · (intro w hSw; (try dsimp only at hSw); go_simp) <;> with_reducible rfl
        try simp only [Act.put, List.setIfInBounds_toArray, List.set_cons_zero, List.set_cons_succ]
        refine wpAnyH_take (i := 1) (oi := { dst := some 142, op := .unOp _ _ (.tmp 141), type := _, pos := _, after := _, guard := _ }) (v := ?_) rfl (by kernel_rfl) (by kernel_rfl) (by kernel_rfl) (fun _ _ _ h => h) (Or.inl ⟨by rfl, ?_⟩) (by assumption) ?_
        rotate_left
        · (intro w hSw; (try dsimp only at hSw); go_simp) <;> with_reducible rfl
        try simp only [Act.put, List.setIfInBounds_toArray, List.set_cons_zero, List.set_cons_succ]
        refine wpAnyH_take (i := 2) (oi := { dst := some 143, op := .move (.tmp 142), type := _, pos := _, after := _, guard := _ }) (v := ?_) rfl (by kernel_rfl) (by kernel_rfl) (by kernel_rfl) (fun _ _ _ h => h) (Or.inl ⟨by rfl, ?_⟩) (by assumption) ?_
        rotate_left
        · (intro w hSw; (try dsimp only at hSw); go_simp) <;> with_reducible rfl
        try simp only [Act.put, List.setIfInBounds_toArray, List.set_cons_zero, List.set_cons_succ]
        refine wpAnyH_take (i := 3) (oi := { dst := some 144, op := .move (.tmp 15), type := _, pos := _, after := _, guard := _ }) (v := undef) rfl (by kernel_rfl) (by kernel_rfl) (by kernel_rfl) (fun _ _ _ h => h) (Or.inr ⟨by rfl, rfl⟩) (by assumption) ?_
        try simp only [Act.put, List.setIfInBounds_toArray, List.set_cons_zero, List.set_cons_succ]
        refine wpAnyH_take (i := 4) (oi := { dst := some 145, op := .unOp _ _ (.tmp 144), type := _, pos := _, after := _, guard := _ }) (v := undef) rfl (by kernel_rfl) (by kernel_rfl) (by kernel_rfl) (fun _ _ _ h => h) (Or.inr ⟨by rfl, rfl⟩) (by assumption) ?_
        try simp only [Act.put, List.setIfInBounds_toArray, List.set_cons_zero, List.set_cons_succ]
        refine wpAnyH_take (i := 5) (oi := { dst := some 146, op := .pick (.tmp 143) _ (.tmp 145), type := _, pos := _, after := _, guard := _ }) (v := ?_) rfl (by kernel_rfl) (by kernel_rfl) (by kernel_rfl) (fun _ _ _ h => h) (Or.inl ⟨by rfl, ?_⟩) (by assumption) ?_
        rotate_left
        · (intro w hSw; (try dsimp only at hSw); go_simp) <;> with_reducible rfl
        try simp only [Act.put, List.setIfInBounds_toArray, List.set_cons_zero, List.set_cons_succ]
        refine wpAnyH_take (i := 6) (oi := { dst := some 147, op := .move (.tmp 146), type := _, pos := _, after := _, guard := _ }) (v := ?_) rfl (by kernel_rfl) (by kernel_rfl) (by kernel_rfl) (fun _ _ _ h => h) (Or.inl ⟨by rfl, ?_⟩) (by assumption) ?_
        rotate_left
        · (intro w hSw; (try dsimp only at hSw); go_simp) <;> with_reducible rfl
        try simp only [Act.put, List.setIfInBounds_toArray, List.set_cons_zero, List.set_cons_succ]
        refine wpAnyH_take (i := 7) (oi := { dst := some 148, op := .load _ (.tmp 18), type := _, pos := _, after := _, guard := _ }) (v := ?_) rfl (by kernel_rfl) (by kernel_rfl) (by kernel_rfl) (fun _ _ _ h => h) (Or.inl ⟨by rfl, ?_⟩) (by assumption) ?_
        rotate_left
        · (intro w hSw; (try dsimp only at hSw); go_simp) <;> with_reducible rfl
        try simp only [Act.put, List.setIfInBounds_toArray, List.set_cons_zero, List.set_cons_succ]
        refine wpAnyH_take (i := 8) (oi := { dst := some 149, op := .move (.tmp 11), type := _, pos := _, after := _, guard := _ }) (v := ?_) rfl (by kernel_rfl) (by kernel_rfl) (by kernel_rfl) (fun _ _ _ h => h) (Or.inl ⟨by rfl, ?_⟩) (by assumption) ?_
        rotate_left
        · (intro w hSw; (try dsimp only at hSw); go_simp) <;> with_reducible rfl
        try simp only [Act.put, List.setIfInBounds_toArray, List.set_cons_zero, List.set_cons_succ]
        refine wpAnyH_take (i := 9) (oi := { dst := some 150, op := .convert _ _ (.tmp 149), type := _, pos := _, after := _, guard := _ }) (v := ?_) rfl (by kernel_rfl) (by kernel_rfl) (by kernel_rfl) (fun _ _ _ h => h) (Or.inl ⟨by rfl, ?_⟩) (by assumption) ?_
        rotate_left
        · (intro w hSw; (try dsimp only at hSw); go_simp) <;> with_reducible rfl
        try simp only [Act.put, List.setIfInBounds_toArray, List.set_cons_zero, List.set_cons_succ]
        refine wpAnyH_ready (rs := [10]) (by kernel_rfl) (by simp) ?_
        refine AllReadyH.cons (o := { dst := some 151, op := .call { callee := .value (.func 18), args := _, argTypes := _ }, type := _, pos := _, after := _, guard := _ }) rfl (fun K6 hK6 => ?_) AllReadyH.nil
        go_simp
        refine (hPl.out _).mono ?_
        rintro e w9 ⟨a9, n9, k9, rfl, hw9, hb9⟩
        have hb89 := Lib.hid (bthen hbd hb9)
        have hE := Lib.hid (alikeFine w9 r.s r.R hfp.out _ _ (hX8.out.below hb89.out) hw9)
        refine hK6.out _ _ (hcl.out _ hb89.out) (fun hHeld => ?_)
        clear hK6 K6 hb9
        try simp only [Act.put, List.setIfInBounds_toArray, List.set_cons_zero, List.set_cons_succ]
        refine wpAnyH_ready (rs := [11]) (by kernel_rfl) (by simp) ?_
        refine AllReadyH.cons (o := { dst := some 152, op := .call { callee := .value (.func 20), args := _, argTypes := _ }, type := _, pos := _, after := _, guard := _ }) rfl (fun K6 hK6 => ?_) AllReadyH.nil
        go_simp
        refine hE.out.mono ?_
        rintro e w10 ⟨rfl, hb10⟩
        have hb810 := Lib.hid (bthen hb89.out hb10)
        have hV9 := Lib.hid (fin.out _ hb810.out)
        refine hK6.out _ _ (hcl.out _ hb810.out) (fun hHeld => ?_)
        clear hK6 K6 hb10
        try simp only [Act.put, List.setIfInBounds_toArray, List.set_cons_zero, List.set_cons_succ]
        refine wpAnyH_take (i := 12) (oi := { dst := some 153, op := .unOp _ _ (.tmp 152), type := _, pos := _, after := _, guard := _ }) (v := ?_) rfl (by kernel_rfl) (by kernel_rfl) (by kernel_rfl) (fun _ _ _ h => h) (Or.inl ⟨by rfl, ?_⟩) (by assumption) ?_
        rotate_left
        · (intro w hSw; (try dsimp only at hSw); go_simp) <;> with_reducible rfl
        try simp only [Act.put, List.setIfInBounds_toArray, List.set_cons_zero, List.set_cons_succ]
        refine wpAnyH_take (i := 13) (oi := { dst := some 154, op := .pick (.tmp 147) (.tmp 153) _, type := _, pos := _, after := _, guard := _ }) (v := ?_) rfl (by kernel_rfl) (by kernel_rfl) (by kernel_rfl) (fun _ _ _ h => h) (Or.inl ⟨by rfl, ?_⟩) (by assumption) ?_
        rotate_left
        · (intro w hSw; (try dsimp only at hSw); go_simp) <;> with_reducible rfl
        try simp only [Act.put, List.setIfInBounds_toArray, List.set_cons_zero, List.set_cons_succ]
        refine wpAnyH_done (by kernel_rfl) ?_ _
        clear hHeld hcl hX8 hfp hV8 hr hPl hpl fin
        go_wp2_with fail
        exact hK2.out (n - (i + 1)) _ _ (by omega) ⟨i + 1, c2 + 1, by omega, by omega, by omega, hV9, by kernel_rfl, rfl, by kernel_rfl, by kernel_rfl, by kernel_rfl, by kernel_rfl, by kernel_rfl, by kernel_rfl, by rw [hown]; kernel_rfl, by kernel_rfl⟩
      | true => 
        cases any with
        | false =>
          have hrp : r = p := hr.out (.inr rfl)
          subst hrp
          refine wp_region_held_drew (S := fun W => W.cell? ⟨b8, 0, none⟩ = some (.int .u8 r.s) ∧ W.cell? ⟨b8, 1, none⟩ = some (.slice a7 n7 k7)) (by kernel_rfl) (hcl.out _ hbd) (fun hHeld => ?_)
          refine wpAnyH_take (i := 0) (oi := { dst := some 141, op := .move (.tmp 12), type := _, pos := _, after := _, guard := _ }) (v := ?_) rfl (by kernel_rfl) (by kernel_rfl) (by kernel_rfl) (fun _ _ _ h => h) (Or.inl ⟨by rfl, ?_⟩) (by assumption) ?_
          rotate_left
          · (intro w hSw; (try dsimp only at hSw); go_simp) <;> with_reducible rfl
          try simp only [Act.put, List.setIfInBounds_toArray, List.set_cons_zero, List.set_cons_succ]
          refine wpAnyH_take (i := 1) (oi := { dst := some 142, op := .unOp _ _ (.tmp 141), type := _, pos := _, after := _, guard := _ }) (v := ?_) rfl (by kernel_rfl) (by kernel_rfl) (by kernel_rfl) (fun _ _ _ h => h) (Or.inl ⟨by rfl, ?_⟩) (by assumption) ?_
          rotate_left
          · (intro w hSw; (try dsimp only at hSw); go_simp) <;> with_reducible rfl
          try simp only [Act.put, List.setIfInBounds_toArray, List.set_cons_zero, List.set_cons_succ]
          refine wpAnyH_take (i := 2) (oi := { dst := some 143, op := .move (.tmp 142), type := _, pos := _, after := _, guard := _ }) (v := ?_) rfl (by kernel_rfl) (by kernel_rfl) (by kernel_rfl) (fun _ _ _ h => h) (Or.inl ⟨by rfl, ?_⟩) (by assumption) ?_
          rotate_left
          · (intro w hSw; (try dsimp only at hSw); go_simp) <;> with_reducible rfl
          try simp only [Act.put, List.setIfInBounds_toArray, List.set_cons_zero, List.set_cons_succ]
          refine wpAnyH_take (i := 3) (oi := { dst := some 144, op := .move (.tmp 15), type := _, pos := _, after := _, guard := _ }) (v := ?_) rfl (by kernel_rfl) (by kernel_rfl) (by kernel_rfl) (fun _ _ _ h => h) (Or.inl ⟨by rfl, ?_⟩) (by assumption) ?_
          rotate_left
          · (intro w hSw; (try dsimp only at hSw); go_simp) <;> with_reducible rfl
          try simp only [Act.put, List.setIfInBounds_toArray, List.set_cons_zero, List.set_cons_succ]
          refine wpAnyH_take (i := 4) (oi := { dst := some 145, op := .unOp _ _ (.tmp 144), type := _, pos := _, after := _, guard := _ }) (v := ?_) rfl (by kernel_rfl) (by kernel_rfl) (by kernel_rfl) (fun _ _ _ h => h) (Or.inl ⟨by rfl, ?_⟩) (by assumption) ?_
          rotate_left
          · (intro w hSw; (try dsimp only at hSw); go_simp) <;> with_reducible rfl
          try simp only [Act.put, List.setIfInBounds_toArray, List.set_cons_zero, List.set_cons_succ]
          refine wpAnyH_take (i := 5) (oi := { dst := some 146, op := .pick (.tmp 143) _ (.tmp 145), type := _, pos := _, after := _, guard := _ }) (v := ?_) rfl (by kernel_rfl) (by kernel_rfl) (by kernel_rfl) (fun _ _ _ h => h) (Or.inl ⟨by rfl, ?_⟩) (by assumption) ?_
          rotate_left
          · (intro w hSw; (try dsimp only at hSw); go_simp) <;> with_reducible rfl
          try simp only [Act.put, List.setIfInBounds_toArray, List.set_cons_zero, List.set_cons_succ]
          refine wpAnyH_take (i := 6) (oi := { dst := some 147, op := .move (.tmp 146), type := _, pos := _, after := _, guard := _ }) (v := ?_) rfl (by kernel_rfl) (by kernel_rfl) (by kernel_rfl) (fun _ _ _ h => h) (Or.inl ⟨by rfl, ?_⟩) (by assumption) ?_
          rotate_left
          · (intro w hSw; (try dsimp only at hSw); go_simp) <;> with_reducible rfl
          try simp only [Act.put, List.setIfInBounds_toArray, List.set_cons_zero, List.set_cons_succ]
          refine wpAnyH_take (i := 7) (oi := { dst := some 148, op := .load _ (.tmp 18), type := _, pos := _, after := _, guard := _ }) (v := ?_) rfl (by kernel_rfl) (by kernel_rfl) (by kernel_rfl) (fun _ _ _ h => h) (Or.inl ⟨by rfl, ?_⟩) (by assumption) ?_
          rotate_left
          · (intro w hSw; (try dsimp only at hSw); go_simp) <;> with_reducible rfl
          try simp only [Act.put, List.setIfInBounds_toArray, List.set_cons_zero, List.set_cons_succ]
          refine wpAnyH_take (i := 8) (oi := { dst := some 149, op := .move (.tmp 11), type := _, pos := _, after := _, guard := _ }) (v := ?_) rfl (by kernel_rfl) (by kernel_rfl) (by kernel_rfl) (fun _ _ _ h => h) (Or.inl ⟨by rfl, ?_⟩) (by assumption) ?_
          rotate_left
          · (intro w hSw; (try dsimp only at hSw); go_simp) <;> with_reducible rfl
          try simp only [Act.put, List.setIfInBounds_toArray, List.set_cons_zero, List.set_cons_succ]
          refine wpAnyH_take (i := 9) (oi := { dst := some 150, op := .convert _ _ (.tmp 149), type := _, pos := _, after := _, guard := _ }) (v := ?_) rfl (by kernel_rfl) (by kernel_rfl) (by kernel_rfl) (fun _ _ _ h => h) (Or.inl ⟨by rfl, ?_⟩) (by assumption) ?_
          rotate_left
          · (intro w hSw; (try dsimp only at hSw); go_simp) <;> with_reducible rfl
          try simp only [Act.put, List.setIfInBounds_toArray, List.set_cons_zero, List.set_cons_succ]
          refine wpAnyH_ready (rs := [10]) (by kernel_rfl) (by simp) ?_
          refine AllReadyH.cons (o := { dst := some 151, op := .call { callee := .value (.func 18), args := _, argTypes := _ }, type := _, pos := _, after := _, guard := _ }) rfl (fun K6 hK6 => ?_) AllReadyH.nil
          go_simp
          refine (hPl.out _).mono ?_
          rintro e w9 ⟨a9, n9, k9, rfl, hw9, hb9⟩
          have hb89 := Lib.hid (bthen hbd hb9)
          have hE := Lib.hid (alikeFine w9 r.s r.R hfp.out _ _ (hX8.out.below hb89.out) hw9)
          refine hK6.out _ _ (hcl.out _ hb89.out) (fun hHeld => ?_)
          clear hK6 K6 hb9
          try simp only [Act.put, List.setIfInBounds_toArray, List.set_cons_zero, List.set_cons_succ]
          refine wpAnyH_ready (rs := [11]) (by kernel_rfl) (by simp) ?_
          refine AllReadyH.cons (o := { dst := some 152, op := .call { callee := .value (.func 20), args := _, argTypes := _ }, type := _, pos := _, after := _, guard := _ }) rfl (fun K6 hK6 => ?_) AllReadyH.nil
          go_simp
          refine hE.out.mono ?_
          rintro e w10 ⟨rfl, hb10⟩
          have hb810 := Lib.hid (bthen hb89.out hb10)
          have hV9 := Lib.hid (fin.out _ hb810.out)
          refine hK6.out _ _ (hcl.out _ hb810.out) (fun hHeld => ?_)
          clear hK6 K6 hb10
          try simp only [Act.put, List.setIfInBounds_toArray, List.set_cons_zero, List.set_cons_succ]
          refine wpAnyH_take (i := 12) (oi := { dst := some 153, op := .unOp _ _ (.tmp 152), type := _, pos := _, after := _, guard := _ }) (v := ?_) rfl (by kernel_rfl) (by kernel_rfl) (by kernel_rfl) (fun _ _ _ h => h) (Or.inl ⟨by rfl, ?_⟩) (by assumption) ?_
          rotate_left
          · (intro w hSw; (try dsimp only at hSw); go_simp) <;> with_reducible rfl
          try simp only [Act.put, List.setIfInBounds_toArray, List.set_cons_zero, List.set_cons_succ]
          refine wpAnyH_take (i := 13) (oi := { dst := some 154, op := .pick (.tmp 147) (.tmp 153) _, type := _, pos := _, after := _, guard := _ }) (v := ?_) rfl (by kernel_rfl) (by kernel_rfl) (by kernel_rfl) (fun _ _ _ h => h) (Or.inl ⟨by rfl, ?_⟩) (by assumption) ?_
          rotate_left
          · (intro w hSw; (try dsimp only at hSw); go_simp) <;> with_reducible rfl
          try simp only [Act.put, List.setIfInBounds_toArray, List.set_cons_zero, List.set_cons_succ]
          refine wpAnyH_done (by kernel_rfl) ?_ _
          clear hHeld hcl hX8 hfp hV8 hr hPl hpl fin
          go_wp2_with fail
          exact hK2.out (n - (i + 1)) _ _ (by omega) ⟨i + 1, c2 + 1, by omega, by omega, by omega, hV9, by kernel_rfl, rfl, by kernel_rfl, by kernel_rfl, by kernel_rfl, by kernel_rfl, by kernel_rfl, by kernel_rfl, by rw [hown]; kernel_rfl, by kernel_rfl⟩
        | true =>
          refine wp_region_held_drew (S := fun W => W.cell? ⟨b8, 0, none⟩ = some (.int .u8 r.s) ∧ W.cell? ⟨b8, 1, none⟩ = some (.slice a7 n7 k7)) (by kernel_rfl) (hcl.out _ hbd) (fun hHeld => ?_)
          refine wpAnyH_take (i := 0) (oi := { dst := some 141, op := .move (.tmp 12), type := _, pos := _, after := _, guard := _ }) (v := ?_) rfl (by kernel_rfl) (by kernel_rfl) (by kernel_rfl) (fun _ _ _ h => h) (Or.inl ⟨by rfl, ?_⟩) (by assumption) ?_
          rotate_left
          · (intro w hSw; (try dsimp only at hSw); go_simp) <;> with_reducible rfl
          try simp only [Act.put, List.setIfInBounds_toArray, List.set_cons_zero, List.set_cons_succ]
          refine wpAnyH_take (i := 1) (oi := { dst := some 142, op := .unOp _ _ (.tmp 141), type := _, pos := _, after := _, guard := _ }) (v := ?_) rfl (by kernel_rfl) (by kernel_rfl) (by kernel_rfl) (fun _ _ _ h => h) (Or.inl ⟨by rfl, ?_⟩) (by assumption) ?_
          rotate_left
          · (intro w hSw; (try dsimp only at hSw); go_simp) <;> with_reducible rfl
          try simp only [Act.put, List.setIfInBounds_toArray, List.set_cons_zero, List.set_cons_succ]
          refine wpAnyH_take (i := 2) (oi := { dst := some 143, op := .move (.tmp 142), type := _, pos := _, after := _, guard := _ }) (v := ?_) rfl (by kernel_rfl) (by kernel_rfl) (by kernel_rfl) (fun _ _ _ h => h) (Or.inl ⟨by rfl, ?_⟩) (by assumption) ?_
          rotate_left
          · (intro w hSw; (try dsimp only at hSw); go_simp) <;> with_reducible rfl
          try simp only [Act.put, List.setIfInBounds_toArray, List.set_cons_zero, List.set_cons_succ]
          refine wpAnyH_take (i := 3) (oi := { dst := some 144, op := .move (.tmp 15), type := _, pos := _, after := _, guard := _ }) (v := ?_) rfl (by kernel_rfl) (by kernel_rfl) (by kernel_rfl) (fun _ _ _ h => h) (Or.inl ⟨by rfl, ?_⟩) (by assumption) ?_
          rotate_left
          · (intro w hSw; (try dsimp only at hSw); go_simp) <;> with_reducible rfl
          try simp only [Act.put, List.setIfInBounds_toArray, List.set_cons_zero, List.set_cons_succ]
          refine wpAnyH_take (i := 4) (oi := { dst := some 145, op := .unOp _ _ (.tmp 144), type := _, pos := _, after := _, guard := _ }) (v := ?_) rfl (by kernel_rfl) (by kernel_rfl) (by kernel_rfl) (fun _ _ _ h => h) (Or.inl ⟨by rfl, ?_⟩) (by assumption) ?_
          rotate_left
          · (intro w hSw; (try dsimp only at hSw); go_simp) <;> with_reducible rfl
          try simp only [Act.put, List.setIfInBounds_toArray, List.set_cons_zero, List.set_cons_succ]
          refine wpAnyH_take (i := 5) (oi := { dst := some 146, op := .pick (.tmp 143) _ (.tmp 145), type := _, pos := _, after := _, guard := _ }) (v := ?_) rfl (by kernel_rfl) (by kernel_rfl) (by kernel_rfl) (fun _ _ _ h => h) (Or.inl ⟨by rfl, ?_⟩) (by assumption) ?_
          rotate_left
          · (intro w hSw; (try dsimp only at hSw); go_simp) <;> with_reducible rfl
          try simp only [Act.put, List.setIfInBounds_toArray, List.set_cons_zero, List.set_cons_succ]
          refine wpAnyH_take (i := 6) (oi := { dst := some 147, op := .move (.tmp 146), type := _, pos := _, after := _, guard := _ }) (v := ?_) rfl (by kernel_rfl) (by kernel_rfl) (by kernel_rfl) (fun _ _ _ h => h) (Or.inl ⟨by rfl, ?_⟩) (by assumption) ?_
          rotate_left
          · (intro w hSw; (try dsimp only at hSw); go_simp) <;> with_reducible rfl
          try simp only [Act.put, List.setIfInBounds_toArray, List.set_cons_zero, List.set_cons_succ]
          refine wpAnyH_take (i := 7) (oi := { dst := some 148, op := .load _ (.tmp 18), type := _, pos := _, after := _, guard := _ }) (v := undef) rfl (by kernel_rfl) (by kernel_rfl) (by kernel_rfl) (fun _ _ _ h => h) (Or.inr ⟨by rfl, rfl⟩) (by assumption) ?_
          try simp only [Act.put, List.setIfInBounds_toArray, List.set_cons_zero, List.set_cons_succ]
          refine wpAnyH_take (i := 8) (oi := { dst := some 149, op := .move (.tmp 11), type := _, pos := _, after := _, guard := _ }) (v := undef) rfl (by kernel_rfl) (by kernel_rfl) (by kernel_rfl) (fun _ _ _ h => h) (Or.inr ⟨by rfl, rfl⟩) (by assumption) ?_
          try simp only [Act.put, List.setIfInBounds_toArray, List.set_cons_zero, List.set_cons_succ]
          refine wpAnyH_take (i := 9) (oi := { dst := some 150, op := .convert _ _ (.tmp 149), type := _, pos := _, after := _, guard := _ }) (v := undef) rfl (by kernel_rfl) (by kernel_rfl) (by kernel_rfl) (fun _ _ _ h => h) (Or.inr ⟨by rfl, rfl⟩) (by assumption) ?_
          try simp only [Act.put, List.setIfInBounds_toArray, List.set_cons_zero, List.set_cons_succ]
          refine wpAnyH_take (i := 10) (oi := { dst := some 151, op := .call { callee := .value (.func 18), args := _, argTypes := _ }, type := _, pos := _, after := _, guard := _ }) (v := undef) rfl (by kernel_rfl) (by kernel_rfl) (by kernel_rfl) (fun _ _ _ h => h) (Or.inr ⟨by rfl, rfl⟩) (by assumption) ?_
          try simp only [Act.put, List.setIfInBounds_toArray, List.set_cons_zero, List.set_cons_succ]
          refine wpAnyH_take (i := 11) (oi := { dst := some 152, op := .call { callee := .value (.func 20), args := _, argTypes := _ }, type := _, pos := _, after := _, guard := _ }) (v := undef) rfl (by kernel_rfl) (by kernel_rfl) (by kernel_rfl) (fun _ _ _ h => h) (Or.inr ⟨by rfl, rfl⟩) (by assumption) ?_
          try simp only [Act.put, List.setIfInBounds_toArray, List.set_cons_zero, List.set_cons_succ]
          refine wpAnyH_take (i := 12) (oi := { dst := some 153, op := .unOp _ _ (.tmp 152), type := _, pos := _, after := _, guard := _ }) (v := undef) rfl (by kernel_rfl) (by kernel_rfl) (by kernel_rfl) (fun _ _ _ h => h) (Or.inr ⟨by rfl, rfl⟩) (by assumption) ?_
          try simp only [Act.put, List.setIfInBounds_toArray, List.set_cons_zero, List.set_cons_succ]
          refine wpAnyH_take (i := 13) (oi := { dst := some 154, op := .pick (.tmp 147) (.tmp 153) _, type := _, pos := _, after := _, guard := _ }) (v := ?_) rfl (by kernel_rfl) (by kernel_rfl) (by kernel_rfl) (fun _ _ _ h => h) (Or.inl ⟨by rfl, ?_⟩) (by assumption) ?_
          rotate_left
          · (intro w hSw; (try dsimp only at hSw); go_simp) <;> with_reducible rfl
          try simp only [Act.put, List.setIfInBounds_toArray, List.set_cons_zero, List.set_cons_succ]
          refine wpAnyH_done (by kernel_rfl) ?_ _
          have hV9 := Lib.hid (fin.out _ hbd)
          clear hHeld hcl hX8 hfp hV8 hr hPl hpl fin
          go_wp2_with fail
          exact hK2.out (n - (i + 1)) _ _ (by omega) ⟨i + 1, c2 + 1, by omega, by omega, by omega, hV9, by kernel_rfl, rfl, by kernel_rfl, by kernel_rfl, by kernel_rfl, by kernel_rfl, by kernel_rfl, by kernel_rfl, by rw [hown]; kernel_rfl, by kernel_rfl⟩
    obtain h8 | h8 : n ≤ i ∨ (i < n ∧ ¬ i < 8) := by omega
    · have g3 : decide ((i : Int) < (n : Int)) = false := by simp; omega
      have g5 : ¬ (i : Int) < (n : Int) := by omega
      have hl1 : ((k + 1 : Nat) : Int) = l + 1 := by have := hl.out; omega
      have hcn' : cntI F ((k + 1 : Nat) : Int) = cn := by rw [hl1]; exact hcn.out
      replace hl1 := Lib.hid hl1
      replace hcn' := Lib.hid hcn'
      go_wp2_with fail
      have hkl := hl.out
      exact hK.out ((4 * m).toNat - (k + 1)) _ _ (by omega) ⟨k + 1, c2, by omega, by omega, hV, by kernel_rfl, rfl, by kernel_rfl, by kernel_rfl, by kernel_rfl, by kernel_rfl, by rw [hcn'.out]; kernel_rfl, by kernel_rfl⟩
    · have g3 : decide ((i : Int) < (n : Int)) = true := by simp; omega
      have g4 : decide ((i : Int) < 8) = false := by simp; omega
      have g5 : (i : Int) < (n : Int) := by omega
      have hl1 : ((k + 1 : Nat) : Int) = l + 1 := by have := hl.out; omega
      have hcn' : cntI F ((k + 1 : Nat) : Int) = cn := by rw [hl1]; exact hcn.out
      replace hl1 := Lib.hid hl1
      replace hcn' := Lib.hid hcn'
      go_wp2_with fail
      have hkl := hl.out
      exact hK.out ((4 * m).toNat - (k + 1)) _ _ (by omega) ⟨k + 1, c2, by omega, by omega, hV, by kernel_rfl, rfl, by kernel_rfl, by kernel_rfl, by kernel_rfl, by kernel_rfl, by rw [hcn'.out]; kernel_rfl, by kernel_rfl⟩
  have g2 : decide ((k : Int) < 4 * m) = false := by simp; omega
  have g3 : ¬ (k : Int) < 4 * m := by omega
  have hki : (k : Int) = 4 * m := by omega
  rw [hki]
  have hIs := Lib.hid (fun W (hW : Below wr.heap.size wr W) l => (hV.out.below hW).is hFk.out l)
  have i1 : isF F (-1) = false := by
    unfold isF
    have : decide (0 ≤ (-1 : Int) ∧ (-1 : Int) < 4 * (F.m : Int)) = false := by simp
    rw [this, Bool.false_and]
  have i2 : isF F (4 * m) = false := by
    unfold isF
    have : decide (0 ≤ 4 * m ∧ 4 * m < 4 * (F.m : Int)) = false := by simp; omega
    rw [this, Bool.false_and]
  have d0 : wr.cell? ⟨w.heap.size, 0, none⟩ = some (.int .i64 F.nd) := hV.out.box.cell (i := 0) rfl
  have d1 : wr.cell? ⟨w.heap.size, 1, none⟩ = some (.int .i64 F.lk) := hV.out.box.cell (i := 1) rfl
  have ld := hV.out.box.lt
  have hV0 : Hid (∀ W, Below wr.heap.size wr W → Below w.heap.size w W) := fun W hW => bthen hV.out.bel hW
  have hca := cntI_all hFk.out
  rw [hFm] at hca
  clear hV hK
  rcases hca with ⟨z1, z2, z3⟩ | ⟨z1, z2, z3⟩ | ⟨z1, z3⟩
  all_goals
    rw [z3]
    first
      | (have y1 : decide (0 ≤ F.nd) = false := by rw [z1]; rfl
         have y2 : decide (F.nd < 0) = true := by rw [z1]; rfl
         have y3 : decide (0 ≤ F.lk) = false := by rw [z2]; rfl
         have y4 : decide (F.lk < 0) = true := by rw [z2]; rfl)
      | (have y1 : decide (0 ≤ F.nd) = false := by rw [z1]; rfl
         have y2 : decide (F.nd < 0) = true := by rw [z1]; rfl
         have y3 : decide (0 ≤ F.lk) = true := by simp [z2]
         have y4 : decide (F.lk < 0) = false := by simp; omega)
      | (have y1 : decide (0 ≤ F.nd) = true := by simp [z1]
         have y2 : decide (F.nd < 0) = false := by simp; omega)
    try clear z2
    clear z1 z3
    go_wp2_with fail
    refine (hIs.out _ (Below.refl _ _) (-1)).mono ?_
    rintro e _ ⟨rfl, rfl⟩
    rw [i1]
    go_wp2_with fail
    refine (hIs.out _ (Below.refl _ _) (4 * m)).mono ?_
    rintro e _ ⟨rfl, rfl⟩
    rw [i2]
    go_wp2_with fail
    refine (hLv.out _).mono ?_
    rintro e w5 ⟨rfl, hb5⟩
    have hb13 := Lib.hid (hV0.out _ hb5)
    go_wp2_with fail
    go_ret
    exact ⟨rfl, hb13.out⟩
theorem faultsApart_any (w : World) (x : Int) (hx : 0 ≤ x ∧ x < 256) (nd lk : Int) (u : Value) (S : List SpellC) (hs : SpAt 0 w u S) (hS : ∀ s ∈ S, SpellOk s) (ao : Option Addr) (n cap : Nat) (L : Nat → Int) (ha : Rd .u8 w ao n L) (hL : ∀ i, i < n → 0 ≤ L i ∧ L i < 256) :
    Calls Try.prog 8 #[.int .u8 x, .agg #[.int .i64 nd, .int .i64 lk, u], .slice ao n cap] w fun e w' => e = .returned (.bool true) ∧ Below w.heap.size w w' := by
  obtain ⟨m, hm⟩ : ∃ m : Int, m = 4 + x % 13 := ⟨_, rfl⟩
  cases hB : faultB m nd lk S.length with
  | false => exact apart_bad w x hx m hm nd lk u S hs ao n cap hB
  | true =>
    obtain ⟨F, hF, hFm, rfl, rfl, rfl⟩ := faultB_ok hB hS
    by_cases hn : 60 < n
    · exact apart_long w x hx m hm F hF hFm u hs ao n cap hn
    · exact apart_main w x hx m hm F hF hFm u hs ao n cap (by omega) L ha hL
end Go.Proofs.Ytmdohnbhogfopaa
