/- FaultsSays: the law. -/
import Derived.Test.YtmdohnbhogfopaaZSaysA
import Derived.Test.YtmdohnbhogfopaaZTwnEI
namespace Go.Proofs.Ytmdohnbhogfopaa
open Go.RowKit Go.Maps
set_option linter.unusedSimpArgs false
set_option linter.unusedVariables false
set_option maxRecDepth 100000
def InvS2 (w : World) (F : FaultC) (pm bt bl pd : Nat) (ao : Option Addr) (n cap : Nat) (k : Nat) (a : Act) (wr : World) : Prop :=
  ∃ i, i + k = n ∧ Hid (StAt w F pm bt bl pd i (fun _ => False) wr) ∧ a.tmps.size = 187 ∧ a.defers = [] ∧ slot a 2 = .slice ao n cap ∧ slot a 8 = .pointer (some ⟨pm, 0, none⟩) ∧ slot a 10 = .pointer (some ⟨pd, 0, none⟩) ∧ slot a 13 = .int .i64 i
def InvS3 (W : World) (ad : Addr) (n cap pm pd j p1 p2 b15 q2 b17 tn : Nat) (k : Nat) (a : Act) (wr : World) : Prop :=
  ∃ i, i + k = tn ∧ Hid (LpT p1 p2 W wr) ∧ a.tmps.size = 187 ∧ a.defers = [] ∧ slot a 2 = .slice (some ad) n cap ∧ slot a 8 = .pointer (some ⟨pm, 0, none⟩) ∧ slot a 10 = .pointer (some ⟨pd, 0, none⟩) ∧ slot a 13 = .int .i64 j ∧ slot a 15 = .pointer (some ⟨b15, 0, none⟩) ∧ slot a 16 = .pointer (some ⟨q2, 0, none⟩) ∧ slot a 17 = .pointer (some ⟨b17, 0, none⟩) ∧ slot a 18 = .int .i64 i
def InvS4 (W : World) (ad : Addr) (n cap pm pd j q1 q2 : Nat) (v : Value) (an : Nat) (k : Nat) (a : Act) (wr : World) : Prop :=
  ∃ i, i + k = an ∧ Hid (LpA q1 q2 W v an i wr) ∧ a.tmps.size = 187 ∧ a.defers = [] ∧ slot a 2 = .slice (some ad) n cap ∧ slot a 8 = .pointer (some ⟨pm, 0, none⟩) ∧ slot a 10 = .pointer (some ⟨pd, 0, none⟩) ∧ slot a 13 = .int .i64 j ∧ slot a 16 = .pointer (some ⟨q2, 0, none⟩) ∧ slot a 19 = .int .i64 i
def spZ : Array Value := #[.int .i64 0, .int .i64 0, .int .u8 0, .int .u8 0, .int .u64 0]
theorem spZ_size : (Try.prog.info? 27).map (·.size) = some spZ.size := by kernel_rfl
theorem spZ_one : spZ.all (·.oneCell') = true := by kernel_rfl
def InvS1 (w W : World) (F : FaultC) (u v : Value) (b7 n : Nat) (pm pd : Nat) (ao : Option Addr) (na cap : Nat) (nd lk : Int) (k : Nat) (a : Act) (wr : World) : Prop :=
  ∃ i, i + k = n ∧ Hid (LpS W v n i wr ∧ Blk wr w.heap.size #[.int .i64 nd, .int .i64 lk, u] 34 ∧ Blk wr b7 #[.int .i64 nd, .int .i64 lk, v] 34) ∧ a.tmps.size = 187 ∧ a.defers = [] ∧ slot a 2 = .slice ao na cap ∧ slot a 4 = .pointer (some ⟨w.heap.size, 0, none⟩) ∧ slot a 7 = .pointer (some ⟨b7, 0, none⟩) ∧ slot a 8 = .pointer (some ⟨pm, 0, none⟩) ∧ slot a 10 = .pointer (some ⟨pd, 0, none⟩) ∧ slot a 12 = .int .i64 i
set_option maxHeartbeats 16000000 in
theorem says_good (w : World) (F : FaultC) (hF : FaultOk F) (u : Value) (hs : SpAt 0 w u F.S) (v : Value) (L : List AskC) (hL : AsksIn w v L) (hf : ∀ x ∈ L, AskFit x) (hn : L.length ≤ 80) :
    Calls Try.prog 5 #[.int .i64 F.m, .agg #[.int .i64 F.nd, .int .i64 F.lk, u], v] w fun e w' => e = .returned (.bool true) ∧ Below w.heap.size w w' := by
  obtain ⟨ao, n, cap, hnL, rfl, hA⟩ := hL.len
  rw [← hnL] at hn
  obtain ⟨ir, zr, hir, hzr0, hzr2, -, hzr3, hzr4⟩ := rowInfo
  obtain ⟨dr, hdr, hdr1⟩ := rowRow
  have hbz := built_none hir hzr0 Try.underlying97 (places := [(0, 1), (1, 55), (56, 1)]) (by kernel_rfl)
  have hzr1 : zr.cells.all (·.oneCell') = true := by
    have h1 : (zeroH ++ [Value.slice none 0 0]).toArray.all (·.oneCell') = true := by kernel_rfl
    have h2 : zr.cells = (zeroH ++ [Value.slice none 0 0]).toArray := Array.ext' (by rw [hzr4])
    rw [h2]
    exact h1
  generalize zr.cells = Z at *
  clear hir hzr0 hzr2 hzr4
  obtain ⟨sa, sn, sc, rfl, hsn⟩ : ∃ a n c, u = .slice a n c ∧ n = F.S.length := by
    rcases hs with ⟨rfl, h⟩ | ⟨ad, cap, rfl, _⟩
    · exact ⟨_, _, _, rfl, by rw [h]; rfl⟩
    · exact ⟨_, _, _, rfl, rfl⟩
  have hFn : F.S.length ≤ 64 := hF.n
  have hb0 := below_alloc w (.cells #[.int .i64 F.nd, .int .i64 F.lk, .slice sa sn sc] 34)
  have k0 : Blk (w.alloc (.cells #[.int .i64 F.nd, .int .i64 F.lk, .slice sa sn sc] 34)) w.heap.size #[.int .i64 F.nd, .int .i64 F.lk, .slice sa sn sc] 34 := Blk.new w _ _
  have hLv := Lib.hid (fun W => lives29 W)
  have hN := Lib.hid (fun (W : World) (v : Value) (hv : SpAt 0 W v F.S) => newMp W F hF v hv)
  have hO := Lib.hid (fun (W : World) (hW : Below w.heap.size w W) => otherF W F.nd F.lk (.slice sa sn sc) F.S (hs.keep (KeepC.of_below hW)) hF.S (by omega))
  have hN2 := Lib.hid (fun (W : World) (hW : w.heap.size ≤ W.heap.size) (v : Value) (hv : W.ownsRow w.heap.size 177 5 v F.S.length (spFlat2 F.S)) => newOk2 w.heap.size W hW F hF v hv)
  have hsp : Hid (∀ W, Below w.heap.size w W → ∀ (j : Nat) (s : SpellC), F.S[j]? = some s → ∃ ad, sa = some ad ∧ W.cell? (ad.add (j * 5)) = some (.int .i64 s.fr) ∧ W.cell? ⟨(ad.add (j * 5)).block, (ad.add (j * 5)).off + 1, none⟩ = some (.int .i64 s.til) ∧ W.cell? ⟨(ad.add (j * 5)).block, (ad.add (j * 5)).off + 2, none⟩ = some (.int .u8 s.lk) ∧
      W.cell? ⟨(ad.add (j * 5)).block, (ad.add (j * 5)).off + 3, none⟩ = some (.int .u8 s.kd) ∧ W.cell? ⟨(ad.add (j * 5)).block, (ad.add (j * 5)).off + 4, none⟩ = some (.int .u64 s.sd)) := fun W hW j s hj => hs.cells5 (KeepC.of_below hW) hj
  have hask : Hid (∀ i : Nat, i < n → ∃ ad x va vn vc, ao = some ad ∧ AskFit x ∧ WordAt 0 w (.slice va vn vc) x.p.R ∧ ∀ W, Below w.heap.size w W → W.cell? (ad.add (i * 4)) = some (.int .i64 x.t) ∧ W.cell? ⟨(ad.add (i * 4)).block, (ad.add (i * 4)).off + 1, none⟩ = some (.int .i64 x.l) ∧ W.cell? ⟨(ad.add (i * 4)).block, (ad.add (i * 4)).off + 2, none⟩ = some (.int .u8 x.p.s) ∧ W.cell? ⟨(ad.add (i * 4)).block, (ad.add (i * 4)).off + 3, none⟩ = some (.slice va vn vc)) := fun i hi => by
    obtain ⟨x, hx⟩ : ∃ x, L[i]? = some x := ⟨_, List.getElem?_eq_getElem (by omega)⟩
    obtain ⟨ad, rfl, v, hv, hc⟩ := hA i x hx
    obtain ⟨va, vn, vc, _, rfl, _⟩ := hv.len
    exact ⟨ad, x, va, vn, vc, rfl, hf x (List.mem_of_getElem? hx), hv, fun W hW => ask_cells4 hc hW⟩
  clear hL hf hA hnL L
  have hFm := Lib.hid hF
  have hS : ¬ 100 < sn := by omega
  have hnew : w.heap.size ≠ (w.alloc (.cells #[.int .i64 F.nd, .int .i64 F.lk, .slice sa sn sc] 34)).heap.size := by simp
  have hn' : ¬ 80 < n := by omega
  clear hF hFn
  replace hs := Lib.hid hs
  replace hsn := Lib.hid hsn
  generalize F.m = m at *
  generalize F.nd = nd at *
  generalize F.lk = lk at *
  generalize hSe : F.S = S at *
  replace hSe := Lib.hid hSe
  have g1 : decide ((80 : Int) < (n : Int)) = false := by simp; omega
  have g2 : decide ((100 : Int) < (sn : Int)) = false := by simp; omega
  go_enter Try.func5, Try.ntmps5
  go_upto_region 1 with fail
  generalize w.alloc (.cells #[.int .i64 nd, .int .i64 lk, .slice sa sn sc] 34) = w1 at *
  have d0 := k0.cell (i := 0) rfl
  have d1 := k0.cell (i := 1) rfl
  have d2 := k0.cell (i := 2) rfl
  have l0 := k0.lt
  replace k0 := Lib.hid k0
  go_upto_region 4 with fail
  have hb2 : Below w1.heap.size w1 (w1.alloc (.cells #[.int .i64 nd, .int .i64 lk, .slice sa sn sc] 34)) := below_alloc _ _
  have k2 := k0.out.below hb2 k0.out.lt
  have k70 : Blk (w1.alloc (.cells #[.int .i64 nd, .int .i64 lk, .slice sa sn sc] 34)) w1.heap.size #[.int .i64 nd, .int .i64 lk, .slice sa sn sc] 34 := Blk.new _ _ _
  have hb02 := bthen hb0 hb2
  clear d0 d1 d2 l0 k0 hb2
  generalize w1.alloc (.cells #[.int .i64 nd, .int .i64 lk, .slice sa sn sc] 34) = w2 at *
  have hge7 : w.heap.size ≤ w1.heap.size := hb0.size
  have hne7 : w.heap.size ≠ w1.heap.size := by
    have := hb0.size
    intro e
    have h1 := k2.lt
    exact hnew e
  generalize w1.heap.size = b7 at *
  obtain ⟨v', w3, hr3, hown3, hb23⟩ := run_append_sp w2 (.slice sa sn sc) S (hs.out.keep (KeepC.of_below hb02)) (by rw [← hsn.out]; omega)
  have d2 := k2.cell (i := 2) rfl
  have l0 := k2.lt
  have k23 := k2.below hb23 k2.lt
  have k73 := k70.below hb23 k70.lt
  have f73 := k73.free
  have l73 := k73.lt
  have c73 := k73.cell (i := 2) rfl
  have hb03 := Lib.hid (bthen hb02 hb23)
  obtain ⟨va, vn, vc, rfl, hvn⟩ : ∃ a n c, v' = .slice a n c ∧ n = S.length := by
    rcases hown3.2 with ⟨rfl, h⟩ | ⟨g, c, _, rfl, _⟩
    · exact ⟨_, _, _, rfl, h.symm⟩
    · exact ⟨_, _, _, rfl, rfl⟩
  rw [← hsn.out] at hvn
  subst hvn
  replace hown3 := Lib.hid hown3
  replace k23 := Lib.hid k23
  replace k73 := Lib.hid k73
  go_upto_region 5 with (first | (at_builtin; refine wpList_val rfl (ex_append (.const (.slice none 0 0)) (.tmp 32) 32 rfl 32 rfl (.slice none 0 0) (.slice sa vn sc) _ rfl rfl hr3) ?_) | fail)
  have hT4 : Touch [b7] w3 (w3.setCell ⟨b7, 2, none⟩ (.slice va vn vc)) := (Touch.refl [b7] w3).setCell (p := ⟨b7, 2, none⟩) (.inl (by simp)) _
  have hb04 := hT4.below hb03.out hb03.out.size (by have := hge7; simp; omega)
  have k4 : Blk (w3.setCell ⟨b7, 2, none⟩ (.slice va vn vc)) w.heap.size #[.int .i64 nd, .int .i64 lk, .slice sa vn sc] 34 := k23.out.setNe (a := ⟨b7, 2, none⟩) hne7 _
  have k7 : Blk (w3.setCell ⟨b7, 2, none⟩ (.slice va vn vc)) b7 #[.int .i64 nd, .int .i64 lk, .slice va vn vc] 34 := (k73.out.set 2 (.slice va vn vc)).congr rfl
  have hown4 : Hid ((w3.setCell ⟨b7, 2, none⟩ (.slice va vn vc)).ownsRow w.heap.size 27 5 (.slice va vn vc) S.length (spFlat S)) := by
    have := hown3.out
    refine ⟨this.1, ?_⟩
    rcases this.2 with h3 | ⟨g, cap, cur, h3, h4, h5, h6⟩
    · exact .inl h3
    · have hgb : Blk w3 g cur 27 := h5
      exact .inr ⟨g, cap, cur, h3, by have := hb02.size; omega, hgb.setNe (a := ⟨b7, 2, none⟩) (hgb.ne k73.out (by decide)) _, h6⟩
  clear hown3 k23 k73 f73 l73 c73 hr3 k2 k70 d2 l0 hT4 hb23 hb03
  generalize w3.setCell ⟨b7, 2, none⟩ (.slice va vn vc) = w4 at *
  clear hb0 hb02 w3 w2 w1
  have d0 := k7.cell (i := 0) rfl
  have d1 := k7.cell (i := 1) rfl
  have d2 := k7.cell (i := 2) rfl
  have l7 := k7.lt
  simp only [List.getElem_toArray, List.getElem_cons_zero, List.getElem_cons_succ] at d0 d1 d2
  replace k7 := Lib.hid k7
  replace k4 := Lib.hid k4
  replace hb04 := Lib.hid hb04
  go_wp2_with fail
  refine (hN.out _ _ (SpAt.of_own hown4.out)).mono ?_
  rintro e w5 ⟨pm, bt, bl, rfl, hM5, hb5, hbt, hbl⟩
  have hge : Hid (w.heap.size ≤ bt ∧ w.heap.size ≤ bl) := by
    have := hb04.out.size
    exact ⟨by omega, by omega⟩
  have hq4 : Hid (∀ k ∈ obl (.slice va vn vc), k < w4.heap.size) := fun k hk => by
    unfold obl at hk
    cases hq : (Value.slice va vn vc).ownBlock with
    | none => rw [hq] at hk; simp at hk
    | some x =>
      rw [hq] at hk
      simp at hk
      subst hk
      exact (hown4.out.lt _ hq).2
  replace k4 := Lib.hid (k4.out.below hb5 k4.out.lt)
  replace k7 := Lib.hid (k7.out.below hb5 k7.out.lt)
  replace hb04 := Lib.hid (bthen hb04.out hb5)
  replace hown4 := Lib.hid (ownsRow_bel hown4.out hb5)
  replace hM5 := Lib.hid hM5
  generalize w4.heap.size = q4 at *
  clear d0 d1 d2 l7 hb5 hN hbt hbl w4
  have e0 := k4.out.cell (i := 0) rfl
  have e1 := k4.out.cell (i := 1) rfl
  have e2 := k4.out.cell (i := 2) rfl
  have l4 := k4.out.lt
  simp only [List.getElem_toArray, List.getElem_cons_zero, List.getElem_cons_succ] at e0 e1 e2
  go_wp2_with fail
  refine (hO.out _ hb04.out).mono ?_
  rintro e w6 ⟨v6, rfl, hown6, hb6⟩
  obtain ⟨a6, n6, c6, rfl⟩ : ∃ a n c, v6 = .slice a n c := by
    rcases hown6.2 with ⟨rfl, h⟩ | ⟨g, c, _, rfl, _⟩
    · exact ⟨_, _, _, rfl⟩
    · exact ⟨_, _, _, rfl⟩
  have hO6 : Hid (w6.ownsRow w.heap.size 177 5 (.slice a6 n6 c6) S.length (spFlat2 S)) := by
    refine ⟨hown6.1, ?_⟩
    rcases hown6.2 with h3 | ⟨g, cap, cur, h3, h4, h5⟩
    · exact .inl h3
    · exact .inr ⟨g, cap, cur, h3, by have := hb04.out.size; omega, h5⟩
  replace k4 := Lib.hid (k4.out.below hb6 k4.out.lt)
  replace k7 := Lib.hid (k7.out.below hb6 k7.out.lt)
  replace hb04 := Lib.hid (bthen hb04.out hb6)
  replace hown4 := Lib.hid (ownsRow_bel hown4.out hb6)
  replace hM5 := Lib.hid (hM5.out.step (Touch.of_below hb6 (Nat.le_refl _) []) (by simp))
  clear e0 e1 e2 l4 hown6 hb6 hO
  go_wp2_with fail
  refine (hN2.out _ hb04.out.size _ hO6.out).mono ?_
  rintro e w7 ⟨pd, rfl, hD7, hb7, hpd1, hpd2⟩
  replace k4 := Lib.hid (k4.out.below hb7 k4.out.lt)
  replace k7 := Lib.hid (k7.out.below hb7 k7.out.lt)
  replace hb04 := Lib.hid (bthen hb04.out hb7)
  replace hown4 := Lib.hid (ownsRow_bel hown4.out hb7)
  have hM7 := Lib.hid ((hM5.out.step (Touch.of_below hb7 (Nat.le_refl _) []) (by simp)).weak (A' := fun k => k < q4 ∨ k = pd) (fun k hk => by
    rcases hk with hk | rfl
    · exact .inl (.inl hk)
    · exact .inr ⟨hpd1, hpd2⟩))
  replace hD7 := Lib.hid hD7
  clear hM5 hb7 hpd1 hpd2 hN2 hO6
  go_wp2_with fail
  refine wp_loop_k (InvS1 w w7 F (.slice sa vn sc) (.slice va vn vc) b7 vn pm pd ao n cap nd lk) vn ?_ ?_
  · exact ⟨0, by omega, ⟨LpS.refl _ _ _, k4.out, k7.out⟩, by kernel_rfl, rfl, by kernel_rfl, by kernel_rfl, by kernel_rfl, by kernel_rfl, by kernel_rfl, by kernel_rfl⟩
  clear k4 k7
  intro gk a wr hI K hK
  obtain ⟨i, hi0, hO, hs', hd', k2', k4', k7', k8', k10', k12'⟩ := hI
  rw [fr187 a hs' hd']; simp only [k2', k4', k7', k8', k10', k12']; clear hs' hd' k2' k4' k7' k8' k10' k12'
  have c7 := hO.out.2.2.cell (i := 2) rfl
  have l7 := hO.out.2.2.lt
  simp only [List.getElem_toArray, List.getElem_cons_zero, List.getElem_cons_succ] at c7
  by_cases hlt : i < vn
  · have g3 : decide ((i : Int) < (vn : Int)) = true := by simp; omega
    have g4 : (i : Int) < (vn : Int) := by omega
    have g5 : IntKind.i64.wrap ((i : Int) + 1) = ((i + 1 : Nat) : Int) := by rw [wrapI _ (by omega) (by omega)]; omega
    obtain ⟨s, hsi⟩ : ∃ s, S[i]? = some s := ⟨_, List.getElem?_eq_getElem (by have := hsn.out; omega)⟩
    replace hK := Lib.hid hK
    go_upto_region 14 with fail
    have hbd := below_drewN wr 1
    have hL14 : LpS w7 (.slice va vn vc) S.length i (wr.drewN 1) := by
      have := hO.out.1.below hbd
      rwa [hsn.out] at this ⊢
    have k4 := hO.out.2.1.below hbd hO.out.2.1.lt
    have k7 := hO.out.2.2.below hbd hO.out.2.2.lt
    have hw7 : w.heap.size ≤ w7.heap.size := hb04.out.size
    have hbw : Below w.heap.size w (wr.drewN 1) := hL14.touch.below hb04.out hw7 (fun k hk => by
      unfold obl at hk
      cases hq : (Value.slice va vn vc).ownBlock with
      | none => rw [hq] at hk; simp at hk
      | some x =>
        rw [hq] at hk
        simp at hk
        subst hk
        exact (hown4.out.lt _ hq).1)
    obtain ⟨ad, g, cap1, hva, hadi, hcl, ⟨curg, hkg⟩, hth, hnx⟩ := hL14.row hown4.out hsi
    simp only [Value.slice.injEq] at hva
    obtain ⟨rfl, -, rfl⟩ := hva
    obtain ⟨ad2, rfl, -⟩ := hsp.out _ hbw i s hsi
    have hS14 : Hid (∀ W, Below (wr.drewN 1).heap.size (wr.drewN 1) W → (W.cell? (ad.add (i * 5)) = some (.int .i64 s.fr) ∧ W.cell? ⟨(ad.add (i * 5)).block, (ad.add (i * 5)).off + 1, none⟩ = some (.int .i64 s.til) ∧ W.cell? ⟨(ad.add (i * 5)).block, (ad.add (i * 5)).off + 2, none⟩ = some (.int .u8 s.lk) ∧
      W.cell? ⟨(ad.add (i * 5)).block, (ad.add (i * 5)).off + 3, none⟩ = some (.int .u8 s.kd) ∧ W.cell? ⟨(ad.add (i * 5)).block, (ad.add (i * 5)).off + 4, none⟩ = some (.int .u64 s.sd)) ∧ (W.cell? (ad2.add (i * 5)) = some (.int .i64 s.fr) ∧ W.cell? ⟨(ad2.add (i * 5)).block, (ad2.add (i * 5)).off + 1, none⟩ = some (.int .i64 s.til) ∧ W.cell? ⟨(ad2.add (i * 5)).block, (ad2.add (i * 5)).off + 2, none⟩ = some (.int .u8 s.lk) ∧
      W.cell? ⟨(ad2.add (i * 5)).block, (ad2.add (i * 5)).off + 3, none⟩ = some (.int .u8 s.kd) ∧ W.cell? ⟨(ad2.add (i * 5)).block, (ad2.add (i * 5)).off + 4, none⟩ = some (.int .u64 s.sd)) ∧ W.cell? ⟨w.heap.size, 2, none⟩ = some (.slice (some ad2) vn sc) ∧ W.cell? ⟨b7, 2, none⟩ = some (.slice (some ad) vn vc) ∧ w.heap.size < W.heap.size ∧ b7 < W.heap.size) := fun W hW =>
      ⟨hcl W hW, (by
        obtain ⟨ad3, e, hc⟩ := hsp.out _ (bthen hbw hW) i s hsi
        simp only [Option.some.injEq] at e
        subst e
        exact hc), (k4.below hW k4.lt).cell (i := 2) rfl, (k7.below hW k7.lt).cell (i := 2) rfl, (k4.below hW k4.lt).lt, (k7.below hW k7.lt).lt⟩
    replace hth := Lib.hid hth
    replace hnx := Lib.hid hnx
    replace hadi := Lib.hid hadi
    replace k4 := Lib.hid k4
    replace k7 := Lib.hid k7
    have hbg : Hid (w.heap.size ≠ g ∧ b7 ≠ g) := ⟨fun e => hkg.ne k4.out (by decide) e.symm, fun e => hkg.ne k7.out (by decide) e.symm⟩
    clear hL14 hbw hcl c7 l7 hO hkg
    replace hbd : Below (wr.drewN 1).heap.size (wr.drewN 1) wr.drew := Below.refl _ _
    go_region_held3 (fun W => (W.cell? (ad.add (i * 5)) = some (.int .i64 s.fr) ∧ W.cell? ⟨(ad.add (i * 5)).block, (ad.add (i * 5)).off + 1, none⟩ = some (.int .i64 s.til) ∧ W.cell? ⟨(ad.add (i * 5)).block, (ad.add (i * 5)).off + 2, none⟩ = some (.int .u8 s.lk) ∧
      W.cell? ⟨(ad.add (i * 5)).block, (ad.add (i * 5)).off + 3, none⟩ = some (.int .u8 s.kd) ∧ W.cell? ⟨(ad.add (i * 5)).block, (ad.add (i * 5)).off + 4, none⟩ = some (.int .u64 s.sd)) ∧ (W.cell? (ad2.add (i * 5)) = some (.int .i64 s.fr) ∧ W.cell? ⟨(ad2.add (i * 5)).block, (ad2.add (i * 5)).off + 1, none⟩ = some (.int .i64 s.til) ∧ W.cell? ⟨(ad2.add (i * 5)).block, (ad2.add (i * 5)).off + 2, none⟩ = some (.int .u8 s.lk) ∧
      W.cell? ⟨(ad2.add (i * 5)).block, (ad2.add (i * 5)).off + 3, none⟩ = some (.int .u8 s.kd) ∧ W.cell? ⟨(ad2.add (i * 5)).block, (ad2.add (i * 5)).off + 4, none⟩ = some (.int .u64 s.sd)) ∧ W.cell? ⟨w.heap.size, 2, none⟩ = some (.slice (some ad2) vn sc) ∧ W.cell? ⟨b7, 2, none⟩ = some (.slice (some ad) vn vc) ∧ w.heap.size < W.heap.size ∧ b7 < W.heap.size)
      (exact hS14.out _ hbd)
      (fail)
    rename_i hHeld
    clear hS14 hbd hHeld
    replace hth : Hid (wr.drew.there g (i * 5) 5) := hth.out
    replace hnx : Hid (∀ (vs : List Value), vs.length = 5 → LpS w7 (.slice (some ad) vn vc) S.length (i + 1) (wr.drew.setCells g (i * 5) vs)) := hnx.out
    have k44 : Hid (Blk wr.drew w.heap.size #[.int .i64 nd, .int .i64 lk, .slice (some ad2) vn sc] 34) := k4.out
    have k77 : Hid (Blk wr.drew b7 #[.int .i64 nd, .int .i64 lk, .slice (some ad) vn vc] 34) := k7.out
    clear k4 k7
    generalize wr.drew = w14 at *
    have c7 := k77.out.cell (i := 2) rfl
    have l7 := k77.out.lt
    simp only [List.getElem_toArray, List.getElem_cons_zero, List.getElem_cons_succ] at c7
    go_wp2_with (first | (refine wpList_skp rfl (ex_store_mid 27 (.tmp 83) (.tmp 82) rfl (ad.add (i * 5)) g (i * 5) spZ rfl hadi.out rfl hth.out spZ_size spZ_one) ?_; generalize hwz : w14.setCells g (i * 5) spZ.toList = wz; replace hwz := Lib.hid hwz) | fail)
    have hLn : Hid (LpS w7 (.slice (some ad) vn vc) vn (i + 1) wz ∧ Blk wz w.heap.size #[.int .i64 nd, .int .i64 lk, .slice (some ad2) vn sc] 34 ∧ Blk wz b7 #[.int .i64 nd, .int .i64 lk, .slice (some ad) vn vc] 34) := by
      have h1 := hnx.out spZ.toList rfl
      have h2 := hwz.out
      rw [h2, ← hsn.out] at h1
      refine ⟨h1, ?_, ?_⟩
      · rw [← h2]
        exact k44.out.cellsNe hbg.out.1 _ _
      · rw [← h2]
        exact k77.out.cellsNe hbg.out.2 _ _
    clear hnx hth hwz hbg hadi k44 k77 c7 l7
    go_wp2_with fail
    exact hK.out (vn - (i + 1)) _ _ (by omega) ⟨i + 1, by omega, hLn, by kernel_rfl, rfl, by kernel_rfl, by kernel_rfl, by kernel_rfl, by kernel_rfl, by kernel_rfl, by kernel_rfl⟩
  have g3 : decide ((i : Int) < (vn : Int)) = false := by simp; omega
  have g4 : ¬ (i : Int) < (vn : Int) := by omega
  have hV : Hid (StAt w F pm bt bl pd 0 (fun _ => False) wr) := by
    have h1 := hown4.out
    rw [← hsn.out] at h1
    exact LpS.st hO.out.1 h1 hb04.out hge.out hM7.out hq4.out hD7.out
  clear hown4 hM7 hq4 hD7 hb04 hge hO hsp hs hsn g2 hS hnew hge7 hne7 hlt
  go_wp2_with fail
  clear c7 l7 g3 g4
  refine wp_loop_k (InvS2 w F pm bt bl pd ao n cap) n ?_ ?_
  · exact ⟨0, by omega, hV, by kernel_rfl, rfl, by kernel_rfl, by kernel_rfl, by kernel_rfl, by kernel_rfl⟩
  clear hV hK hi0 i gk
  intro gk a wr hI K hK
  obtain ⟨j, hj0, hV, hs', hd', k2', k8', k10', k13'⟩ := hI
  rw [fr187 a hs' hd']; simp only [k2', k8', k10', k13']; clear hs' hd' k2' k8' k10' k13'
  by_cases hlt : j < n
  · have g3 : decide ((j : Int) < (n : Int)) = true := by simp; omega
    have g4 : (j : Int) < (n : Int) := by omega
    have g5 : IntKind.i64.wrap ((j : Int) + 1) = ((j + 1 : Nat) : Int) := by rw [wrapI _ (by omega) (by omega)]; omega
    obtain ⟨ad, ⟨t, l, ⟨s, R⟩⟩, va, vn, vc, rfl, hx, hv, hc⟩ := hask.out j hlt
    simp only at hc hv
    replace hx := Lib.hid hx
    replace hv := Lib.hid hv
    obtain ⟨d0, d1, d2, d3⟩ := hc _ hV.out.bel
    replace hK := Lib.hid hK
    clear hc
    go_upto_region 21 with fail
    have k14 : Blk (wr.alloc (.cells #[.int .i64 t, .int .i64 l, .int .u8 s, .slice va vn vc] 74)) wr.heap.size #[.int .i64 t, .int .i64 l, .int .u8 s, .slice va vn vc] 74 := Blk.new _ _ _
    have hV1 := Lib.hid (hV.out.from0 (below_alloc wr (.cells #[.int .i64 t, .int .i64 l, .int .u8 s, .slice va vn vc] 74)))
    have hp1 : Hid (w.heap.size ≤ wr.heap.size) := hV.out.bel.size
    clear hV d0 d1 d2 d3
    generalize wr.alloc (.cells #[.int .i64 t, .int .i64 l, .int .u8 s, .slice va vn vc] 74) = w1 at *
    generalize wr.heap.size = p1 at *
    have d2 := k14.cell (i := 2) rfl
    have d3 := k14.cell (i := 3) rfl
    have l14 := k14.lt
    simp only [List.getElem_toArray, List.getElem_cons_zero, List.getElem_cons_succ] at d2 d3
    replace k14 := Lib.hid k14
    clear wr
    go_wp2_with fail
    refine (greatR _ s _ ⟨va, vn, vc, rfl⟩ R (hv.out.below hV1.out.bel) hx.out.R).mono ?_
    rintro e w2 ⟨g, rfl, hb2, hg⟩
    replace hV1 := Lib.hid (hV1.out.more hb2)
    replace k14 := Lib.hid (k14.out.below hb2 k14.out.lt)
    replace hg := Lib.hid hg
    clear hb2 d2 d3 l14
    cases g
    · obtain ⟨hn2, ht2⟩ := hg.out rfl
      have hp : Hid (PostOk ⟨s, R⟩) := ⟨hx.out.s, hx.out.R.ok, hn2, ht2⟩
      clear hn2 ht2 hg
      go_upto_region 23 with fail
      have hP6 : Hid (∀ W, Below w.heap.size w W → Calls Try.prog 30 #[.agg #[.slice va vn vc]] W fun e w' => ∃ a n c, e = .returned (.agg #[.slice a n c]) ∧ TwinWd W.heap.size w' (.slice a n c) R ∧ Below W.heap.size W w') := fun W hW =>
        (twinWordR W _ R (hv.out.below hW) hp.out.R (by have := hp.out.n; simp only at this; omega) (fun r hr => by have := hp.out.t r hr; omega)).mono (by
          rintro e w' ⟨v', rfl, h1, h2⟩
          obtain ⟨a, n, c, rfl, _⟩ := h1.sl
          exact ⟨a, n, c, rfl, h1, h2⟩)
      refine wp_cut (fun a wx => ∃ b15 ta tn tc, Hid (StAt w F pm bt bl pd j (fun k => p1 ≤ k ∧ k < wx.heap.size) wx ∧ Blk wx p1 #[.int .i64 t, .int .i64 l, .int .u8 s, .slice va vn vc] 74 ∧ Blk wx b15 #[.int .u8 s, .slice ta tn tc] 40 ∧ TwinWd p1 wx (.slice ta tn tc) R) ∧ a.tmps.size = 187 ∧ a.defers = [] ∧ slot a 2 = .slice (some ad) n cap ∧ slot a 8 = .pointer (some ⟨pm, 0, none⟩) ∧ slot a 10 = .pointer (some ⟨pd, 0, none⟩) ∧ slot a 13 = .int .i64 j ∧ slot a 14 = .pointer (some ⟨p1, 0, none⟩) ∧ slot a 15 = .pointer (some ⟨b15, 0, none⟩)) ?_ ?_
      · intro K' hK'
        have hK2 := Lib.hid hK'
        clear hK'
        have hV3 := Lib.hid (hV1.out.more (below_drewN w2 1))
        have k3 := Lib.hid (k14.out.drewN 1)
        have hbw : Hid (Below w.heap.size w w2.drew) := bdrewN hV1.out.bel 1
        have hS : Hid (∀ W, Blk W p1 #[.int .i64 t, .int .i64 l, .int .u8 s, .slice va vn vc] 74 → W.cell? ⟨p1, 2, none⟩ = some (.int .u8 s) ∧ W.cell? ⟨p1, 3, none⟩ = some (.slice va vn vc) ∧ p1 < W.heap.size) := fun W h => ⟨h.cell (i := 2) rfl, h.cell (i := 3) rfl, h.lt⟩
        have hS0 := hS.out _ k3.out
        refine wp_region_held_drew (S := fun W => W.cell? ⟨p1, 2, none⟩ = some (.int .u8 s) ∧ W.cell? ⟨p1, 3, none⟩ = some (.slice va vn vc) ∧ p1 < W.heap.size) (by kernel_rfl) hS0 (fun hHeld => ?_)
        clear hS0 k14 hV1
        replace hV3 : Hid (StAt w F pm bt bl pd j (fun k => p1 ≤ k ∧ k < w2.drew.heap.size) w2.drew) := hV3.out
        replace k3 : Hid (Blk w2.drew p1 #[.int .i64 t, .int .i64 l, .int .u8 s, .slice va vn vc] 74) := k3.out
        have hc : Hid (Below w2.drew.heap.size w2.drew w2.drew) := Below.refl _ _
        generalize w2.drew = wb0 at *
        refine wpAnyH_take (i := 0) (oi := { dst := some 98, op := .fieldAddr _ (.tmp 14) 2, type := _, pos := _, after := _, guard := _ }) (v := ?_) rfl (by kernel_rfl) (by kernel_rfl) (by kernel_rfl) (fun _ _ _ h => h) (Or.inl ⟨by rfl, ?_⟩) (by assumption) ?_
        rotate_left
        · (intro w hSw; (try dsimp only at hSw); go_simp) <;> with_reducible rfl
        try simp only [Act.put, List.setIfInBounds_toArray, List.set_cons_zero, List.set_cons_succ]
        refine wpAnyH_take (i := 1) (oi := { dst := some 99, op := .fieldAddr _ (.tmp 98) 0, type := _, pos := _, after := _, guard := _ }) (v := ?_) rfl (by kernel_rfl) (by kernel_rfl) (by kernel_rfl) (fun _ _ _ h => h) (Or.inl ⟨by rfl, ?_⟩) (by assumption) ?_
        rotate_left
        · (intro w hSw; (try dsimp only at hSw); go_simp) <;> with_reducible rfl
        try simp only [Act.put, List.setIfInBounds_toArray, List.set_cons_zero, List.set_cons_succ]
        refine wpAnyH_take (i := 2) (oi := { dst := some 100, op := .load _ (.tmp 99), type := _, pos := _, after := _, guard := _ }) (v := ?_) rfl (by kernel_rfl) (by kernel_rfl) (by kernel_rfl) (fun _ _ _ h => h) (Or.inl ⟨by rfl, ?_⟩) (by assumption) ?_
        rotate_left
        · (intro w hSw; (try dsimp only at hSw); go_simp) <;> with_reducible rfl
        try simp only [Act.put, List.setIfInBounds_toArray, List.set_cons_zero, List.set_cons_succ]
        refine wpAnyH_take (i := 3) (oi := { dst := some 101, op := .fieldAddr _ (.tmp 14) 2, type := _, pos := _, after := _, guard := _ }) (v := ?_) rfl (by kernel_rfl) (by kernel_rfl) (by kernel_rfl) (fun _ _ _ h => h) (Or.inl ⟨by rfl, ?_⟩) (by assumption) ?_
        rotate_left
        · (intro w hSw; (try dsimp only at hSw); go_simp) <;> with_reducible rfl
        try simp only [Act.put, List.setIfInBounds_toArray, List.set_cons_zero, List.set_cons_succ]
        refine wpAnyH_take (i := 4) (oi := { dst := some 102, op := .fieldAddr _ (.tmp 101) 1, type := _, pos := _, after := _, guard := _ }) (v := ?_) rfl (by kernel_rfl) (by kernel_rfl) (by kernel_rfl) (fun _ _ _ h => h) (Or.inl ⟨by rfl, ?_⟩) (by assumption) ?_
        rotate_left
        · (intro w hSw; (try dsimp only at hSw); go_simp) <;> with_reducible rfl
        try simp only [Act.put, List.setIfInBounds_toArray, List.set_cons_zero, List.set_cons_succ]
        refine wpAnyH_take (i := 5) (oi := { dst := some 103, op := .load _ (.tmp 102), type := _, pos := _, after := _, guard := _ }) (v := ?_) rfl (by kernel_rfl) (by kernel_rfl) (by kernel_rfl) (fun _ _ _ h => h) (Or.inl ⟨by rfl, ?_⟩) (by assumption) ?_
        rotate_left
        · (intro w hSw; (try dsimp only at hSw); go_simp) <;> with_reducible rfl
        try simp only [Act.put, List.setIfInBounds_toArray, List.set_cons_zero, List.set_cons_succ]
        refine wpAnyH_ready (rs := [6, 8]) (by kernel_rfl) (by simp) ?_
        refine AllReadyH.cons (o := { dst := some 104, op := .call { callee := .value (.func 30), args := _, argTypes := _ }, type := _, pos := _, after := _, guard := _ }) rfl (fun K6 hK6 => ?_) ?_
        · go_simp
          refine (hP6.out _ (bthen hbw.out hc.out)).mono ?_
          rintro e wb1 ⟨ta, tn, tc, rfl, hTw, hb6⟩
          replace hTw := Lib.hid (hTw.mono (Nat.le_of_lt k3.out.lt))
          replace k3 := Lib.hid (k3.out.below hb6 k3.out.lt)
          replace hc := Lib.hid (bthen hc.out hb6)
          refine hK6.out _ _ (hS.out _ k3.out) (fun hHeld => ?_)
          clear hK6 K6 hb6
          try simp only [Act.put, List.setIfInBounds_toArray, List.set_cons_zero, List.set_cons_succ]
          refine wpAnyH_take (i := 7) (oi := { dst := some 105, op := .build 40 #[(0, .tmp 100), (1, .tmp 104)], type := _, pos := _, after := _, guard := _ }) (v := ?_) rfl (by kernel_rfl) (by kernel_rfl) (by kernel_rfl) (fun _ _ _ h => h) (Or.inl ⟨by rfl, ?_⟩) (by assumption) ?_
          rotate_left
          · (intro w hSw; (try dsimp only at hSw); go_simp) <;> with_reducible rfl
          try simp only [Act.put, List.setIfInBounds_toArray, List.set_cons_zero, List.set_cons_succ]
          refine wpAnyH_ready (rs := [8]) (by kernel_rfl) (by simp) ?_
          refine AllReadyH.cons (o := { dst := some 15, op := .alloc _, type := _, pos := _, after := _, guard := _ }) rfl (fun K6 hK6 => ?_) AllReadyH.nil
          go_simp
          have k15 := Lib.hid (Blk.new wb1 #[.int .u8 0, .slice none 0 0] 40)
          have hb15z : wb0.heap.size ≤ wb1.heap.size := hc.out.size
          replace hTw := Lib.hid (hTw.out.below (below_alloc wb1 (.cells #[.int .u8 0, .slice none 0 0] 40)))
          replace k3 := Lib.hid (k3.out.alloc (.cells #[.int .u8 0, .slice none 0 0] 40))
          replace hc := Lib.hid (bthen hc.out (below_alloc wb1 (.cells #[.int .u8 0, .slice none 0 0] 40)))
          refine hK6.out _ _ (hS.out _ k3.out) (fun hHeld => ?_)
          clear hK6 K6
          generalize wb1.alloc (.cells #[.int .u8 0, .slice none 0 0] 40) = wb2 at *
          generalize hbb : wb1.heap.size = b15 at k15 ⊢
          have hb15 : Hid (wb0.heap.size ≤ b15) := hbb ▸ hb15z
          clear hbb hb15z
          try simp only [Act.put, List.setIfInBounds_toArray, List.set_cons_zero, List.set_cons_succ]
          refine wpAnyH_ready (rs := [9]) (by kernel_rfl) (by simp) ?_
          refine AllReadyH.cons (o := { dst := none, op := .store _ (.tmp 15) (.tmp 105), type := _, pos := _, after := _, guard := _ }) rfl (fun K6 hK6 => ?_) AllReadyH.nil
          have r0 : wb2.cell? ⟨b15, 0, none⟩ = some (.int .u8 0) := k15.out.cell (i := 0) rfl
          have r1 : wb2.cell? ⟨b15, 1, none⟩ = some (.slice none 0 0) := k15.out.cell (i := 1) rfl
          have rf := k15.out.free
          have rl := k15.out.lt
          go_simp
          have k16 := Lib.hid (((k15.out.set 0 (.int .u8 s)).set 1 (.slice ta tn tc)).congr (c' := #[.int .u8 s, .slice ta tn tc]) rfl)
          replace hTw : Hid (TwinWd p1 ((wb2.setCell ⟨b15, 0, none⟩ (.int .u8 s)).setCell ⟨b15, 1, none⟩ (.slice ta tn tc)) (.slice ta tn tc) R) := hTw.out.blk fun g c U hU hg => by
            have e := hg.ne k15.out (by rcases hU with rfl | rfl <;> decide)
            exact (hg.setNe (a := ⟨b15, 0, none⟩) e _).setNe (a := ⟨b15, 1, none⟩) e _
          have e3 := k3.out.ne k15.out (by decide)
          replace k3 := Lib.hid ((k3.out.setNe (a := ⟨b15, 0, none⟩) e3 (.int .u8 s)).setNe (a := ⟨b15, 1, none⟩) e3 (.slice ta tn tc))
          replace hc := Lib.hid ((hc.out.setCell (show wb0.heap.size ≤ (⟨b15, 0, none⟩ : Addr).block from hb15.out) (.int .u8 s)).setCell (show wb0.heap.size ≤ (⟨b15, 1, none⟩ : Addr).block from hb15.out) (.slice ta tn tc))
          refine hK6.out _ _ (hS.out _ k3.out) (fun hHeld => ?_)
          clear hK6 K6 r0 r1 rf rl k15 e3
          generalize (wb2.setCell ⟨b15, 0, none⟩ (.int .u8 s)).setCell ⟨b15, 1, none⟩ (.slice ta tn tc) = wb3 at *
          try simp only [Act.put, List.setIfInBounds_toArray, List.set_cons_zero, List.set_cons_succ]
          refine wpAnyH_done (by kernel_rfl) ?_ _
          exact hK2.out _ _ trivial ⟨b15, ta, tn, tc, ⟨hV3.out.more hc.out, k3.out, k16.out, hTw.out⟩, by kernel_rfl, rfl, by kernel_rfl, by kernel_rfl, by kernel_rfl, by kernel_rfl, by kernel_rfl, by kernel_rfl⟩
        refine AllReadyH.cons (o := { dst := some 15, op := .alloc _, type := _, pos := _, after := _, guard := _ }) rfl (fun K6 hK6 => ?_) AllReadyH.nil
        go_simp
        have k15 := Lib.hid (Blk.new wb0 #[.int .u8 0, .slice none 0 0] 40)
        have hb15z : wb0.heap.size ≤ wb0.heap.size := hc.out.size
        replace k3 := Lib.hid (k3.out.alloc (.cells #[.int .u8 0, .slice none 0 0] 40))
        replace hc := Lib.hid (bthen hc.out (below_alloc wb0 (.cells #[.int .u8 0, .slice none 0 0] 40)))
        refine hK6.out _ _ (hS.out _ k3.out) (fun hHeld => ?_)
        clear hK6 K6
        generalize wb0.alloc (.cells #[.int .u8 0, .slice none 0 0] 40) = wb1 at *
        generalize hbb : wb0.heap.size = b15 at k15 ⊢
        have hb15 : Hid (wb0.heap.size ≤ b15) := hbb ▸ hb15z
        clear hbb hb15z
        try simp only [Act.put, List.setIfInBounds_toArray, List.set_cons_zero, List.set_cons_succ]
        refine wpAnyH_ready (rs := [6]) (by kernel_rfl) (by simp) ?_
        refine AllReadyH.cons (o := { dst := some 104, op := .call { callee := .value (.func 30), args := _, argTypes := _ }, type := _, pos := _, after := _, guard := _ }) rfl (fun K6 hK6 => ?_) AllReadyH.nil
        go_simp
        refine (hP6.out _ (bthen hbw.out hc.out)).mono ?_
        rintro e wb2 ⟨ta, tn, tc, rfl, hTw, hb6⟩
        replace hTw := Lib.hid (hTw.mono (Nat.le_of_lt k3.out.lt))
        replace k15 := Lib.hid (k15.out.below hb6 k15.out.lt)
        replace k3 := Lib.hid (k3.out.below hb6 k3.out.lt)
        replace hc := Lib.hid (bthen hc.out hb6)
        refine hK6.out _ _ (hS.out _ k3.out) (fun hHeld => ?_)
        clear hK6 K6 hb6
        try simp only [Act.put, List.setIfInBounds_toArray, List.set_cons_zero, List.set_cons_succ]
        refine wpAnyH_take (i := 7) (oi := { dst := some 105, op := .build 40 #[(0, .tmp 100), (1, .tmp 104)], type := _, pos := _, after := _, guard := _ }) (v := ?_) rfl (by kernel_rfl) (by kernel_rfl) (by kernel_rfl) (fun _ _ _ h => h) (Or.inl ⟨by rfl, ?_⟩) (by assumption) ?_
        rotate_left
        · (intro w hSw; (try dsimp only at hSw); go_simp) <;> with_reducible rfl
        try simp only [Act.put, List.setIfInBounds_toArray, List.set_cons_zero, List.set_cons_succ]
        refine wpAnyH_ready (rs := [9]) (by kernel_rfl) (by simp) ?_
        refine AllReadyH.cons (o := { dst := none, op := .store _ (.tmp 15) (.tmp 105), type := _, pos := _, after := _, guard := _ }) rfl (fun K6 hK6 => ?_) AllReadyH.nil
        have r0 : wb2.cell? ⟨b15, 0, none⟩ = some (.int .u8 0) := k15.out.cell (i := 0) rfl
        have r1 : wb2.cell? ⟨b15, 1, none⟩ = some (.slice none 0 0) := k15.out.cell (i := 1) rfl
        have rf := k15.out.free
        have rl := k15.out.lt
        go_simp
        have k16 := Lib.hid (((k15.out.set 0 (.int .u8 s)).set 1 (.slice ta tn tc)).congr (c' := #[.int .u8 s, .slice ta tn tc]) rfl)
        replace hTw : Hid (TwinWd p1 ((wb2.setCell ⟨b15, 0, none⟩ (.int .u8 s)).setCell ⟨b15, 1, none⟩ (.slice ta tn tc)) (.slice ta tn tc) R) := hTw.out.blk fun g c U hU hg => by
          have e := hg.ne k15.out (by rcases hU with rfl | rfl <;> decide)
          exact (hg.setNe (a := ⟨b15, 0, none⟩) e _).setNe (a := ⟨b15, 1, none⟩) e _
        have e3 := k3.out.ne k15.out (by decide)
        replace k3 := Lib.hid ((k3.out.setNe (a := ⟨b15, 0, none⟩) e3 (.int .u8 s)).setNe (a := ⟨b15, 1, none⟩) e3 (.slice ta tn tc))
        replace hc := Lib.hid ((hc.out.setCell (show wb0.heap.size ≤ (⟨b15, 0, none⟩ : Addr).block from hb15.out) (.int .u8 s)).setCell (show wb0.heap.size ≤ (⟨b15, 1, none⟩ : Addr).block from hb15.out) (.slice ta tn tc))
        refine hK6.out _ _ (hS.out _ k3.out) (fun hHeld => ?_)
        clear hK6 K6 r0 r1 rf rl k15 e3
        generalize (wb2.setCell ⟨b15, 0, none⟩ (.int .u8 s)).setCell ⟨b15, 1, none⟩ (.slice ta tn tc) = wb3 at *
        try simp only [Act.put, List.setIfInBounds_toArray, List.set_cons_zero, List.set_cons_succ]
        refine wpAnyH_done (by kernel_rfl) ?_ _
        exact hK2.out _ _ trivial ⟨b15, ta, tn, tc, ⟨hV3.out.more hc.out, k3.out, k16.out, hTw.out⟩, by kernel_rfl, rfl, by kernel_rfl, by kernel_rfl, by kernel_rfl, by kernel_rfl, by kernel_rfl, by kernel_rfl⟩
      clear hV1 k14 hP6
      rintro a wx ⟨b15, ta, tn, tc, hA, hs', hd', k2', k8', k10', k13', k14', k15'⟩
      rw [fr187 a hs' hd']; simp only [k2', k8', k10', k13', k14', k15']; clear hs' hd' k2' k8' k10' k13' k14' k15'
      have hV4 := Lib.hid hA.out.1
      have k14 := hA.out.2.1
      have k15 := hA.out.2.2.1
      have hTw := Lib.hid hA.out.2.2.2
      have d0 := k14.cell (i := 0) rfl
      have d1 := k14.cell (i := 1) rfl
      have d2 := k15.cell (i := 0) rfl
      have d3 := k15.cell (i := 1) rfl
      have l14 := k14.lt
      have l15 := k15.lt
      simp only [List.getElem_toArray, List.getElem_cons_zero, List.getElem_cons_succ] at d0 d1 d2 d3
      replace k14 := Lib.hid k14
      replace k15 := Lib.hid k15
      have hRt : Hid (∀ r ∈ R, r.tab.length ≤ 1000000) := fun r hr => by have := hp.out.t r hr; omega
      have hS4 := Lib.hid (hV4.out.says hFm.out (by omega) t l ⟨s, R⟩ hp.out (.slice ta tn tc) ((hTw.out.word hp.out.R hRt.out).mono (Nat.zero_le _)))
      clear hA
      go_wp2_with fail
      refine hS4.out.mono ?_
      rintro e w5 ⟨r, a5, n5, c5, q1, rfl, hq1, hq2, hO5, hRf, hM5, hB5, -⟩
      clear hS4 d0 d1 d2 d3 l14 l15
      replace hRf := Lib.hid hRf
      have hCl : Hid (Cli p1 wx.heap.size q1 w5.heap.size t l s R (.slice va vn vc) b15 (.slice ta tn tc) w5.heap.size (.slice a5 n5 c5) r (w5.alloc (.cells #[.int .u8 r.s, .slice a5 n5 c5] 40))) := by
        have hA5 := below_alloc w5 (.cells #[.int .u8 r.s, .slice a5 n5 c5] 40)
        have hBA : ∀ b cs U, Blk wx b cs U → Blk (w5.alloc (.cells #[.int .u8 r.s, .slice a5 n5 c5] 40)) b cs U := fun b cs U hb => (hB5 b cs U hb).alloc _
        exact ⟨hBA _ _ _ k14.out, hBA _ _ _ k15.out, Blk.new _ _ _, hTw.out.blk fun g c U _ hg => hBA _ _ _ hg, (hTw.out.sp hp.out.R).blk fun g c U _ hg => hBA _ _ _ hg, hO5.keep hA5 (Nat.le_refl _), (hO5.spo hRf.out.ok).blk fun g c U _ hg => hg.alloc _, hq1, hA5.size⟩
      have hM6 := Lib.hid ((hM5.below (below_alloc w5 (.cells #[.int .u8 r.s, .slice a5 n5 c5] 40))).weak (P' := fun k => (p1 ≤ k ∧ k < wx.heap.size) ∨ (q1 ≤ k ∧ k < w5.heap.size)) (fun k hk => hk))
      have hq0 : Hid (p1 ≤ wx.heap.size ∧ wx.heap.size ≤ q1 ∧ q1 ≤ w5.heap.size) := ⟨Nat.le_of_lt k14.out.lt, hq1, hq2⟩
      clear hO5 hM5 hB5 k14 k15 hTw hV4 hq1 hq2
      go_upto_region 25 with fail
      generalize w5.alloc (.cells #[.int .u8 r.s, .slice a5 n5 c5] 40) = w6 at *
      generalize w5.heap.size = q2 at *
      generalize wx.heap.size = p2 at *
      clear wx w5
      have hP7 : Hid (∀ W, Below w.heap.size w W → Calls Try.prog 32 #[.agg #[.int .u8 s, .slice va vn vc]] W fun e w' => ∃ a n c, e = .returned (.agg #[.int .u8 s, .slice a n c]) ∧ OwnWord 167 204 w.heap.size w' (.slice a n c) R ∧ Below W.heap.size W w') := fun W hW =>
        (postP W ⟨s, R⟩ hp.out _ (hv.out.below hW)).mono (by
          rintro e w' ⟨v', rfl, h1, h2⟩
          obtain ⟨a, n, c, rfl⟩ := h1.sl
          exact ⟨a, n, c, rfl, h1.mono hW.size, h2⟩)
      refine wp_cut (fun a wx => ∃ b17 ab nb cb, Hid (StAt w F pm bt bl pd (j + 1) (fun k => (p1 ≤ k ∧ k < p2) ∨ (q1 ≤ k ∧ k < q2)) wx ∧ Cli p1 p2 q1 q2 t l s R (.slice va vn vc) b15 (.slice ta tn tc) q2 (.slice a5 n5 c5) r wx ∧ Blk wx b17 #[.int .u8 r.s, .slice ab nb cb] 77 ∧ OwnWord 167 204 w.heap.size wx (.slice ab nb cb) r.R) ∧ a.tmps.size = 187 ∧ a.defers = [] ∧ slot a 2 = .slice (some ad) n cap ∧ slot a 8 = .pointer (some ⟨pm, 0, none⟩) ∧ slot a 10 = .pointer (some ⟨pd, 0, none⟩) ∧ slot a 13 = .int .i64 j ∧ slot a 14 = .pointer (some ⟨p1, 0, none⟩) ∧ slot a 15 = .pointer (some ⟨b15, 0, none⟩) ∧ slot a 16 = .pointer (some ⟨q2, 0, none⟩) ∧ slot a 17 = .pointer (some ⟨b17, 0, none⟩)) ?_ ?_
      · intro K' hK'
        have hK2 := Lib.hid hK'
        clear hK'
        have hS : Hid (∀ W, Blk W p1 #[.int .i64 t, .int .i64 l, .int .u8 s, .slice va vn vc] 74 → W.cell? ⟨p1, 0, none⟩ = some (.int .i64 t) ∧ W.cell? ⟨p1, 1, none⟩ = some (.int .i64 l) ∧ W.cell? ⟨p1, 2, none⟩ = some (.int .u8 s) ∧ W.cell? ⟨p1, 3, none⟩ = some (.slice va vn vc) ∧ p1 < W.heap.size) := fun W h => ⟨h.cell (i := 0) rfl, h.cell (i := 1) rfl, h.cell (i := 2) rfl, h.cell (i := 3) rfl, h.lt⟩
        have hC : Hid (Cli p1 p2 q1 q2 t l s R (.slice va vn vc) b15 (.slice ta tn tc) q2 (.slice a5 n5 c5) r w6.drew) := hCl.out.below (below_drewN w6 1)
        have hM : Hid (MidAt' w F pm bt bl pd j (fun k => (p1 ≤ k ∧ k < p2) ∨ (q1 ≤ k ∧ k < q2)) t l ⟨s, R⟩ r w6.drew) := hM6.out.below (below_drewN w6 1)
        have hS0 := hS.out _ hC.out.x
        refine wp_region_held_drew (S := fun W => W.cell? ⟨p1, 0, none⟩ = some (.int .i64 t) ∧ W.cell? ⟨p1, 1, none⟩ = some (.int .i64 l) ∧ W.cell? ⟨p1, 2, none⟩ = some (.int .u8 s) ∧ W.cell? ⟨p1, 3, none⟩ = some (.slice va vn vc) ∧ p1 < W.heap.size) (by kernel_rfl) hS0 (fun hHeld => ?_)
        clear hS0 hCl hM6
        generalize w6.drew = wb0 at *
        refine wpAnyH_take (i := 0) (oi := { dst := some 113, op := .move (.tmp 10), type := _, pos := _, after := _, guard := _ }) (v := ?_) rfl (by kernel_rfl) (by kernel_rfl) (by kernel_rfl) (fun _ _ _ h => h) (Or.inl ⟨by rfl, ?_⟩) (by assumption) ?_
        rotate_left
        · (intro w hSw; (try dsimp only at hSw); go_simp) <;> with_reducible rfl
        try simp only [Act.put, List.setIfInBounds_toArray, List.set_cons_zero, List.set_cons_succ]
        refine wpAnyH_take (i := 1) (oi := { dst := some 114, op := .fieldAddr _ (.tmp 14) 0, type := _, pos := _, after := _, guard := _ }) (v := ?_) rfl (by kernel_rfl) (by kernel_rfl) (by kernel_rfl) (fun _ _ _ h => h) (Or.inl ⟨by rfl, ?_⟩) (by assumption) ?_
        rotate_left
        · (intro w hSw; (try dsimp only at hSw); go_simp) <;> with_reducible rfl
        try simp only [Act.put, List.setIfInBounds_toArray, List.set_cons_zero, List.set_cons_succ]
        refine wpAnyH_take (i := 2) (oi := { dst := some 115, op := .load _ (.tmp 114), type := _, pos := _, after := _, guard := _ }) (v := ?_) rfl (by kernel_rfl) (by kernel_rfl) (by kernel_rfl) (fun _ _ _ h => h) (Or.inl ⟨by rfl, ?_⟩) (by assumption) ?_
        rotate_left
        · (intro w hSw; (try dsimp only at hSw); go_simp) <;> with_reducible rfl
        try simp only [Act.put, List.setIfInBounds_toArray, List.set_cons_zero, List.set_cons_succ]
        refine wpAnyH_take (i := 3) (oi := { dst := some 116, op := .fieldAddr _ (.tmp 14) 1, type := _, pos := _, after := _, guard := _ }) (v := ?_) rfl (by kernel_rfl) (by kernel_rfl) (by kernel_rfl) (fun _ _ _ h => h) (Or.inl ⟨by rfl, ?_⟩) (by assumption) ?_
        rotate_left
        · (intro w hSw; (try dsimp only at hSw); go_simp) <;> with_reducible rfl
        try simp only [Act.put, List.setIfInBounds_toArray, List.set_cons_zero, List.set_cons_succ]
        refine wpAnyH_take (i := 4) (oi := { dst := some 117, op := .load _ (.tmp 116), type := _, pos := _, after := _, guard := _ }) (v := ?_) rfl (by kernel_rfl) (by kernel_rfl) (by kernel_rfl) (fun _ _ _ h => h) (Or.inl ⟨by rfl, ?_⟩) (by assumption) ?_
        rotate_left
        · (intro w hSw; (try dsimp only at hSw); go_simp) <;> with_reducible rfl
        try simp only [Act.put, List.setIfInBounds_toArray, List.set_cons_zero, List.set_cons_succ]
        refine wpAnyH_take (i := 5) (oi := { dst := some 118, op := .fieldAddr _ (.tmp 14) 2, type := _, pos := _, after := _, guard := _ }) (v := ?_) rfl (by kernel_rfl) (by kernel_rfl) (by kernel_rfl) (fun _ _ _ h => h) (Or.inl ⟨by rfl, ?_⟩) (by assumption) ?_
        rotate_left
        · (intro w hSw; (try dsimp only at hSw); go_simp) <;> with_reducible rfl
        try simp only [Act.put, List.setIfInBounds_toArray, List.set_cons_zero, List.set_cons_succ]
        refine wpAnyH_take (i := 6) (oi := { dst := some 119, op := .load _ (.tmp 118), type := _, pos := _, after := _, guard := _ }) (v := ?_) rfl (by kernel_rfl) (by kernel_rfl) (by kernel_rfl) (fun _ _ _ h => h) (Or.inl ⟨by rfl, ?_⟩) (by assumption) ?_
        rotate_left
        · (intro w hSw; (try dsimp only at hSw); go_simp) <;> with_reducible rfl
        try simp only [Act.put, List.setIfInBounds_toArray, List.set_cons_zero, List.set_cons_succ]
        refine wpAnyH_ready (rs := [7, 9]) (by kernel_rfl) (by simp) ?_
        refine AllReadyH.cons (o := { dst := some 120, op := .call { callee := .value (.func 32), args := _, argTypes := _ }, type := _, pos := _, after := _, guard := _ }) rfl (fun K6 hK6 => ?_) ?_
        · go_simp
          refine (hP7.out _ hM.out.bel).mono ?_
          rintro e wb1 ⟨a7, n7, c7, rfl, hPo, hb7⟩
          replace hPo := Lib.hid hPo
          replace hM := Lib.hid (hM.out.below hb7)
          replace hC := Lib.hid (hC.out.below hb7)
          refine hK6.out _ _ (hS.out _ hC.out.x) (fun hHeld => ?_)
          clear hK6 K6 hb7
          try simp only [Act.put, List.setIfInBounds_toArray, List.set_cons_zero, List.set_cons_succ]
          refine wpAnyH_ready (rs := [8, 9]) (by kernel_rfl) (by simp) ?_
          refine AllReadyH.cons (o := { dst := some 121, op := .call { callee := .value (.func 31), args := _, argTypes := _ }, type := _, pos := _, after := _, guard := _ }) rfl (fun K6 hK6 => ?_) ?_
          · go_simp
            refine (hM.out.says hFm.out (by omega) hp.out _ hPo.out).mono ?_
            rintro e wb2 ⟨ab, nb, cb, rfl, hbw, hSt, hKb, hsz⟩
            replace hM := Lib.hid hSt
            replace hbw := Lib.hid hbw
            replace hC := Lib.hid (hC.out.keep (fun b cs U hB hU => hKb b cs U hB (by rcases hU with rfl | rfl | rfl | rfl <;> decide) (by rcases hU with rfl | rfl | rfl | rfl <;> decide)) hsz)
            refine hK6.out _ _ (hS.out _ hC.out.x) (fun hHeld => ?_)
            clear hK6 K6 hSt hKb hsz hPo
            try simp only [Act.put, List.setIfInBounds_toArray, List.set_cons_zero, List.set_cons_succ]
            refine wpAnyH_ready (rs := [9]) (by kernel_rfl) (by simp) ?_
            refine AllReadyH.cons (o := { dst := some 17, op := .alloc _, type := _, pos := _, after := _, guard := _ }) rfl (fun K6 hK6 => ?_) AllReadyH.nil
            go_simp
            have k17 := Lib.hid (Blk.new wb2 #[.int .u8 0, .slice none 0 0] 77)
            have hg17 : w.heap.size ≤ wb2.heap.size := hM.out.bel.size
            replace hM := Lib.hid (hM.out.box #[.int .u8 0, .slice none 0 0] 77)
            replace hbw := Lib.hid (hbw.out.keep (below_alloc wb2 (.cells #[.int .u8 0, .slice none 0 0] 77)) (Nat.le_refl _))
            replace hC := Lib.hid (hC.out.below (below_alloc wb2 (.cells #[.int .u8 0, .slice none 0 0] 77)))
            refine hK6.out _ _ (hS.out _ hC.out.x) (fun hHeld => ?_)
            clear hK6 K6
            generalize wb2.alloc (.cells #[.int .u8 0, .slice none 0 0] 77) = wb3 at *
            generalize wb2.heap.size = b17 at *
            replace hg17 := Lib.hid hg17
            try simp only [Act.put, List.setIfInBounds_toArray, List.set_cons_zero, List.set_cons_succ]
            refine wpAnyH_ready (rs := [10]) (by kernel_rfl) (by simp) ?_
            refine AllReadyH.cons (o := { dst := none, op := .store _ (.tmp 17) (.tmp 121), type := _, pos := _, after := _, guard := _ }) rfl (fun K6 hK6 => ?_) AllReadyH.nil
            have r0 : wb3.cell? ⟨b17, 0, none⟩ = some (.int .u8 0) := k17.out.cell (i := 0) rfl
            have r1 : wb3.cell? ⟨b17, 1, none⟩ = some (.slice none 0 0) := k17.out.cell (i := 1) rfl
            have rf := k17.out.free
            have rl := k17.out.lt
            go_simp
            have k18 := Lib.hid (((k17.out.set 0 (.int .u8 r.s)).set 1 (.slice ab nb cb)).congr (c' := #[.int .u8 r.s, .slice ab nb cb]) rfl)
            have hset : ∀ b cs U, Blk wb3 b cs U → U ≠ 77 → Blk ((wb3.setCell ⟨b17, 0, none⟩ (.int .u8 r.s)).setCell ⟨b17, 1, none⟩ (.slice ab nb cb)) b cs U := fun b cs U hb hU => by
              have e := hb.ne k17.out hU
              exact (hb.setNe (a := ⟨b17, 0, none⟩) e _).setNe (a := ⟨b17, 1, none⟩) e _
            replace hM := Lib.hid (hM.out.set2 k17.out hg17.out (.int .u8 r.s) (.slice ab nb cb))
            replace hC := Lib.hid (hC.out.keep (W' := (wb3.setCell ⟨b17, 0, none⟩ (.int .u8 r.s)).setCell ⟨b17, 1, none⟩ (.slice ab nb cb)) (fun b cs U hB hU => hset b cs U hB (by rcases hU with rfl | rfl | rfl | rfl <;> decide)) (by simp))
            replace hbw := Lib.hid (hbw.out.blk fun g cs U hU hg => hset g cs U hg (by rcases hU with rfl | rfl <;> decide))
            refine hK6.out _ _ (hS.out _ hC.out.x) (fun hHeld => ?_)
            clear hK6 K6 r0 r1 rf rl k17 hset
            generalize (wb3.setCell ⟨b17, 0, none⟩ (.int .u8 r.s)).setCell ⟨b17, 1, none⟩ (.slice ab nb cb) = wb4 at *
            try simp only [Act.put, List.setIfInBounds_toArray, List.set_cons_zero, List.set_cons_succ]
            refine wpAnyH_done (by kernel_rfl) ?_ _
            exact hK2.out _ _ trivial ⟨b17, ab, nb, cb, ⟨hM.out, hC.out, k18.out, hbw.out⟩, by kernel_rfl, rfl, by kernel_rfl, by kernel_rfl, by kernel_rfl, by kernel_rfl, by kernel_rfl, by kernel_rfl, by kernel_rfl, by kernel_rfl⟩
          refine AllReadyH.cons (o := { dst := some 17, op := .alloc _, type := _, pos := _, after := _, guard := _ }) rfl (fun K6 hK6 => ?_) AllReadyH.nil
          go_simp
          have k17 := Lib.hid (Blk.new wb1 #[.int .u8 0, .slice none 0 0] 77)
          have hg17 : w.heap.size ≤ wb1.heap.size := hM.out.bel.size
          replace hM := Lib.hid (hM.out.box #[.int .u8 0, .slice none 0 0] 77)
          replace hPo := Lib.hid (hPo.out.keep (below_alloc wb1 (.cells #[.int .u8 0, .slice none 0 0] 77)) (Nat.le_refl _))
          replace hC := Lib.hid (hC.out.below (below_alloc wb1 (.cells #[.int .u8 0, .slice none 0 0] 77)))
          refine hK6.out _ _ (hS.out _ hC.out.x) (fun hHeld => ?_)
          clear hK6 K6
          generalize wb1.alloc (.cells #[.int .u8 0, .slice none 0 0] 77) = wb2 at *
          generalize wb1.heap.size = b17 at *
          replace hg17 := Lib.hid hg17
          try simp only [Act.put, List.setIfInBounds_toArray, List.set_cons_zero, List.set_cons_succ]
          refine wpAnyH_ready (rs := [8]) (by kernel_rfl) (by simp) ?_
          refine AllReadyH.cons (o := { dst := some 121, op := .call { callee := .value (.func 31), args := _, argTypes := _ }, type := _, pos := _, after := _, guard := _ }) rfl (fun K6 hK6 => ?_) AllReadyH.nil
          go_simp
          refine (hM.out.says hFm.out (by omega) hp.out _ hPo.out).mono ?_
          rintro e wb3 ⟨ab, nb, cb, rfl, hbw, hSt, hKb, hsz⟩
          replace hM := Lib.hid hSt
          replace hbw := Lib.hid hbw
          replace k17 := Lib.hid (hKb _ _ _ k17.out (by decide) (by decide))
          replace hC := Lib.hid (hC.out.keep (fun b cs U hB hU => hKb b cs U hB (by rcases hU with rfl | rfl | rfl | rfl <;> decide) (by rcases hU with rfl | rfl | rfl | rfl <;> decide)) hsz)
          refine hK6.out _ _ (hS.out _ hC.out.x) (fun hHeld => ?_)
          clear hK6 K6 hSt hKb hsz hPo
          try simp only [Act.put, List.setIfInBounds_toArray, List.set_cons_zero, List.set_cons_succ]
          refine wpAnyH_ready (rs := [10]) (by kernel_rfl) (by simp) ?_
          refine AllReadyH.cons (o := { dst := none, op := .store _ (.tmp 17) (.tmp 121), type := _, pos := _, after := _, guard := _ }) rfl (fun K6 hK6 => ?_) AllReadyH.nil
          have r0 : wb3.cell? ⟨b17, 0, none⟩ = some (.int .u8 0) := k17.out.cell (i := 0) rfl
          have r1 : wb3.cell? ⟨b17, 1, none⟩ = some (.slice none 0 0) := k17.out.cell (i := 1) rfl
          have rf := k17.out.free
          have rl := k17.out.lt
          go_simp
          have k18 := Lib.hid (((k17.out.set 0 (.int .u8 r.s)).set 1 (.slice ab nb cb)).congr (c' := #[.int .u8 r.s, .slice ab nb cb]) rfl)
          have hset : ∀ b cs U, Blk wb3 b cs U → U ≠ 77 → Blk ((wb3.setCell ⟨b17, 0, none⟩ (.int .u8 r.s)).setCell ⟨b17, 1, none⟩ (.slice ab nb cb)) b cs U := fun b cs U hb hU => by
            have e := hb.ne k17.out hU
            exact (hb.setNe (a := ⟨b17, 0, none⟩) e _).setNe (a := ⟨b17, 1, none⟩) e _
          replace hM := Lib.hid (hM.out.set2 k17.out hg17.out (.int .u8 r.s) (.slice ab nb cb))
          replace hC := Lib.hid (hC.out.keep (W' := (wb3.setCell ⟨b17, 0, none⟩ (.int .u8 r.s)).setCell ⟨b17, 1, none⟩ (.slice ab nb cb)) (fun b cs U hB hU => hset b cs U hB (by rcases hU with rfl | rfl | rfl | rfl <;> decide)) (by simp))
          replace hbw := Lib.hid (hbw.out.blk fun g cs U hU hg => hset g cs U hg (by rcases hU with rfl | rfl <;> decide))
          refine hK6.out _ _ (hS.out _ hC.out.x) (fun hHeld => ?_)
          clear hK6 K6 r0 r1 rf rl k17 hset
          generalize (wb3.setCell ⟨b17, 0, none⟩ (.int .u8 r.s)).setCell ⟨b17, 1, none⟩ (.slice ab nb cb) = wb4 at *
          try simp only [Act.put, List.setIfInBounds_toArray, List.set_cons_zero, List.set_cons_succ]
          refine wpAnyH_done (by kernel_rfl) ?_ _
          exact hK2.out _ _ trivial ⟨b17, ab, nb, cb, ⟨hM.out, hC.out, k18.out, hbw.out⟩, by kernel_rfl, rfl, by kernel_rfl, by kernel_rfl, by kernel_rfl, by kernel_rfl, by kernel_rfl, by kernel_rfl, by kernel_rfl, by kernel_rfl⟩
        refine AllReadyH.cons (o := { dst := some 17, op := .alloc _, type := _, pos := _, after := _, guard := _ }) rfl (fun K6 hK6 => ?_) AllReadyH.nil
        go_simp
        have k17 := Lib.hid (Blk.new wb0 #[.int .u8 0, .slice none 0 0] 77)
        have hg17 : w.heap.size ≤ wb0.heap.size := hM.out.bel.size
        replace hM := Lib.hid (hM.out.box #[.int .u8 0, .slice none 0 0] 77)
        replace hC := Lib.hid (hC.out.below (below_alloc wb0 (.cells #[.int .u8 0, .slice none 0 0] 77)))
        refine hK6.out _ _ (hS.out _ hC.out.x) (fun hHeld => ?_)
        clear hK6 K6
        generalize wb0.alloc (.cells #[.int .u8 0, .slice none 0 0] 77) = wb1 at *
        generalize wb0.heap.size = b17 at *
        replace hg17 := Lib.hid hg17
        try simp only [Act.put, List.setIfInBounds_toArray, List.set_cons_zero, List.set_cons_succ]
        refine wpAnyH_ready (rs := [7]) (by kernel_rfl) (by simp) ?_
        refine AllReadyH.cons (o := { dst := some 120, op := .call { callee := .value (.func 32), args := _, argTypes := _ }, type := _, pos := _, after := _, guard := _ }) rfl (fun K6 hK6 => ?_) AllReadyH.nil
        go_simp
        refine (hP7.out _ hM.out.bel).mono ?_
        rintro e wb2 ⟨a7, n7, c7, rfl, hPo, hb7⟩
        replace hPo := Lib.hid hPo
        replace hM := Lib.hid (hM.out.below hb7)
        replace k17 := Lib.hid (k17.out.below hb7 k17.out.lt)
        replace hC := Lib.hid (hC.out.below hb7)
        refine hK6.out _ _ (hS.out _ hC.out.x) (fun hHeld => ?_)
        clear hK6 K6 hb7
        try simp only [Act.put, List.setIfInBounds_toArray, List.set_cons_zero, List.set_cons_succ]
        refine wpAnyH_ready (rs := [8]) (by kernel_rfl) (by simp) ?_
        refine AllReadyH.cons (o := { dst := some 121, op := .call { callee := .value (.func 31), args := _, argTypes := _ }, type := _, pos := _, after := _, guard := _ }) rfl (fun K6 hK6 => ?_) AllReadyH.nil
        go_simp
        refine (hM.out.says hFm.out (by omega) hp.out _ hPo.out).mono ?_
        rintro e wb3 ⟨ab, nb, cb, rfl, hbw, hSt, hKb, hsz⟩
        replace hM := Lib.hid hSt
        replace hbw := Lib.hid hbw
        replace k17 := Lib.hid (hKb _ _ _ k17.out (by decide) (by decide))
        replace hC := Lib.hid (hC.out.keep (fun b cs U hB hU => hKb b cs U hB (by rcases hU with rfl | rfl | rfl | rfl <;> decide) (by rcases hU with rfl | rfl | rfl | rfl <;> decide)) hsz)
        refine hK6.out _ _ (hS.out _ hC.out.x) (fun hHeld => ?_)
        clear hK6 K6 hSt hKb hsz hPo
        try simp only [Act.put, List.setIfInBounds_toArray, List.set_cons_zero, List.set_cons_succ]
        refine wpAnyH_ready (rs := [10]) (by kernel_rfl) (by simp) ?_
        refine AllReadyH.cons (o := { dst := none, op := .store _ (.tmp 17) (.tmp 121), type := _, pos := _, after := _, guard := _ }) rfl (fun K6 hK6 => ?_) AllReadyH.nil
        have r0 : wb3.cell? ⟨b17, 0, none⟩ = some (.int .u8 0) := k17.out.cell (i := 0) rfl
        have r1 : wb3.cell? ⟨b17, 1, none⟩ = some (.slice none 0 0) := k17.out.cell (i := 1) rfl
        have rf := k17.out.free
        have rl := k17.out.lt
        go_simp
        have k18 := Lib.hid (((k17.out.set 0 (.int .u8 r.s)).set 1 (.slice ab nb cb)).congr (c' := #[.int .u8 r.s, .slice ab nb cb]) rfl)
        have hset : ∀ b cs U, Blk wb3 b cs U → U ≠ 77 → Blk ((wb3.setCell ⟨b17, 0, none⟩ (.int .u8 r.s)).setCell ⟨b17, 1, none⟩ (.slice ab nb cb)) b cs U := fun b cs U hb hU => by
          have e := hb.ne k17.out hU
          exact (hb.setNe (a := ⟨b17, 0, none⟩) e _).setNe (a := ⟨b17, 1, none⟩) e _
        replace hM := Lib.hid (hM.out.set2 k17.out hg17.out (.int .u8 r.s) (.slice ab nb cb))
        replace hC := Lib.hid (hC.out.keep (W' := (wb3.setCell ⟨b17, 0, none⟩ (.int .u8 r.s)).setCell ⟨b17, 1, none⟩ (.slice ab nb cb)) (fun b cs U hB hU => hset b cs U hB (by rcases hU with rfl | rfl | rfl | rfl <;> decide)) (by simp))
        replace hbw := Lib.hid (hbw.out.blk fun g cs U hU hg => hset g cs U hg (by rcases hU with rfl | rfl <;> decide))
        refine hK6.out _ _ (hS.out _ hC.out.x) (fun hHeld => ?_)
        clear hK6 K6 r0 r1 rf rl k17 hset
        generalize (wb3.setCell ⟨b17, 0, none⟩ (.int .u8 r.s)).setCell ⟨b17, 1, none⟩ (.slice ab nb cb) = wb4 at *
        try simp only [Act.put, List.setIfInBounds_toArray, List.set_cons_zero, List.set_cons_succ]
        refine wpAnyH_done (by kernel_rfl) ?_ _
        exact hK2.out _ _ trivial ⟨b17, ab, nb, cb, ⟨hM.out, hC.out, k18.out, hbw.out⟩, by kernel_rfl, rfl, by kernel_rfl, by kernel_rfl, by kernel_rfl, by kernel_rfl, by kernel_rfl, by kernel_rfl, by kernel_rfl, by kernel_rfl⟩
      clear hCl hM6 hP7
      rintro a wx ⟨b17, ab, nb, cb, hA, hs', hd', k2', k8', k10', k13', k14', k15', k16', k17'⟩
      rw [fr187 a hs' hd']; simp only [k2', k8', k10', k13', k14', k15', k16', k17']; clear hs' hd' k2' k8' k10' k13' k14' k15' k16' k17'
      have hSt := Lib.hid hA.out.1
      have hC := Lib.hid hA.out.2.1
      have k17 := Lib.hid hA.out.2.2.1
      have hbw := Lib.hid hA.out.2.2.2
      clear hA
      have hcl : Hid (∀ W, Below wx.heap.size wx W → W.cell? ⟨p1, 1, none⟩ = some (.int .i64 l) ∧ W.cell? ⟨p1, 3, none⟩ = some (.slice va vn vc) ∧ W.cell? ⟨b15, 1, none⟩ = some (.slice ta tn tc) ∧ W.cell? ⟨q2, 0, none⟩ = some (.int .u8 r.s) ∧ W.cell? ⟨q2, 1, none⟩ = some (.slice a5 n5 c5) ∧ W.cell? ⟨b17, 0, none⟩ = some (.int .u8 r.s) ∧ W.cell? ⟨b17, 1, none⟩ = some (.slice ab nb cb) ∧ p1 < W.heap.size ∧ b15 < W.heap.size ∧ q2 < W.heap.size ∧ b17 < W.heap.size) := fun W hW => by
        have h1 := hC.out.x.below hW hC.out.x.lt
        have h2 := hC.out.p.below hW hC.out.p.lt
        have h3 := hC.out.a.below hW hC.out.a.lt
        have h4 := k17.out.below hW k17.out.lt
        exact ⟨h1.cell (i := 1) rfl, h1.cell (i := 3) rfl, h2.cell (i := 1) rfl, h3.cell (i := 0) rfl, h3.cell (i := 1) rfl, h4.cell (i := 0) rfl, h4.cell (i := 1) rfl, h1.lt, h2.lt, h3.lt, h4.lt⟩
      have P1 : Hid (∀ W, Below wx.heap.size wx W → Calls Try.prog 33 #[.pointer (some ⟨pm, 0, none⟩), .int .i64 l] W fun e w' => e = .returned (.bool (isF F l)) ∧ W = w') := fun W hW => (hSt.out.below hW).is hFm.out l
      have P2 : Hid (∀ W, Below wx.heap.size wx W → Calls Try.prog 34 #[.pointer (some ⟨pd, 0, none⟩), .int .i64 l] W fun e w' => e = .returned (.bool (isF F l)) ∧ W = w') := fun W hW => (hSt.out.below hW).is2 hFm.out l
      have P3 : Hid (∀ W, OwnWord 97 163 q1 W (.slice a5 n5 c5) r.R → OwnWord 167 204 w.heap.size W (.slice ab nb cb) r.R → Calls Try.prog 35 #[.agg #[.int .u8 r.s, .slice a5 n5 c5], .agg #[.int .u8 r.s, .slice ab nb cb]] W fun e w' => e = .returned (.bool true) ∧ Below W.heap.size W w') := fun W h1 h2 => by
        have := sameP W r.s _ _ r.R r.R (h1.at0 hRf.out.ok) (h2.at0 hRf.out.ok) (RowsNear.self _) hRf.out.ok hRf.out.ok (by have := hRf.out.n; omega) (fun x hx => by have := hRf.out.t x hx; omega)
        rw [sameRows_self hRf.out.ok] at this
        exact this
      have P4 : Hid (∀ W, Below wx.heap.size wx W → Calls Try.prog 36 #[.agg #[.slice ta tn tc], .agg #[.slice va vn vc]] W fun e w' => e = .returned (.bool true) ∧ Below W.heap.size W w') := fun W hW =>
        leftWordR p1 W _ _ R (hC.out.tw.below hW) (hv.out.below (bthen hSt.out.bel hW)) hp.out.R (by have := hp.out.n; simp only at this; omega) hRt.out
      generalize isF F l = bi at *
      go_upto_region 26 with fail
      have hR : Hid (Below wx.heap.size wx wx.drew) := below_drewN wx 1
      have hkw : Hid (∀ W, Below wx.heap.size wx W → OwnWord 97 163 q1 W (.slice a5 n5 c5) r.R ∧ OwnWord 167 204 w.heap.size W (.slice ab nb cb) r.R) := fun W hW => ⟨hC.out.aw.keep hW (Nat.le_refl _), hbw.out.keep hW (Nat.le_refl _)⟩
      go_region_held3 (fun W => W.cell? ⟨p1, 1, none⟩ = some (.int .i64 l) ∧ W.cell? ⟨p1, 3, none⟩ = some (.slice va vn vc) ∧ W.cell? ⟨b15, 1, none⟩ = some (.slice ta tn tc) ∧ W.cell? ⟨q2, 0, none⟩ = some (.int .u8 r.s) ∧ W.cell? ⟨q2, 1, none⟩ = some (.slice a5 n5 c5) ∧ W.cell? ⟨b17, 0, none⟩ = some (.int .u8 r.s) ∧ W.cell? ⟨b17, 1, none⟩ = some (.slice ab nb cb) ∧ p1 < W.heap.size ∧ b15 < W.heap.size ∧ q2 < W.heap.size ∧ b17 < W.heap.size)
        (exact hcl.out _ hR.out)
        (first
          | (go_at_call 33
             (with_reducible refine (P1.out _ hR.out).mono ?_)
             rintro e _ ⟨rfl, rfl⟩)
          | (go_at_call 34
             (with_reducible refine (P2.out _ hR.out).mono ?_)
             rintro e _ ⟨rfl, rfl⟩)
          | (go_at_call 35
             (with_reducible refine (P3.out _ (hkw.out _ hR.out).1 (hkw.out _ hR.out).2).mono ?_)
             rintro e wn ⟨rfl, hbn⟩
             replace hR := Lib.hid (bthen hR.out hbn)
             clear hbn)
          | (go_at_call 36
             (with_reducible refine (P4.out _ hR.out).mono ?_)
             rintro e wn ⟨rfl, hbn⟩
             replace hR := Lib.hid (bthen hR.out hbn)
             clear hbn)
          | fail)
      rename_i hHeld
      clear hHeld P1 P2 P4 hcl hkw
      replace hC := Lib.hid (hC.out.below hR.out)
      replace hSt := Lib.hid (hSt.out.below hR.out)
      replace k17 := Lib.hid (k17.out.below hR.out k17.out.lt)
      replace hbw := Lib.hid (hbw.out.keep hR.out (Nat.le_refl _))
      clear hR
      have hPge : Hid (∀ k, ((p1 ≤ k ∧ k < p2) ∨ (q1 ≤ k ∧ k < q2)) → w.heap.size ≤ k) := fun k hk => by
        have h1 := hp1.out
        have h2 := hq0.out
        omega
      have htn : Hid (tn = R.length) := by
        obtain ⟨_, _, _, h1, h2⟩ := hC.out.tw.sl
        simp only [Value.slice.injEq] at h1
        exact Lib.hid (h1.2.1.trans h2)
      have han : Hid (n5 = r.R.length) := by
        obtain ⟨_, _, _, h1, h2⟩ := hC.out.aw.sln
        simp only [Value.slice.injEq] at h1
        exact Lib.hid (h1.2.1.trans h2)
      have hn1 : tn ≤ 1000000 := by have := hp.out.n; simp only at this; have := htn.out; omega
      have hn2 : n5 ≤ 1000000 := by have := hRf.out.n; have := han.out; omega
      go_wp2_with fail
      have hKo := hK
      clear hK
      refine wp_loop_k (InvS3 wn ad n cap pm pd j p1 p2 b15 q2 b17 tn) tn ?_ ?_
      · exact ⟨0, by omega, LpT.refl _ _ _, by kernel_rfl, rfl, by kernel_rfl, by kernel_rfl, by kernel_rfl, by kernel_rfl, by kernel_rfl, by kernel_rfl, by kernel_rfl, by kernel_rfl⟩
      intro gk3 a wr hI K3 hK
      obtain ⟨i, hi0, hL, hs', hd', k2', k8', k10', k13', k15', k16', k17', k18'⟩ := hI
      rw [fr187 a hs' hd']; simp only [k2', k8', k10', k13', k15', k16', k17', k18']; clear hs' hd' k2' k8' k10' k13' k15' k16' k17' k18'
      have kp := hL.out.blk hC.out.p (by decide)
      have c1 := kp.cell (i := 1) rfl
      have lp := kp.lt
      simp only [List.getElem_toArray, List.getElem_cons_zero, List.getElem_cons_succ] at c1
      clear kp
      by_cases hl3 : i < tn
      · have g6 : decide ((i : Int) < (tn : Int)) = true := by simp; omega
        have g7 : (i : Int) < (tn : Int) := by omega
        have g8 : IntKind.i64.wrap ((i : Int) + 1) = ((i + 1 : Nat) : Int) := by rw [wrapI _ (by omega) (by omega)]; omega
        obtain ⟨ad3, cap3, hd, tv, hv3, hl, hsp, hcs, hnx⟩ := hL.out.row hC.out.ts (by have := htn.out; omega : i < R.length)
        simp only [Value.slice.injEq] at hv3
        obtain ⟨rfl, -, rfl⟩ := hv3
        have hl57 : (hd ++ [tv]).length = 57 := by simp [hl]
        have hP := Lib.hid (spoilR wr hd tv hl hsp)
        replace hcs := Lib.hid hcs
        replace hnx := Lib.hid hnx
        clear hsp
        generalize hd ++ [tv] = Y at *
        go_wp2_with (first | refine wpList_val rfl (ex_load 97 (.tmp 158) rfl (ad3.add (i * 57)) rfl Y dr hcs.out hdr hdr1 (by rw [rowSize, hl57])) ?_ | fail)
        refine hP.out.mono ?_
        rintro e wz ⟨rfl, hs3⟩
        have hN := Lib.hid (hnx.out _ hs3)
        clear hs3 hnx hcs hP hL c1 lp
        go_wp2_with fail
        exact hK (tn - (i + 1)) _ _ (by omega) ⟨i + 1, by omega, hN, by kernel_rfl, rfl, by kernel_rfl, by kernel_rfl, by kernel_rfl, by kernel_rfl, by kernel_rfl, by kernel_rfl, by kernel_rfl, by kernel_rfl⟩
      have g6 : decide ((i : Int) < (tn : Int)) = false := by simp; omega
      have g7 : ¬ (i : Int) < (tn : Int) := by omega
      have hSt7 := Lib.hid (hL.out.st hSt.out (fun k hk => .inl hk) hPge.out)
      have haw := Lib.hid (hL.out.own hC.out.aw hC.out.le.1)
      have hasp := Lib.hid (SpWd.apart hL.out hC.out.as' hC.out.le.1)
      have hbw7 : Hid (OwnWord 167 204 w.heap.size wr (.slice ab nb cb) r.R) := hbw.out.blk fun g cs U hU hg => hL.out.blk hg (by rcases hU with rfl | rfl <;> decide)
      have kA := hL.out.blk hC.out.a (by decide)
      have kB := hL.out.blk k17.out (by decide)
      have d0 := kA.cell (i := 0) rfl
      have d1 := kA.cell (i := 1) rfl
      have d2 := kB.cell (i := 0) rfl
      have d3 := kB.cell (i := 1) rfl
      have lA := kA.lt
      have lB := kB.lt
      simp only [List.getElem_toArray, List.getElem_cons_zero, List.getElem_cons_succ] at d0 d1 d2 d3
      have hP5 := Lib.hid (P3.out _ haw.out hbw7.out)
      replace kA := Lib.hid kA
      clear kB hL hC hSt k17 hbw hK
      go_wp2_with fail
      refine hP5.out.mono ?_
      rintro e w8 ⟨rfl, hb8⟩
      replace hSt7 := Lib.hid (hSt7.out.below hb8)
      have hasp8 := hasp.out.blk (W' := w8) fun g c U _ hg => hg.below hb8 hg.lt
      rw [← han.out] at hasp8
      clear hasp
      have hasp := Lib.hid hasp8
      clear hasp8
      replace kA := Lib.hid (kA.out.below hb8 kA.out.lt)
      clear hP5 hb8 d0 d1 d2 d3 lA lB c1 lp haw hbw7 P3 g6 g7 hl3
      go_wp2_with fail
      refine wp_loop_k (InvS4 w8 ad n cap pm pd j q1 q2 (.slice a5 n5 c5) n5) n5 ?_ ?_
      · exact ⟨0, by omega, LpA.refl _ _ _ _ _, by kernel_rfl, rfl, by kernel_rfl, by kernel_rfl, by kernel_rfl, by kernel_rfl, by kernel_rfl, by kernel_rfl⟩
      clear hi0 i
      intro gk4 a wr hI K4 hK
      obtain ⟨i, hi0, hL, hs', hd', k2', k8', k10', k13', k16', k19'⟩ := hI
      rw [fr187 a hs' hd']; simp only [k2', k8', k10', k13', k16', k19']; clear hs' hd' k2' k8' k10' k13' k16' k19'
      have kp := hL.out.blk kA.out (by decide) (by decide)
      have c1 := kp.cell (i := 1) rfl
      have lp := kp.lt
      simp only [List.getElem_toArray, List.getElem_cons_zero, List.getElem_cons_succ] at c1
      clear kp
      by_cases hl3 : i < n5
      · have g6 : decide ((i : Int) < (n5 : Int)) = true := by simp; omega
        have g7 : (i : Int) < (n5 : Int) := by omega
        have g8 : IntKind.i64.wrap ((i : Int) + 1) = ((i + 1 : Nat) : Int) := by rw [wrapI _ (by omega) (by omega)]; omega
        obtain ⟨ad3, g3', cap3, hd, tv, hv3, hadi, hl, hsp, hcs, hnx⟩ := hL.out.row hasp.out hl3
        simp only [Value.slice.injEq] at hv3
        obtain ⟨rfl, -, rfl⟩ := hv3
        have hl57 : (hd ++ [tv]).length = 57 := by simp [hl]
        have hP := Lib.hid (spoilR wr hd tv hl hsp)
        replace hcs := Lib.hid hcs
        replace hnx := Lib.hid hnx
        replace hadi := Lib.hid hadi
        clear hsp
        generalize hd ++ [tv] = Y at *
        go_wp2_with (first | refine wpList_val rfl (ex_load 97 (.tmp 177) rfl (ad3.add (i * 57)) rfl Y dr hcs.out hdr hdr1 (by rw [rowSize, hl57])) ?_ | fail)
        refine hP.out.mono ?_
        rintro e wy ⟨rfl, hs3⟩
        obtain ⟨hL2, hth, hst⟩ := hnx.out _ hs3
        have kp := hL2.blk kA.out (by decide) (by decide)
        have c2 := kp.cell (i := 1) rfl
        have lp2 := kp.lt
        simp only [List.getElem_toArray, List.getElem_cons_zero, List.getElem_cons_succ] at c2
        have hth' : Hid (wy.there g3' (i * 57) Z.size) := by
          rw [hzr3]
          exact hth
        replace hst := Lib.hid hst
        clear hs3 hnx hcs hP hL c1 lp hL2 hth kp
        go_wp2_with (first | refine wpList_val rfl (ex_build 97 #[] rfl [] rfl Z hbz) ?_ | (refine wpList_skp rfl (ex_store_mid 97 (.tmp 185) (.tmp 184) rfl (ad3.add (i * 57)) g3' (i * 57) Z rfl hadi.out rfl hth'.out (by rw [rowSize, hzr3]) hzr1) ?_; generalize hwz : wy.setCells g3' (i * 57) Z.toList = wz; replace hwz := Lib.hid hwz) | fail)
        have hN : Hid (LpA q1 q2 w8 (.slice (some ad3) n5 c5) n5 (i + 1) wz) := by
          have h1 := hst.out Z.toList (by simpa using hzr3)
          rwa [hwz.out] at h1
        clear hst hth' hadi hwz c2 lp2
        go_wp2_with fail
        exact hK (n5 - (i + 1)) _ _ (by omega) ⟨i + 1, by omega, hN, by kernel_rfl, rfl, by kernel_rfl, by kernel_rfl, by kernel_rfl, by kernel_rfl, by kernel_rfl, by kernel_rfl⟩
      have g6 : decide ((i : Int) < (n5 : Int)) = false := by simp; omega
      have g7 : ¬ (i : Int) < (n5 : Int) := by omega
      have hVn : Hid (StAt w F pm bt bl pd (j + 1) (fun _ => False) wr) := (hL.out.st hSt7.out (fun k hk => .inr hk) hPge.out).weak fun k hk => hk.elim
      clear hL hSt7 hasp kA hK
      go_wp2_with fail
      exact hKo.out (n - (j + 1)) _ _ (by omega) ⟨j + 1, by omega, hVn, by kernel_rfl, rfl, by kernel_rfl, by kernel_rfl, by kernel_rfl, by kernel_rfl⟩
    · go_wp2_with fail
      refine (hLv.out _).mono ?_
      rintro e w5 ⟨rfl, hb5⟩
      have hb13 := Lib.hid (bthen hV1.out.bel hb5)
      go_wp2_with fail
      go_ret
      exact ⟨rfl, hb13.out⟩
  have g3 : decide ((j : Int) < (n : Int)) = false := by simp; omega
  have g4 : ¬ (j : Int) < (n : Int) := by omega
  have hb3 := Lib.hid hV.out.bel
  clear hV
  go_wp2_with fail
  refine (hLv.out _).mono ?_
  rintro e w4 ⟨rfl, hb4⟩
  have hb13 := Lib.hid (bthen hb3.out hb4)
  go_wp2_with fail
  go_ret
  exact ⟨rfl, hb13.out⟩
theorem faultsSays_any (w : World) (n0 nd lk : Int) (u : Value) (S : List SpellC) (hs : SpAt 0 w u S) (hS : ∀ s ∈ S, SpellOk s) (ao : Option Addr) (n cap : Nat) (L : List AskC) (hL : AsksIn w (.slice ao n cap) L) (hf : ∀ x ∈ L, AskFit x) :
    Calls Try.prog 5 #[.int .i64 n0, .agg #[.int .i64 nd, .int .i64 lk, u], .slice ao n cap] w fun e w' => e = .returned (.bool true) ∧ Below w.heap.size w w' := by
  by_cases hn : 80 < n
  · exact says_long w n0 nd lk u S hs ao n cap hn
  by_cases hn2 : 100 < S.length
  · exact says_many w n0 nd lk u S hs ao n cap hn hn2
  cases hB : faultB n0 nd lk S.length with
  | false => exact says_bad w n0 nd lk u S hs hS ao n cap hn hn2 hB
  | true =>
    obtain ⟨F, hF, rfl, rfl, rfl, rfl⟩ := faultB_ok hB hS
    refine says_good w F hF u hs _ L hL hf ?_
    obtain ⟨ao', n', cap', h1, h2, _⟩ := hL.len
    simp only [Value.slice.injEq] at h2
    omega
end Go.Proofs.Ytmdohnbhogfopaa
