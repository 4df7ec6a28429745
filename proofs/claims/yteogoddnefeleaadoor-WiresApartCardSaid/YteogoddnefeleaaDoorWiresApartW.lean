/- WiresApart: the walk. -/
import Derived.Test.YteogoddnefeleaaDoorWiresG
namespace Go.Proofs.YteogoddnefeleaaDoor
open Go.RowKit Go.Maps
set_option linter.unusedSimpArgs false
set_option linter.unusedVariables false
set_option maxRecDepth 100000
def oneG (a v x : Int) : Option Int := if x = a then some v else none
theorem apart_G {m : Nat} {a b x y z : Int} (ha : 0 ≤ a ∧ a < 4 * m) (hb : 0 ≤ b ∧ b < 4 * m) (h : a ≠ b) : takeG m (giveG m (giveG m (giveG m noneG a x) b y) a z) b = oneG a z := by
  funext k
  unfold takeG giveG oneG noneG
  simp only [if_pos ha, if_pos hb]
  by_cases h1 : k = b
  · subst h1
    rw [if_pos rfl, if_neg (fun e => h e.symm)]
  · rw [if_neg h1]
    by_cases h2 : k = a
    · rw [if_pos h2, if_pos h2]
    · rw [if_neg h2, if_neg h2, if_neg h1, if_neg h2]
def InvP3 (B : Nat) (w : World) (m pw xb : Nat) (av : Int) (G : Int → Option Int) (k : Nat) (a : Act) (wr : World) : Prop :=
  ∃ T : Nat, T + k = 3 ∧ Hid (Below B w wr) ∧ Hid (WA B wr pw m 64 (pF G 1 T) (pF G 2 T) (pF G 0 T) ((T : Nat) : Int)) ∧ a.tmps.size = 156 ∧ a.defers = [] ∧ slot a 5 = .pointer (some ⟨xb, 0, none⟩) ∧ slot a 7 = .int .i64 m ∧ slot a 8 = .int .i64 av ∧ slot a 10 = .pointer (some ⟨pw, 0, none⟩) ∧ slot a 16 = .int .i64 ((T : Int) + 1)
def InvP4 (B : Nat) (w : World) (m pw xb T : Nat) (av : Int) (G : Int → Option Int) (k : Nat) (a : Act) (wr : World) : Prop :=
  ∃ i : Nat, i + k = 4 * m ∧ Hid (Below B w wr) ∧ Hid (WA B wr pw m 64 (pF G 1 (T + 1)) (pF G 2 (T + 1)) noneG ((T + 1 : Nat) : Int)) ∧ a.tmps.size = 156 ∧ a.defers = [] ∧ slot a 5 = .pointer (some ⟨xb, 0, none⟩) ∧ slot a 7 = .int .i64 m ∧ slot a 8 = .int .i64 av ∧ slot a 10 = .pointer (some ⟨pw, 0, none⟩) ∧ slot a 16 = .int .i64 ((T : Int) + 1) ∧ slot a 17 = .int .i64 i
set_option maxHeartbeats 16000000 in
theorem wiresApart_any (w : World) (n k0 k1 x0 x1 x2 : Int) (hs : Signs w) (hn : 0 ≤ n ∧ n < 256) (hk0 : 0 ≤ k0 ∧ k0 < 256) (hk1 : 0 ≤ k1 ∧ k1 < 256) (hx0 : (Lit.int .i64 x0).wf = true) (hx1 : (Lit.int .i64 x1).wf = true) (hx2 : (Lit.int .i64 x2).wf = true) :
    Calls Tryd.prog 12 #[.int .u8 n, .agg #[.int .u8 k0, .int .u8 k1], .agg #[.int .i64 x0, .int .i64 x1, .int .i64 x2]] w fun e w' => e = .returned (.bool true) ∧ Below w.heap.size w w' := by
  have P0 : Hid (∀ W, Calls Tryd.prog 33 #[.int .u8 n] W fun e w' => e = .returned (.int .i64 (nodesN n)) ∧ W = w') := fun W => lawNodes8 W n hn.1 hn.2
  have hm := @nodesN_in n
  generalize nodesN n = m at *
  clear hn
  replace hx0 := Lib.hid hx0
  replace hx1 := Lib.hid hx1
  replace hx2 := Lib.hid hx2
  have t0 : IntKind.i64.wrap (4 * (m : Int)) = 4 * (m : Int) := wrap_near _ (by omega) (by omega)
  have t1 : Int.tmod k0 (4 * (m : Int)) = k0 % (4 * (m : Int)) := Int.tmod_eq_emod_of_nonneg hk0.1
  have t2 : Int.tmod k1 (4 * (m : Int)) = k1 % (4 * (m : Int)) := Int.tmod_eq_emod_of_nonneg hk1.1
  have u1 : IntKind.i64.wrap k0 = k0 := wrap_near _ (by omega) (by omega)
  have u2 : IntKind.i64.wrap k1 = k1 := wrap_near _ (by omega) (by omega)
  have ha : 0 ≤ k0 % (4 * (m : Int)) ∧ k0 % (4 * (m : Int)) < 4 * (m : Int) := ⟨Int.emod_nonneg _ (by omega), Int.emod_lt_of_pos _ (by omega)⟩
  have hb : 0 ≤ k1 % (4 * (m : Int)) ∧ k1 % (4 * (m : Int)) < 4 * (m : Int) := ⟨Int.emod_nonneg _ (by omega), Int.emod_lt_of_pos _ (by omega)⟩
  generalize k0 % (4 * (m : Int)) = av at *
  generalize k1 % (4 * (m : Int)) = bv at *
  have u3 : IntKind.i64.wrap av = av := wrap_near _ (by omega) (by omega)
  have u4 : IntKind.i64.wrap bv = bv := wrap_near _ (by omega) (by omega)
  have m0 : 4 * (m : Int) ≠ 0 := by omega
  have m1 : (4 * (m : Int) == 0) = false := by simp; omega
  have m2 : decide (4 * (m : Int) = 0) = false := by simp; omega
  replace hs := Lib.hid hs
  clear hk0 hk1
  go_enter Tryd.func12, Tryd.ntmps12
  go_wp2_with fail
  have hbw : Below w.heap.size w ((w.alloc (.cells #[.int .u8 k0, .int .u8 k1] 41)).alloc (.cells #[.int .i64 x0, .int .i64 x1, .int .i64 x2] 29)) := (below_alloc _ _).trans ((below_alloc _ _).mono (by simp))
  have hA0 : Blk ((w.alloc (.cells #[.int .u8 k0, .int .u8 k1] 41)).alloc (.cells #[.int .i64 x0, .int .i64 x1, .int .i64 x2] 29)) w.heap.size #[.int .u8 k0, .int .u8 k1] 41 := (Blk.new w _ _).alloc _
  have hA1 : Blk ((w.alloc (.cells #[.int .u8 k0, .int .u8 k1] 41)).alloc (.cells #[.int .i64 x0, .int .i64 x1, .int .i64 x2] 29)) (w.heap.size + 1) #[.int .i64 x0, .int .i64 x1, .int .i64 x2] 29 := by
    have := Blk.new (w.alloc (.cells #[.int .u8 k0, .int .u8 k1] 41)) #[.int .i64 x0, .int .i64 x1, .int .i64 x2] 29
    simpa using this
  have d0 := hA0.cell (i := 0) rfl
  have d1 := hA0.cell (i := 1) rfl
  have c0 := hA1.cell (i := 0) rfl
  have c1 := hA1.cell (i := 1) rfl
  have c2 := hA1.cell (i := 2) rfl
  have hlt := hA1.lt
  clear hA0 hA1
  generalize ((w.alloc (.cells #[.int .u8 k0, .int .u8 k1] 41)).alloc (.cells #[.int .i64 x0, .int .i64 x1, .int .i64 x2] 29)) = w1 at *
  replace hs := Lib.hid (hs.out.to hbw)
  have sg : Hid (∀ W, Below w1.heap.size w1 W → Signs W) := fun W h => hs.out.to h
  have cx : Hid (∀ W, Below w1.heap.size w1 W → W.cell? ⟨w.heap.size + 1, 2, none⟩ = some (.int .i64 x2)) := fun W h => below_cell c2 h (by simpa using hlt)
  have cx0 : Hid (∀ W, Below w1.heap.size w1 W → W.cell? ⟨w.heap.size + 1, 0, none⟩ = some (.int .i64 x0)) := fun W h => below_cell c0 h (by simpa using hlt)
  have cx1 : Hid (∀ W, Below w1.heap.size w1 W → W.cell? ⟨w.heap.size + 1, 1, none⟩ = some (.int .i64 x1)) := fun W h => below_cell c1 h (by simpa using hlt)
  replace hbw := Lib.hid hbw
  refine (P0.out _).mono ?_
  rintro e _ ⟨rfl, rfl⟩
  go_wp2_with fail
  refine (aNew _ _ hm hs.out).mono ?_
  rintro e w2 ⟨pw, rfl, hA, hB⟩
  replace hA := Lib.hid hA
  replace hB := Lib.hid hB
  by_cases hab : av = bv
  · have r1 : (av == bv) = true := by simp [hab]
    have r2 : decide (av = bv) = true := by simp [hab]
    clear hab ha hb
    go_wp2_with fail
    refine (lives08 _ (sg.out _ hB.out)).mono ?_
    rintro e w9 ⟨rfl, hb9⟩
    go_wp2_with fail
    go_ret
    exact ⟨rfl, bthen (bthen hbw.out hB.out) hb9⟩
  have r1 : (av == bv) = false := by simp [hab]
  have r2 : decide (av = bv) = false := by simp [hab]
  have hG := apart_G (x := x0) (y := x1) (z := x2) ha hb hab
  have ga : (Lit.int .i64 av).wf = true := int_wf (by omega)
  have gb : (Lit.int .i64 bv).wf = true := int_wf (by omega)
  have ea : givenO m (oneG av x2) av = some x2 := by unfold givenO oneG; rw [if_pos ha, if_pos rfl]
  have eb : givenO m (oneG av x2) bv = none := by unfold givenO oneG; rw [if_pos hb, if_neg (fun e => hab e.symm)]
  have v1 : mayE m (4 * (m : Int)) = 1 := by unfold mayE; rw [if_neg (by omega)]
  have v2 : mayE m (-1) = 1 := by unfold mayE; rw [if_neg (by omega)]
  have v3 : giveG m (oneG av x2) (4 * (m : Int)) 1 = oneG av x2 := by funext x; unfold giveG; rw [if_neg (by omega)]
  have v4 : takeG m (oneG av x2) (-1) = oneG av x2 := by funext x; unfold takeG; rw [if_neg (by omega)]
  replace hG := Lib.hid hG
  replace ga := Lib.hid ga
  replace gb := Lib.hid gb
  replace ea := Lib.hid ea
  replace eb := Lib.hid eb
  replace v1 := Lib.hid v1
  replace v2 := Lib.hid v2
  replace v3 := Lib.hid v3
  replace v4 := Lib.hid v4
  replace c0 := cx0.out _ hB.out
  replace c1 := cx1.out _ hB.out
  replace c2 := cx.out _ hB.out
  clear hab d0 d1
  go_wp2_with fail
  refine (aGive hA.out (by omega) av x0 ga.out hx0.out).mono ?_
  rintro e w3 ⟨rfl, hA3, hB3, -⟩
  replace hA := Lib.hid hA3
  replace hB := Lib.hid (hB.out.trans hB3)
  clear hA3 hB3
  replace c1 := cx1.out _ hB.out
  replace c2 := cx.out _ hB.out
  clear c0
  go_wp2_with fail
  refine (aGive hA.out (by omega) bv x1 gb.out hx1.out).mono ?_
  rintro e w4 ⟨rfl, hA3, hB3, -⟩
  replace hA := Lib.hid hA3
  replace hB := Lib.hid (hB.out.trans hB3)
  clear hA3 hB3
  replace c2 := cx.out _ hB.out
  clear c1
  go_wp2_with fail
  refine (aGive hA.out (by omega) av x2 ga.out hx2.out).mono ?_
  rintro e w5 ⟨rfl, hA3, hB3, -⟩
  replace hA := Lib.hid hA3
  replace hB := Lib.hid (hB.out.trans hB3)
  clear hA3 hB3
  replace c2 := cx.out _ hB.out
  go_wp2_with fail
  refine (aTake hA.out bv gb.out).mono ?_
  rintro e w6 ⟨rfl, hA3, hB3, -⟩
  rw [hG.out] at hA3
  replace hA := Lib.hid hA3
  replace hB := Lib.hid (hB.out.trans hB3)
  clear hA3 hB3
  replace c2 := cx.out _ hB.out
  go_wp2_with fail
  refine (aGiven hA.out av ga.out).mono ?_
  rw [ea.out]
  rintro e _ ⟨rfl, rfl⟩
  go_wp2_with fail
  refine (aGiven hA.out bv gb.out).mono ?_
  rw [eb.out]
  rintro e _ ⟨rfl, rfl⟩
  go_wp2_with fail
  refine (aGive hA.out (by omega) (4 * (m : Int)) 1 (int_wf (by omega)) (by decide)).mono ?_
  rw [v1.out, v3.out]
  rintro e w7 ⟨rfl, hA3, hB3, -⟩
  replace hA := Lib.hid hA3
  replace hB := Lib.hid (hB.out.trans hB3)
  clear hA3 hB3
  replace c2 := cx.out _ hB.out
  go_wp2_with fail
  refine (aTake hA.out (-1) (by decide)).mono ?_
  rw [v2.out, v4.out]
  rintro e w8 ⟨rfl, hA3, hB3, -⟩
  replace hA := Lib.hid hA3
  replace hB := Lib.hid (hB.out.trans hB3)
  clear hA3 hB3
  replace c2 := cx.out _ hB.out
  go_wp2_with fail
  have hGj : ∀ j, oneG av x2 j = if j = av then some x2 else none := fun j => rfl
  generalize oneG av x2 = G at *
  replace hGj := Lib.hid hGj
  clear hG v3 v4 ea eb ga gb v1 v2
  refine wp_loop_k (InvP3 w1.heap.size w1 m pw (w.heap.size + 1) av G) 3 ?_ ?_
  · exact ⟨0, by omega, hB, hA.out.mono (by omega), by kernel_rfl, rfl, by kernel_rfl, by kernel_rfl, by kernel_rfl, by kernel_rfl, by kernel_rfl⟩
  clear hA hB c2
  intro gk3 a wr3 hI K hK
  obtain ⟨T, hT, hb2, hA2, hs', hd', k5', k7', k8', k10', k16'⟩ := hI
  rw [fr156 a hs' hd']; simp only [k5', k7', k8', k10', k16']; clear hs' hd' k5' k7' k8' k10' k16'
  by_cases hTl : T < 3
  · have g1 : decide ((T : Int) + 1 ≤ 3) = true := by simp; omega
    have g2 : (T : Int) + 1 ≤ 3 := by omega
    have g5 : IntKind.i64.wrap ((T : Int) + 1 + 1) = (T : Int) + 1 + 1 := wrap_near _ (by omega) (by omega)
    go_wp2_with fail
    refine (aEnd hA2.out ⟨by omega, by omega⟩).mono ?_
    rintro e w3 ⟨rfl, hA3, hb3, -⟩
    replace hb3 := Lib.hid (hb2.out.trans hb3)
    have hA4 : Hid (WA w1.heap.size w3 pw m 64 (pF G 1 (T + 1)) (pF G 2 (T + 1)) noneG ((T + 1 : Nat) : Int)) := by
      have e1 : pF G 1 (T + 1) = pF G 0 T := by simp [pF]
      have e2 : pF G 2 (T + 1) = pF G 1 T := by simp [pF]
      have e3 : ((T + 1 : Nat) : Int) = (T : Int) + 1 := by omega
      rw [e1, e2, e3]
      exact hA3.mono (by omega)
    clear hA3 hA2 hb2
    go_wp2_with fail
    refine wp_loop_k (InvP4 w1.heap.size w1 m pw (w.heap.size + 1) T av G) (4 * m) ?_ ?_
    · exact ⟨0, by omega, hb3, hA4, by kernel_rfl, rfl, by kernel_rfl, by kernel_rfl, by kernel_rfl, by kernel_rfl, by kernel_rfl, by kernel_rfl⟩
    clear hA4 hb3
    intro gk4 a wr4 hI K4 hK4
    obtain ⟨j, hj, hb2, hA2, hs', hd', k5', k7', k8', k10', k16', k17'⟩ := hI
    rw [fr156 a hs' hd']; simp only [k5', k7', k8', k10', k16', k17']; clear hs' hd' k5' k7' k8' k10' k16' k17'
    by_cases hjl : j < 4 * m
    · have f1 : decide ((j : Int) < 4 * (m : Int)) = true := by simp; omega
      have f2 : (j : Int) < 4 * (m : Int) := by omega
      have f3 : IntKind.i64.wrap ((j : Int) + 1) = (j : Int) + 1 := wrap_near _ (by omega) (by omega)
      obtain ⟨k1', k2, k3, k4⟩ := ends_facts (m := m) (k := j) (by omega) (by omega)
      have ho := here_pF (m := m) (G := G) (tick := T + 1) (k := j) (by omega)
      rw [hGj.out] at ho
      rw [← k1'] at ho
      replace ho := Lib.hid ho
      replace k1' := Lib.hid k1'
      replace k3 := Lib.hid k3
      clear k2
      go_wp2_with fail
      refine (ringsEnds _ _ _ (sg.out _ hb2.out)).mono ?_
      rw [show endsV m j = .tuple #[.int .i64 (endF m j), .int .i64 (endT m j), .int .u8 (endD m j), .int .i64 (endH m j)] from rfl]
      rintro e _ ⟨rfl, q4, rfl⟩
      generalize endF m j = ef at *
      generalize endT m j = et at *
      generalize endD m j = ed at *
      generalize endH m j = eh at *
      replace hb2 := Lib.hid (bdrewN hb2.out q4)
      replace hA2 := Lib.hid (hA2.out.drewN q4)
      generalize wr4.drewN q4 = w4 at *
      have c2 := cx.out _ hb2.out
      go_wp2_with fail
      rw [k1'.out] at ho
      have hor : (((T : Int) + 1 = eh) ∧ hereO m (pF G 1 (T + 1)) (pF G 2 (T + 1)) (linkOf m ed et eh) = if (j : Int) = av then some x2 else none) ∨ ((T : Int) + 1 ≠ eh ∧ hereO m (pF G 1 (T + 1)) (pF G 2 (T + 1)) (linkOf m ed et eh) = none) := by
        rw [k1'.out, ho.out]
        replace k3 := k3.out
        by_cases hh : (T : Int) + 1 = eh
        · left; exact ⟨hh, by rw [if_pos (by omega)]⟩
        · right; exact ⟨hh, by rw [if_neg (by omega)]⟩
      clear ho k1' k3
      rcases hor with ⟨hh, ho⟩ | ⟨hh, ho⟩
      · have l1 : decide ((T : Int) + 1 = eh) = true := by simp [hh]
        have l2 : ((T : Int) + 1 == eh) = true := by simp [hh]
        clear hh
        by_cases hja : (j : Int) = av
        · have l3 : decide ((j : Int) = av) = true := by simp [hja]
          have l4 : ((j : Int) == av) = true := by simp [hja]
          rw [if_pos hja] at ho
          clear hja
          refine (aHere hA2.out (sg.out _ hb2.out) ed et eh k4 _ ho).mono ?_
          rintro e _ ⟨rfl, q5, rfl⟩
          clear ho
          replace hb2 := Lib.hid (bdrewN hb2.out q5)
          replace hA2 := Lib.hid (hA2.out.drewN q5)
          replace c2 := cx.out _ hb2.out
          generalize w4.drewN q5 = w5 at *
          go_wp2_with fail
          exact hK4 (4 * m - (j + 1)) _ _ (by omega) ⟨j + 1, by omega, hb2, hA2, by kernel_rfl, rfl, by kernel_rfl, by kernel_rfl, by kernel_rfl, by kernel_rfl, by kernel_rfl, by kernel_rfl⟩
        · have l3 : decide ((j : Int) = av) = false := by simp [hja]
          have l4 : ((j : Int) == av) = false := by simp [hja]
          rw [if_neg hja] at ho
          clear hja
          refine (aHere hA2.out (sg.out _ hb2.out) ed et eh k4 _ ho).mono ?_
          rintro e _ ⟨rfl, q5, rfl⟩
          clear ho
          replace hb2 := Lib.hid (bdrewN hb2.out q5)
          replace hA2 := Lib.hid (hA2.out.drewN q5)
          replace c2 := cx.out _ hb2.out
          generalize w4.drewN q5 = w5 at *
          go_wp2_with fail
          exact hK4 (4 * m - (j + 1)) _ _ (by omega) ⟨j + 1, by omega, hb2, hA2, by kernel_rfl, rfl, by kernel_rfl, by kernel_rfl, by kernel_rfl, by kernel_rfl, by kernel_rfl, by kernel_rfl⟩
      · have l1 : decide ((T : Int) + 1 = eh) = false := by simp [hh]
        have l2 : ((T : Int) + 1 == eh) = false := by simp [hh]
        clear hh
        by_cases hja : (j : Int) = av
        · have l3 : decide ((j : Int) = av) = true := by simp [hja]
          have l4 : ((j : Int) == av) = true := by simp [hja]
          clear hja
          refine (aHere hA2.out (sg.out _ hb2.out) ed et eh k4 _ ho).mono ?_
          rintro e _ ⟨rfl, q5, rfl⟩
          clear ho
          replace hb2 := Lib.hid (bdrewN hb2.out q5)
          replace hA2 := Lib.hid (hA2.out.drewN q5)
          replace c2 := cx.out _ hb2.out
          generalize w4.drewN q5 = w5 at *
          go_wp2_with fail
          exact hK4 (4 * m - (j + 1)) _ _ (by omega) ⟨j + 1, by omega, hb2, hA2, by kernel_rfl, rfl, by kernel_rfl, by kernel_rfl, by kernel_rfl, by kernel_rfl, by kernel_rfl, by kernel_rfl⟩
        · have l3 : decide ((j : Int) = av) = false := by simp [hja]
          have l4 : ((j : Int) == av) = false := by simp [hja]
          clear hja
          refine (aHere hA2.out (sg.out _ hb2.out) ed et eh k4 _ ho).mono ?_
          rintro e _ ⟨rfl, q5, rfl⟩
          clear ho
          replace hb2 := Lib.hid (bdrewN hb2.out q5)
          replace hA2 := Lib.hid (hA2.out.drewN q5)
          replace c2 := cx.out _ hb2.out
          generalize w4.drewN q5 = w5 at *
          go_wp2_with fail
          exact hK4 (4 * m - (j + 1)) _ _ (by omega) ⟨j + 1, by omega, hb2, hA2, by kernel_rfl, rfl, by kernel_rfl, by kernel_rfl, by kernel_rfl, by kernel_rfl, by kernel_rfl, by kernel_rfl⟩
    have f1 : decide ((j : Int) < 4 * (m : Int)) = false := by simp; omega
    have f2 : ¬ (j : Int) < 4 * (m : Int) := by omega
    go_wp2_with fail
    refine hK (3 - (T + 1)) _ _ (by omega) ⟨T + 1, by omega, hb2, ?_, by kernel_rfl, rfl, by kernel_rfl, by kernel_rfl, by kernel_rfl, by kernel_rfl, by kernel_rfl⟩
    have e0 : pF G 0 (T + 1) = noneG := by simp [pF]
    rw [e0]
    exact hA2
  have g1 : decide ((T : Int) + 1 ≤ 3) = false := by simp; omega
  have g2 : ¬ (T : Int) + 1 ≤ 3 := by omega
  go_wp2_with fail
  refine (lives08 _ (sg.out _ hb2.out)).mono ?_
  rintro e w9 ⟨rfl, hb9⟩
  go_wp2_with fail
  go_ret
  exact ⟨rfl, bthen (bthen hbw.out hb2.out) hb9⟩
end Go.Proofs.YteogoddnefeleaaDoor
