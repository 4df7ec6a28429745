/- WiresAll: the walk. -/
import Derived.Test.YteogoddnefeleaaDoorWiresG
namespace Go.Proofs.YteogoddnefeleaaDoor
open Go.RowKit Go.Maps
set_option linter.unusedSimpArgs false
set_option linter.unusedVariables false
set_option maxRecDepth 100000
def allG (i : Nat) (x : Int) : Option Int := if 0 ≤ x ∧ x < i then some (100 + x) else none
theorem allG_zero : allG 0 = noneG := by
  funext x
  simp [allG, noneG]
theorem allG_next {m i : Nat} (h : i < 4 * m) : giveG m (allG i) i (100 + i) = allG (i + 1) := by
  funext x
  unfold giveG allG
  rw [if_pos (by omega)]
  by_cases hx : x = i
  · subst hx
    rw [if_pos rfl, if_pos (by omega)]
  · rw [if_neg hx]
    by_cases h1 : 0 ≤ x ∧ x < i
    · rw [if_pos h1, if_pos (by omega)]
    · rw [if_neg h1, if_neg (by omega)]
def InvA1 (w : World) (m pw wt : Nat) (wait : Int) (k : Nat) (a : Act) (wr : World) : Prop :=
  ∃ i : Nat, i + k = wt ∧ Hid (Below w.heap.size w wr) ∧ Hid (WA w.heap.size wr pw m 0 noneG noneG noneG i) ∧ a.tmps.size = 109 ∧ a.defers = [] ∧ slot a 1 = .int .u8 wait ∧ slot a 5 = .int .i64 m ∧ slot a 6 = .pointer (some ⟨pw, 0, none⟩) ∧ slot a 8 = .int .i64 i
def InvA2 (w : World) (m pw wt : Nat) (k : Nat) (a : Act) (wr : World) : Prop :=
  ∃ i : Nat, i + k = 4 * m ∧ Hid (Below w.heap.size w wr) ∧ Hid (WA w.heap.size wr pw m i noneG noneG (allG i) wt) ∧ a.tmps.size = 109 ∧ a.defers = [] ∧ slot a 5 = .int .i64 m ∧ slot a 6 = .pointer (some ⟨pw, 0, none⟩) ∧ slot a 9 = .int .i64 i
def InvA3 (w : World) (m pw wt : Nat) (G : Int → Option Int) (k : Nat) (a : Act) (wr : World) : Prop :=
  ∃ T : Nat, T + k = 4 ∧ Hid (Below w.heap.size w wr) ∧ Hid (WA w.heap.size wr pw m 64 (pF G 1 T) (pF G 2 T) (pF G 0 T) ((wt + T : Nat) : Int)) ∧ a.tmps.size = 109 ∧ a.defers = [] ∧ slot a 5 = .int .i64 m ∧ slot a 6 = .pointer (some ⟨pw, 0, none⟩) ∧ slot a 10 = .int .i64 ((T : Int) + 1)
def InvA4 (w : World) (m pw wt T : Nat) (G : Int → Option Int) (k : Nat) (a : Act) (wr : World) : Prop :=
  ∃ i : Nat, i + k = 4 * m ∧ Hid (Below w.heap.size w wr) ∧ Hid (WA w.heap.size wr pw m 64 (pF G 1 (T + 1)) (pF G 2 (T + 1)) noneG ((wt + (T + 1) : Nat) : Int)) ∧ a.tmps.size = 109 ∧ a.defers = [] ∧ slot a 5 = .int .i64 m ∧ slot a 6 = .pointer (some ⟨pw, 0, none⟩) ∧ slot a 10 = .int .i64 ((T : Int) + 1) ∧ slot a 11 = .int .i64 i
set_option maxHeartbeats 16000000 in
theorem wiresAll_any (w : World) (n wait : Int) (hs : Signs w) (hn : 0 ≤ n ∧ n < 256) (hw : 0 ≤ wait ∧ wait < 256) :
    Calls Tryd.prog 11 #[.int .u8 n, .int .u8 wait] w fun e w' => e = .returned (.bool true) ∧ Below w.heap.size w w' := by
  have P0 : Hid (∀ W, Calls Tryd.prog 33 #[.int .u8 n] W fun e w' => e = .returned (.int .i64 (nodesN n)) ∧ W = w') := fun W => lawNodes8 W n hn.1 hn.2
  have hm := @nodesN_in n
  generalize nodesN n = m at *
  have sg : Hid (∀ W, Below w.heap.size w W → Signs W) := fun W h => hs.to h
  replace hs := Lib.hid hs
  clear hn
  have t1 : Int.tmod wait 5 = ((wait % 5).toNat : Int) := by rw [Int.tmod_eq_emod_of_nonneg hw.1]; omega
  have hwt : (wait % 5).toNat < 5 := by omega
  generalize (wait % 5).toNat = wt at *
  have t2 : IntKind.i64.wrap (wt : Int) = wt := wrap_near _ (by omega) (by omega)
  have t3 : IntKind.u8.wrap (wt : Int) = wt := by rw [IntKind.wrap_u8]; omega
  have t4 : IntKind.i64.wrap (4 * (m : Int)) = 4 * (m : Int) := wrap_near _ (by omega) (by omega)
  clear hw
  go_enter Tryd.func11, Tryd.ntmps11
  go_wp2_with fail
  refine (P0.out _).mono ?_
  rintro e _ ⟨rfl, rfl⟩
  go_wp2_with fail
  refine (aNew _ _ hm hs.out).mono ?_
  rintro e w1 ⟨pw, rfl, hA1, hb1⟩
  replace hA1 := Lib.hid hA1
  replace hb1 := Lib.hid hb1
  go_wp2_with fail
  refine wp_loop_k (InvA1 w m pw wt wait) wt ?_ ?_
  · exact ⟨0, by omega, hb1, hA1, by kernel_rfl, rfl, by kernel_rfl, by kernel_rfl, by kernel_rfl, by kernel_rfl⟩
  clear hA1 hb1
  intro gk a wr hI K hK
  obtain ⟨i, hi, hb2, hA2, hs', hd', k1', k5', k6', k8'⟩ := hI
  rw [fr109 a hs' hd']; simp only [k1', k5', k6', k8']; clear hs' hd' k1' k5' k6' k8'
  by_cases hil : i < wt
  · have g1 : decide ((i : Int) < (wt : Int)) = true := by simp; omega
    have g2 : (i : Int) < (wt : Int) := by omega
    have g3 : IntKind.i64.wrap ((i : Int) + 1) = (i : Int) + 1 := wrap_near _ (by omega) (by omega)
    go_wp2_with fail
    refine (aEnd hA2.out ⟨by omega, by omega⟩).mono ?_
    rintro e w3 ⟨rfl, hA3, hb3, -⟩
    replace hA3 := Lib.hid hA3
    replace hb3 := Lib.hid (hb2.out.trans hb3)
    go_wp2_with fail
    exact hK (wt - (i + 1)) _ _ (by omega) ⟨i + 1, by omega, hb3, hA3, by kernel_rfl, rfl, by kernel_rfl, by kernel_rfl, by kernel_rfl, by kernel_rfl⟩
  obtain rfl : i = wt := by omega
  have g1 : decide ((i : Int) < (i : Int)) = false := by simp
  go_wp2_with fail
  clear g1
  refine wp_loop_k (InvA2 w m pw i) (4 * m) ?_ ?_
  · exact ⟨0, by omega, hb2, by rw [allG_zero]; exact hA2, by kernel_rfl, rfl, by kernel_rfl, by kernel_rfl, by kernel_rfl⟩
  clear hA2 hb2
  intro gk2 a wr2 hI K hK
  obtain ⟨j, hj, hb2, hA2, hs', hd', k5', k6', k9'⟩ := hI
  rw [fr109 a hs' hd']; simp only [k5', k6', k9']; clear hs' hd' k5' k6' k9'
  by_cases hjl : j < 4 * m
  · have g1 : decide ((j : Int) < 4 * (m : Int)) = true := by simp; omega
    have g2 : (j : Int) < 4 * (m : Int) := by omega
    have g3 : IntKind.i64.wrap ((j : Int) + 1) = (j : Int) + 1 := wrap_near _ (by omega) (by omega)
    have g4 : IntKind.i64.wrap (100 + (j : Int)) = 100 + (j : Int) := wrap_near _ (by omega) (by omega)
    have e1 : mayE m j = 0 := by unfold mayE; rw [if_pos (by omega)]
    go_wp2_with fail
    refine (aGive hA2.out (by omega) (j : Int) (100 + (j : Int)) (int_wf (by omega)) (int_wf (by omega))).mono ?_
    rw [e1, allG_next hjl]
    rintro e w3 ⟨rfl, hA3, hb3, -⟩
    replace hA3 := Lib.hid hA3
    replace hb3 := Lib.hid (hb2.out.trans hb3)
    go_wp2_with fail
    exact hK (4 * m - (j + 1)) _ _ (by omega) ⟨j + 1, by omega, hb3, hA3, by kernel_rfl, rfl, by kernel_rfl, by kernel_rfl, by kernel_rfl⟩
  have g1 : decide ((j : Int) < 4 * (m : Int)) = false := by simp; omega
  have g2 : ¬ (j : Int) < 4 * (m : Int) := by omega
  go_wp2_with fail
  clear g1 g2
  obtain rfl : j = 4 * m := by omega
  generalize hG : allG (4 * m) = G at *
  refine wp_loop_k (InvA3 w m pw i G) 4 ?_ ?_
  · exact ⟨0, by omega, hb2, hA2.out.mono (by omega), by kernel_rfl, rfl, by kernel_rfl, by kernel_rfl, by kernel_rfl⟩
  clear hA2 hb2
  intro gk3 a wr3 hI K hK
  obtain ⟨T, hT, hb2, hA2, hs', hd', k5', k6', k10'⟩ := hI
  rw [fr109 a hs' hd']; simp only [k5', k6', k10']; clear hs' hd' k5' k6' k10'
  by_cases hTl : T < 4
  · have g1 : decide ((T : Int) + 1 ≤ 4) = true := by simp; omega
    have g2 : (T : Int) + 1 ≤ 4 := by omega
    have g5 : IntKind.i64.wrap ((T : Int) + 1 + 1) = (T : Int) + 1 + 1 := wrap_near _ (by omega) (by omega)
    go_wp2_with fail
    refine (aEnd hA2.out ⟨by omega, by omega⟩).mono ?_
    rintro e w3 ⟨rfl, hA3, hb3, -⟩
    replace hb3 := Lib.hid (hb2.out.trans hb3)
    have hA4 : Hid (WA w.heap.size w3 pw m 64 (pF G 1 (T + 1)) (pF G 2 (T + 1)) noneG ((i + (T + 1) : Nat) : Int)) := by
      have e1 : pF G 1 (T + 1) = pF G 0 T := by simp [pF]
      have e2 : pF G 2 (T + 1) = pF G 1 T := by simp [pF]
      have e3 : ((i + (T + 1) : Nat) : Int) = ((i + T : Nat) : Int) + 1 := by omega
      rw [e1, e2, e3]
      exact hA3.mono (by omega)
    clear hA3 hA2 hb2
    go_wp2_with fail
    refine wp_loop_k (InvA4 w m pw i T G) (4 * m) ?_ ?_
    · exact ⟨0, by omega, hb3, hA4, by kernel_rfl, rfl, by kernel_rfl, by kernel_rfl, by kernel_rfl, by kernel_rfl⟩
    clear hA4 hb3
    intro gk4 a wr4 hI K4 hK4
    obtain ⟨j, hj, hb2, hA2, hs', hd', k5', k6', k10', k11'⟩ := hI
    rw [fr109 a hs' hd']; simp only [k5', k6', k10', k11']; clear hs' hd' k5' k6' k10' k11'
    by_cases hjl : j < 4 * m
    · have f1 : decide ((j : Int) < 4 * (m : Int)) = true := by simp; omega
      have f2 : (j : Int) < 4 * (m : Int) := by omega
      have f3 : IntKind.i64.wrap ((j : Int) + 1) = (j : Int) + 1 := wrap_near _ (by omega) (by omega)
      have f4 : IntKind.i64.wrap (100 + (j : Int)) = 100 + (j : Int) := wrap_near _ (by omega) (by omega)
      obtain ⟨k1, k2, k3, k4⟩ := ends_facts (m := m) (k := j) (by omega) (by omega)
      have ho := here_pF (m := m) (G := G) (tick := T + 1) (k := j) (by omega)
      have hGj : G j = some (100 + (j : Int)) := by
        rw [← hG]
        unfold allG
        rw [if_pos (by omega)]
      rw [hGj] at ho
      rw [← k1] at ho
      have hgn : givenO m noneG j = none := by
        unfold givenO noneG
        split <;> rfl
      replace ho := Lib.hid ho
      replace k1 := Lib.hid k1
      replace k3 := Lib.hid k3
      go_wp2_with fail
      refine (ringsEnds _ _ _ (sg.out _ hb2.out)).mono ?_
      rw [show endsV m j = .tuple #[.int .i64 (endF m j), .int .i64 (endT m j), .int .u8 (endD m j), .int .i64 (endH m j)] from rfl]
      rintro e _ ⟨rfl, q4, rfl⟩
      generalize endF m j = ef at *
      generalize endT m j = et at *
      generalize endD m j = ed at *
      generalize endH m j = eh at *
      replace hb2 := Lib.hid (bdrewN hb2.out q4)
      replace hA2 := Lib.hid (hA2.out.drewN q4)
      generalize wr4.drewN q4 = w4 at *
      go_wp2_with fail
      rw [k1.out] at ho
      have hor : (((T : Int) + 1 = eh) ∧ hereO m (pF G 1 (T + 1)) (pF G 2 (T + 1)) (linkOf m ed et eh) = some (100 + (j : Int))) ∨ ((T : Int) + 1 ≠ eh ∧ hereO m (pF G 1 (T + 1)) (pF G 2 (T + 1)) (linkOf m ed et eh) = none) := by
        rw [k1.out, ho.out]
        replace k3 := k3.out
        by_cases hh : (T : Int) + 1 = eh
        · left; exact ⟨hh, by rw [if_pos (by omega)]⟩
        · right; exact ⟨hh, by rw [if_neg (by omega)]⟩
      replace k2 := Lib.hid k2
      clear ho k1 k3
      have r1 : (ef == ef) = true := by simp
      rcases hor with ⟨hh, ho⟩ | ⟨hh, ho⟩
      · have l1 : decide ((T : Int) + 1 = eh) = true := by simp [hh]
        have l2 : ((T : Int) + 1 == eh) = true := by simp [hh]
        clear hh
        refine (aHere hA2.out (sg.out _ hb2.out) ed et eh k4 _ ho).mono ?_
        rintro e _ ⟨rfl, q5, rfl⟩
        clear ho
        replace hb2 := Lib.hid (bdrewN hb2.out q5)
        replace hA2 := Lib.hid (hA2.out.drewN q5)
        generalize w4.drewN q5 = w5 at *
        go_wp2_with fail
        refine (ringsSource _ _ _ _ _ (sg.out _ hb2.out) k4).mono ?_
        rw [k2.out]
        rintro e _ ⟨rfl, q6, rfl⟩
        replace hb2 := Lib.hid (bdrewN hb2.out q6)
        replace hA2 := Lib.hid (hA2.out.drewN q6)
        generalize w5.drewN q6 = w6 at *
        go_wp2_with fail
        refine (aGiven hA2.out j (int_wf (by omega))).mono ?_
        rw [hgn]
        rintro e _ ⟨rfl, rfl⟩
        go_wp2_with fail
        exact hK4 (4 * m - (j + 1)) _ _ (by omega) ⟨j + 1, by omega, hb2, hA2, by kernel_rfl, rfl, by kernel_rfl, by kernel_rfl, by kernel_rfl, by kernel_rfl⟩
      · have l1 : decide ((T : Int) + 1 = eh) = false := by simp [hh]
        have l2 : ((T : Int) + 1 == eh) = false := by simp [hh]
        clear hh
        refine (aHere hA2.out (sg.out _ hb2.out) ed et eh k4 _ ho).mono ?_
        rintro e _ ⟨rfl, q5, rfl⟩
        clear ho
        replace hb2 := Lib.hid (bdrewN hb2.out q5)
        replace hA2 := Lib.hid (hA2.out.drewN q5)
        generalize w4.drewN q5 = w5 at *
        go_wp2_with fail
        refine (ringsSource _ _ _ _ _ (sg.out _ hb2.out) k4).mono ?_
        rw [k2.out]
        rintro e _ ⟨rfl, q6, rfl⟩
        replace hb2 := Lib.hid (bdrewN hb2.out q6)
        replace hA2 := Lib.hid (hA2.out.drewN q6)
        generalize w5.drewN q6 = w6 at *
        go_wp2_with fail
        refine (aGiven hA2.out j (int_wf (by omega))).mono ?_
        rw [hgn]
        rintro e _ ⟨rfl, rfl⟩
        go_wp2_with fail
        exact hK4 (4 * m - (j + 1)) _ _ (by omega) ⟨j + 1, by omega, hb2, hA2, by kernel_rfl, rfl, by kernel_rfl, by kernel_rfl, by kernel_rfl, by kernel_rfl⟩
    have f1 : decide ((j : Int) < 4 * (m : Int)) = false := by simp; omega
    have f2 : ¬ (j : Int) < 4 * (m : Int) := by omega
    go_wp2_with fail
    refine hK (4 - (T + 1)) _ _ (by omega) ⟨T + 1, by omega, hb2, ?_, by kernel_rfl, rfl, by kernel_rfl, by kernel_rfl, by kernel_rfl⟩
    have e0 : pF G 0 (T + 1) = noneG := by simp [pF]
    rw [e0]
    exact hA2
  have g1 : decide ((T : Int) + 1 ≤ 4) = false := by simp; omega
  have g2 : ¬ (T : Int) + 1 ≤ 4 := by omega
  go_wp2_with fail
  refine (lives08 _ (sg.out _ hb2.out)).mono ?_
  rintro e w9 ⟨rfl, hb9⟩
  go_wp2_with fail
  go_ret
  exact ⟨rfl, bthen hb2.out hb9⟩
end Go.Proofs.YteogoddnefeleaaDoor
