/- WiresRun: the walk. -/
import Derived.Test.YteogoddnefeleaaDoorWiresRunA
import Derived.Deep.CutBlock
namespace Go.Proofs.YteogoddnefeleaaDoor
open Go.RowKit Go.Maps
set_option linter.unusedSimpArgs false
set_option linter.unusedVariables false
set_option maxRecDepth 100000
def InvR8 (w : World) (m pw mw n c : Nat) (ao : Option Addr) (k : Nat) (a : Act) (wr : World) : Prop :=
  ∃ (i cc L : Nat) (F : Nat → Int → Option Int), i + k = n ∧ cc ≤ i ∧ L ≤ i + 1 ∧ 0 < L ∧ Hid (Below w.heap.size w wr) ∧ Hid (PA w.heap.size wr pw mw m cc L F) ∧
    a.tmps.size = 159 ∧ a.defers = [] ∧ slot a 1 = .slice ao n c ∧ slot a 5 = .pointer (some ⟨pw, 0, none⟩) ∧ slot a 7 = .pointer (some ⟨mw, 0, none⟩) ∧ slot a 9 = .int .i64 i
set_option maxHeartbeats 16000000 in
theorem wiresRun_any (w : World) (nodes : Int) (ao : Option Addr) (n c : Nat) (hs : Signs w) (hA : ActsAt w ao n) (hlen : n ≤ maxLen) :
    Calls Tryd.prog 13 #[.int .i64 nodes, .slice ao n c] w fun e w' => e = .returned (.bool true) ∧ Below w.heap.size w w' := by
  have sg : Hid (∀ W, Below w.heap.size w W → Signs W) := fun W h => hs.to h
  clear hs
  by_cases h1 : 300 < n
  · have t1 : decide ((300 : Int) < (n : Int)) = true := by simp; omega
    clear hA
    go_enter Tryd.func13, Tryd.ntmps13
    go_wp2_with fail
    refine (lives08 _ (sg.out _ (Below.refl _ _))).mono ?_
    rintro e w9 ⟨rfl, hb9⟩
    go_wp2_with fail
    go_ret
    exact ⟨rfl, hb9⟩
  have t1 : decide ((300 : Int) < (n : Int)) = false := by simp; omega
  by_cases h2 : nodes < 4 ∨ 16 < nodes
  · clear hA
    go_enter Tryd.func13, Tryd.ntmps13
    go_wp2_with fail
    refine (aNew_no _ _ h2).mono ?_
    rintro e _ ⟨rfl, rfl⟩
    go_wp2_with fail
    refine (rNew_no _ _ h2).mono ?_
    rintro e _ ⟨rfl, rfl⟩
    go_wp2_with fail
    refine (lives08 _ (sg.out _ (Below.refl _ _))).mono ?_
    rintro e w9 ⟨rfl, hb9⟩
    go_wp2_with fail
    go_ret
    exact ⟨rfl, hb9⟩
  obtain ⟨m, rfl⟩ : ∃ m : Nat, nodes = m := ⟨nodes.toNat, by omega⟩
  have hm : 4 ≤ m ∧ m ≤ 16 := by omega
  replace hA := Lib.hid hA
  clear h2
  go_enter Tryd.func13, Tryd.ntmps13
  go_wp2_with fail
  refine (aNew _ _ hm (sg.out _ (Below.refl _ _))).mono ?_
  rintro e w2 ⟨pw, rfl, hW, hB⟩
  replace hW := Lib.hid hW
  replace hB := Lib.hid hB
  go_wp2_with fail
  refine (rNew _ _ hm).mono ?_
  rintro e w3 ⟨mw, v0, rb0, rfl, hR, hB3⟩
  have hP : PA w.heap.size w3 pw mw m 0 1 (fun _ => noneG) := by
    refine ⟨hW.out.keep (Ts := []) (Keep.below hB3) (by simp) (by simp) (by simp), v0, rb0, hR.low hB.out.size⟩
  replace hP := Lib.hid hP
  replace hB := Lib.hid (bthen hB.out hB3)
  clear hW hR hB3
  go_wp2_with fail
  refine wp_loop_k (InvR8 w m pw mw n c ao) n ?_ ?_
  · refine ⟨0, 0, 1, _, by omega, by omega, by omega, by omega, hB, hP, by kernel_rfl, rfl, by kernel_rfl, by kernel_rfl, by kernel_rfl, by kernel_rfl⟩
  clear hB hP
  intro gk a wr hI K hK
  obtain ⟨i, cc, L, F, hi, hcc, hL, hL0, hB, hP, hs', hd', k1', k5', k7', k9'⟩ := hI
  rw [fr159 a hs' hd']; simp only [k1', k5', k7', k9']; clear hs' hd' k1' k5' k7' k9'
  by_cases hl : i < n
  · have g1 : decide ((i : Int) < (n : Int)) = true := by simp; omega
    have g2 : (i : Int) < (n : Int) := by omega
    have g3 : IntKind.i64.wrap ((i : Int) + 1) = ((i + 1 : Nat) : Int) := by rw [wrap_near _ (by omega) (by omega)]; omega
    obtain ⟨ad, rfl, kd, lk, x, dr, nd, hp, hat, hok⟩ : ∃ ad, ao = some ad ∧ ∃ kd lk x dr nd hp, ActAt w (ad.add (i * 6)) kd lk x dr nd hp ∧ ActOk kd lk x dr nd hp := by
      rcases hA.out with h | ⟨ad, rfl, h⟩
      · omega
      · exact ⟨ad, rfl, h i hl⟩
    obtain ⟨q0, q1, q2, q3, q4, q5⟩ := hat
    have f0 := below_cell q0 hB.out (World.block_lt_of_cell? w _ q0)
    have f1 := below_cell q1 hB.out (World.block_lt_of_cell? w _ q1)
    have f2 := below_cell q2 hB.out (World.block_lt_of_cell? w _ q2)
    have f3 := below_cell q3 hB.out (World.block_lt_of_cell? w _ q3)
    have f4 := below_cell q4 hB.out (World.block_lt_of_cell? w _ q4)
    have f5 := below_cell q5 hB.out (World.block_lt_of_cell? w _ q5)
    clear q0 q1 q2 q3 q4 q5
    replace hok := Lib.hid hok
    have hkd := wf_u8 hok.out.1
    obtain ⟨kq, ht⟩ : ∃ kq : Nat, Int.tmod kd 6 = kq := ⟨(kd % 6).toNat, by rw [Int.tmod_eq_emod_of_nonneg hkd.1]; omega⟩
    have hq : kq < 6 := by rw [Int.tmod_eq_emod_of_nonneg hkd.1] at ht; omega
    have hqw : IntKind.u8.wrap (kq : Int) = kq := by rw [IntKind.wrap_u8]; omega
    clear hkd
    go_upto_block 2 with fail
    clear ht hqw
    have hS : RunS w pw mw m cc (back F L 1) (back F L 2) (F (L - 1)) ((L : Int) - 1) L F wr.heap.size #[.int .u8 kd, .int .i64 lk, .int .i64 x, .int .u8 dr, .int .i64 nd, .int .i64 hp] (wr.alloc (.cells #[.int .u8 kd, .int .i64 lk, .int .i64 x, .int .u8 dr, .int .i64 nd, .int .i64 hp] 66)) :=
      ⟨bthen hB.out (below_alloc _ _), hP.out.below (below_alloc _ _), Blk.new wr _ _⟩
    clear f0 f1 f2 f3 f4 f5 hB hP
    generalize wr.alloc (.cells #[.int .u8 kd, .int .i64 lk, .int .i64 x, .int .u8 dr, .int .i64 nd, .int .i64 hp] 66) = wa at *
    generalize wr.heap.size = xb at *
    refine wp_cut (fun a wx => (∃ cc' L' F', cc' ≤ i + 1 ∧ L' ≤ i + 2 ∧ 0 < L' ∧ RunT w pw mw m cc' L' F' xb #[.int .u8 kd, .int .i64 lk, .int .i64 x, .int .u8 dr, .int .i64 nd, .int .i64 hp] wx) ∧ a.tmps.size = 159 ∧ a.defers = [] ∧ slot a 1 = .slice (some ad) n c ∧ slot a 5 = .pointer (some ⟨pw, 0, none⟩) ∧ slot a 7 = .pointer (some ⟨mw, 0, none⟩) ∧ slot a 9 = .int .i64 i ∧ slot a 10 = .pointer (some ⟨xb, 0, none⟩)) ?_ ?_
    · intro K' hK'
      have c1 := hS.2.2.cell (i := 1) rfl
      have c2 := hS.2.2.cell (i := 2) rfl
      simp only [List.getElem_toArray, List.getElem_cons_zero, List.getElem_cons_succ] at c1 c2
      replace hS := Lib.hid hS
      rcases (by omega : kq = 0 ∨ kq = 1 ∨ kq = 2 ∨ kq = 3 ∨ kq = 4 ∨ kq = 5) with rfl | rfl | rfl | rfl | rfl | rfl
      all_goals clear hq
      · have hS0 := Lib.hid hS.out.drew
        have P1 := Lib.hid (sGive (w := w) (p1 := back F L 1) (p2 := back F L 2) (g := F (L - 1)) (t := (L : Int) - 1) (L := L) (F := F) (n := m) (pw := pw) (mw := mw) (xb := xb) (cs := #[.int .u8 kd, .int .i64 lk, .int .i64 x, .int .u8 dr, .int .i64 nd, .int .i64 hp]) (c := cc) (by omega) lk x hok.out.2.1 hok.out.2.2.1)
        have P2 := Lib.hid (sSet1 (w := w) (p1 := back F L 1) (p2 := back F L 2) (g := setO m (F (L - 1)) lk (some x)) (t := (L : Int) - 1) (L := L) (F := F) (n := m) (pw := pw) (mw := mw) (xb := xb) (cs := #[.int .u8 kd, .int .i64 lk, .int .i64 x, .int .u8 dr, .int .i64 nd, .int .i64 hp]) (c := cc + 1) (by omega) lk x)
        have hcl : ∀ W, Blk W xb #[.int .u8 kd, .int .i64 lk, .int .i64 x, .int .u8 dr, .int .i64 nd, .int .i64 hp] 66 → W.cell? ⟨xb, 1, none⟩ = some (.int .i64 lk) ∧ W.cell? ⟨xb, 2, none⟩ = some (.int .i64 x) := fun W h => ⟨h.cell (i := 1) rfl, h.cell (i := 2) rfl⟩
        have hE : mayE m lk = 0 ∨ mayE m lk = 1 := by unfold mayE; split <;> simp
        generalize mayE m lk = E at *
        have c3 : wa.drew.cell? ⟨xb, 1, none⟩ = some (.int .i64 lk) ∧ wa.drew.cell? ⟨xb, 2, none⟩ = some (.int .i64 x) := hcl _ hS0.out.2.2
        replace hcl := Lib.hid hcl
        clear c1 c2
        go_upto_region 19 with fail
        go_region_held3 (fun W => W.cell? ⟨xb, 1, none⟩ = some (.int .i64 lk) ∧ W.cell? ⟨xb, 2, none⟩ = some (.int .i64 x)) (first | exact c3 | exact hcl.out _ hQ1.out.2.2 | exact hcl.out _ hQ2.out.2.2)
          (first
            | (go_at_call 35; (with_reducible refine (P1.out _ hS0.out).mono ?_); rintro e w4 ⟨rfl, hQ⟩; have hQ1 := Lib.hid hQ; clear hQ)
            | (go_at_call 42; (with_reducible refine (P2.out _ hQ1.out).mono ?_); rintro e w5 ⟨rfl, hQ⟩; have hQ2 := Lib.hid hQ; clear hQ)
            | fail)
        go_wp2_with fail
        refine hK' _ _ trivial ?_
        exact ⟨⟨cc + 1, L, setF m F L lk (some x), by omega, by omega, hL0, RunT.set hL0 hQ2.out⟩, by kernel_rfl, rfl, by kernel_rfl, by kernel_rfl, by kernel_rfl, by kernel_rfl, by kernel_rfl⟩
      · have hS0 := Lib.hid hS.out.drew
        have P1 := Lib.hid (sGive (w := w) (p1 := back F L 1) (p2 := back F L 2) (g := F (L - 1)) (t := (L : Int) - 1) (L := L) (F := F) (n := m) (pw := pw) (mw := mw) (xb := xb) (cs := #[.int .u8 kd, .int .i64 lk, .int .i64 x, .int .u8 dr, .int .i64 nd, .int .i64 hp]) (c := cc) (by omega) lk x hok.out.2.1 hok.out.2.2.1)
        have P2 := Lib.hid (sSet1 (w := w) (p1 := back F L 1) (p2 := back F L 2) (g := setO m (F (L - 1)) lk (some x)) (t := (L : Int) - 1) (L := L) (F := F) (n := m) (pw := pw) (mw := mw) (xb := xb) (cs := #[.int .u8 kd, .int .i64 lk, .int .i64 x, .int .u8 dr, .int .i64 nd, .int .i64 hp]) (c := cc + 1) (by omega) lk x)
        have hcl : ∀ W, Blk W xb #[.int .u8 kd, .int .i64 lk, .int .i64 x, .int .u8 dr, .int .i64 nd, .int .i64 hp] 66 → W.cell? ⟨xb, 1, none⟩ = some (.int .i64 lk) ∧ W.cell? ⟨xb, 2, none⟩ = some (.int .i64 x) := fun W h => ⟨h.cell (i := 1) rfl, h.cell (i := 2) rfl⟩
        have hE : mayE m lk = 0 ∨ mayE m lk = 1 := by unfold mayE; split <;> simp
        generalize mayE m lk = E at *
        have c3 : wa.drew.cell? ⟨xb, 1, none⟩ = some (.int .i64 lk) ∧ wa.drew.cell? ⟨xb, 2, none⟩ = some (.int .i64 x) := hcl _ hS0.out.2.2
        replace hcl := Lib.hid hcl
        clear c1 c2
        go_upto_region 19 with fail
        go_region_held3 (fun W => W.cell? ⟨xb, 1, none⟩ = some (.int .i64 lk) ∧ W.cell? ⟨xb, 2, none⟩ = some (.int .i64 x)) (first | exact c3 | exact hcl.out _ hQ1.out.2.2 | exact hcl.out _ hQ2.out.2.2)
          (first
            | (go_at_call 35; (with_reducible refine (P1.out _ hS0.out).mono ?_); rintro e w4 ⟨rfl, hQ⟩; have hQ1 := Lib.hid hQ; clear hQ)
            | (go_at_call 42; (with_reducible refine (P2.out _ hQ1.out).mono ?_); rintro e w5 ⟨rfl, hQ⟩; have hQ2 := Lib.hid hQ; clear hQ)
            | fail)
        go_wp2_with fail
        refine hK' _ _ trivial ?_
        exact ⟨⟨cc + 1, L, setF m F L lk (some x), by omega, by omega, hL0, RunT.set hL0 hQ2.out⟩, by kernel_rfl, rfl, by kernel_rfl, by kernel_rfl, by kernel_rfl, by kernel_rfl, by kernel_rfl⟩
      · have hS0 := Lib.hid hS.out.drew
        have P1 := Lib.hid (sTake (w := w) (p1 := back F L 1) (p2 := back F L 2) (g := F (L - 1)) (t := (L : Int) - 1) (L := L) (F := F) (n := m) (pw := pw) (mw := mw) (xb := xb) (cs := #[.int .u8 kd, .int .i64 lk, .int .i64 x, .int .u8 dr, .int .i64 nd, .int .i64 hp]) (c := cc) lk hok.out.2.1)
        have P2 := Lib.hid (sSet0 (w := w) (p1 := back F L 1) (p2 := back F L 2) (g := setO m (F (L - 1)) lk none) (t := (L : Int) - 1) (L := L) (F := F) (n := m) (pw := pw) (mw := mw) (xb := xb) (cs := #[.int .u8 kd, .int .i64 lk, .int .i64 x, .int .u8 dr, .int .i64 nd, .int .i64 hp]) (c := cc + 1) (by omega) lk)
        have hcl : ∀ W, Blk W xb #[.int .u8 kd, .int .i64 lk, .int .i64 x, .int .u8 dr, .int .i64 nd, .int .i64 hp] 66 → W.cell? ⟨xb, 1, none⟩ = some (.int .i64 lk) ∧ W.cell? ⟨xb, 2, none⟩ = some (.int .i64 x) := fun W h => ⟨h.cell (i := 1) rfl, h.cell (i := 2) rfl⟩
        have hE : mayE m lk = 0 ∨ mayE m lk = 1 := by unfold mayE; split <;> simp
        generalize mayE m lk = E at *
        have c3 : wa.drew.cell? ⟨xb, 1, none⟩ = some (.int .i64 lk) ∧ wa.drew.cell? ⟨xb, 2, none⟩ = some (.int .i64 x) := hcl _ hS0.out.2.2
        replace hcl := Lib.hid hcl
        clear c1 c2
        go_upto_region 22 with fail
        go_region_held3 (fun W => W.cell? ⟨xb, 1, none⟩ = some (.int .i64 lk) ∧ W.cell? ⟨xb, 2, none⟩ = some (.int .i64 x)) (first | exact c3 | exact hcl.out _ hQ1.out.2.2 | exact hcl.out _ hQ2.out.2.2)
          (first
            | (go_at_call 40; (with_reducible refine (P1.out _ hS0.out).mono ?_); rintro e w4 ⟨rfl, hQ⟩; have hQ1 := Lib.hid hQ; clear hQ)
            | (go_at_call 42; (with_reducible refine (P2.out _ hQ1.out).mono ?_); rintro e w5 ⟨rfl, hQ⟩; have hQ2 := Lib.hid hQ; clear hQ)
            | fail)
        go_wp2_with fail
        refine hK' _ _ trivial ?_
        exact ⟨⟨cc + 1, L, setF m F L lk none, by omega, by omega, hL0, RunT.set hL0 hQ2.out⟩, by kernel_rfl, rfl, by kernel_rfl, by kernel_rfl, by kernel_rfl, by kernel_rfl, by kernel_rfl⟩
      · go_wp2_with fail
        refine (sEnd ⟨by omega, by omega⟩ _ hS.out).mono ?_
        rintro e w4 ⟨rfl, hQ⟩
        have hQ1 := Lib.hid hQ
        clear hQ hS
        go_wp2_with fail
        refine (sREnd (by omega) _ hQ1.out).mono ?_
        rintro e w5 ⟨rfl, hQ⟩
        have hQ2 := Lib.hid hQ
        clear hQ hQ1
        go_wp2_with fail
        refine hK' _ _ trivial ?_
        exact ⟨⟨cc + 1, L + 1, nextF F L, by omega, by omega, by omega, RunT.next hL0 hQ2.out⟩, by kernel_rfl, rfl, by kernel_rfl, by kernel_rfl, by kernel_rfl, by kernel_rfl, by kernel_rfl⟩
      · go_wp2_with fail
        refine (sEnd ⟨by omega, by omega⟩ _ hS.out).mono ?_
        rintro e w4 ⟨rfl, hQ⟩
        have hQ1 := Lib.hid hQ
        clear hQ hS
        go_wp2_with fail
        refine (sREnd (by omega) _ hQ1.out).mono ?_
        rintro e w5 ⟨rfl, hQ⟩
        have hQ2 := Lib.hid hQ
        clear hQ hQ1
        go_wp2_with fail
        refine hK' _ _ trivial ?_
        exact ⟨⟨cc + 1, L + 1, nextF F L, by omega, by omega, by omega, RunT.next hL0 hQ2.out⟩, by kernel_rfl, rfl, by kernel_rfl, by kernel_rfl, by kernel_rfl, by kernel_rfl, by kernel_rfl⟩
      · go_wp2_with fail
        refine (sEnd ⟨by omega, by omega⟩ _ hS.out).mono ?_
        rintro e w4 ⟨rfl, hQ⟩
        have hQ1 := Lib.hid hQ
        clear hQ hS
        go_wp2_with fail
        refine (sREnd (by omega) _ hQ1.out).mono ?_
        rintro e w5 ⟨rfl, hQ⟩
        have hQ2 := Lib.hid hQ
        clear hQ hQ1
        go_wp2_with fail
        refine hK' _ _ trivial ?_
        exact ⟨⟨cc + 1, L + 1, nextF F L, by omega, by omega, by omega, RunT.next hL0 hQ2.out⟩, by kernel_rfl, rfl, by kernel_rfl, by kernel_rfl, by kernel_rfl, by kernel_rfl, by kernel_rfl⟩
    rintro a wx ⟨⟨cc', L', F', hcc', hL', hL0', hS⟩, hs', hd', k1', k5', k7', k9', k10'⟩; rw [fr159 a hs' hd']; simp only [k1', k5', k7', k9', k10']; clear hs' hd' k1' k5' k7' k9' k10'
    have hd := wf_u8 hok.out.2.2.2.1
    obtain ⟨o, ho⟩ : ∃ o, hereO m (back F' L' 1) (back F' L' 2) (linkOf m dr nd hp) = o := ⟨_, rfl⟩
    obtain ⟨u, hu⟩ : ∃ u, givenO m (F' (L' - 1)) lk = u := ⟨_, rfl⟩
    have d1 := hS.2.2.cell (i := 1) rfl
    have d3 := hS.2.2.cell (i := 3) rfl
    have d4 := hS.2.2.cell (i := 4) rfl
    have d5 := hS.2.2.cell (i := 5) rfl
    simp only [List.getElem_toArray, List.getElem_cons_zero, List.getElem_cons_succ] at d1 d3 d4 d5
    rename_i hSx
    clear hSx
    replace hS := Lib.hid hS
    replace ho := Lib.hid ho
    replace hu := Lib.hid hu
    clear hq
    go_wp2_with fail
    refine (cHere hS.out.2.1 (sg.out _ hS.out.1) dr nd hp hd.1 o ho.out).mono ?_
    rintro e w6 ⟨rfl, -, hb⟩
    replace hS := Lib.hid (hS.out.after hb)
    replace d1 := below_cell d1 hb (World.block_lt_of_cell? _ _ d1)
    replace d3 := below_cell d3 hb (World.block_lt_of_cell? _ _ d3)
    replace d4 := below_cell d4 hb (World.block_lt_of_cell? _ _ d4)
    replace d5 := below_cell d5 hb (World.block_lt_of_cell? _ _ d5)
    clear hb
    go_wp2_with fail
    refine (cRHere hS.out.2.1 (by omega) dr nd hp hd.1 o ho.out).mono ?_
    rintro e w7 ⟨rfl, -, hb⟩
    replace hS := Lib.hid (hS.out.after hb)
    replace d1 := below_cell d1 hb (World.block_lt_of_cell? _ _ d1)
    clear hb d3 d4 d5 ho
    go_wp2_with fail
    refine (cGiven hS.out.2.1 lk hok.out.2.1 u hu.out).mono ?_
    rintro e _ ⟨rfl, rfl⟩
    go_wp2_with fail
    refine (cRGiven hS.out.2.1 (by omega) lk u hu.out).mono ?_
    rintro e w8 ⟨rfl, -, hb⟩
    replace hS := Lib.hid (hS.out.after hb)
    clear hb hu d1
    generalize o.getD 0 = ov at *
    generalize o.isSome = ob at *
    generalize u.getD 0 = uv at *
    generalize u.isSome = ub at *
    have P1 : Hid (Calls Tryd.prog 46 #[.pointer (some ⟨pw, 0, none⟩)] w8.drew fun e w' => e = .returned (.int .i64 ((L' : Int) - 1)) ∧ w8.drew = w') := aTicks (hS.out.2.1.1.drewN 1)
    obtain ⟨v8, rb8, h8⟩ := hS.out.2.1.2
    obtain ⟨g8, cap8, cur8, rfl, -, -, -⟩ := h8.open
    have e1 : w8.cell? ⟨mw, 1, none⟩ = some (.slice (some ⟨g8, 0, none⟩) L' cap8) := h8.blk.cell (i := 1) rfl
    have hcl : Hid (w8.drew.cell? ⟨mw, 1, none⟩ = some (.slice (some ⟨g8, 0, none⟩) L' cap8)) := e1
    have wl : IntKind.i64.wrap ((L' : Int) - 1) = (L' : Int) - 1 := wrap_near _ (by omega) (by omega)
    clear h8
    go_upto_region 28 with fail
    go_region_held3 (fun W => W.cell? ⟨mw, 1, none⟩ = some (.slice (some ⟨g8, 0, none⟩) L' cap8)) (exact hcl.out)
      (first
        | (go_at_call 46; (with_reducible refine P1.out.mono ?_); rintro e w9 ⟨rfl, rfl⟩)
        | fail)
    replace hS := Lib.hid hS.out.drew
    clear P1 hcl e1
    generalize w8.drew = w9 at *
    go_wp2_with fail
    refine hK (n - (i + 1)) _ _ (by omega) ⟨i + 1, cc', L', F', by omega, by omega, by omega, hL0', hS.out.1, hS.out.2.1, by kernel_rfl, rfl, by kernel_rfl, by kernel_rfl, by kernel_rfl, by kernel_rfl⟩
  have g1 : decide ((i : Int) < (n : Int)) = false := by simp; omega
  have g2 : ¬ (i : Int) < (n : Int) := by omega
  go_wp2_with fail
  refine (lives08 _ (sg.out _ hB.out)).mono ?_
  rintro e w9 ⟨rfl, hb9⟩
  go_wp2_with fail
  go_ret
  exact ⟨rfl, bthen hB.out hb9⟩
end Go.Proofs.YteogoddnefeleaaDoor
