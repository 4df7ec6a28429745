/- frame. -/
import Derived.Test.YtmdohnbhogfopaaZAskFK
import Derived.Test.YtmdohnbhogfopaaZFramesAC
namespace Go.Proofs.Ytmdohnbhogfopaa
open Go.RowKit Go.Maps
set_option linter.unusedSimpArgs false
set_option linter.unusedVariables false
set_option maxRecDepth 100000
/-- The symbol of the frame that is said. -/
def frameS (sd fr t : Int) : Int := if 0 ≤ IntKind.i64.wrap (t - fr) ∧ IntKind.i64.wrap (t - fr) < lenS (sd % 8) 2 then frSL (sd % 8) 2 0 (IntKind.u32.wrap (sd / 256)) (IntKind.u32.wrap (sd / 65536)) true false (IntKind.i64.wrap (t - fr)).toNat else 0
theorem AskAt.setSym {B : Nat} {w : World} {pa pm : Nat} {l t : Int} {sp : SpellC} {s : Int} {v : Value} {R : List RowC} (h : AskAt B w pa pm l t sp s v R) (u : Int) : AskAt B (w.setCell ⟨pa, 8, none⟩ (.int .u8 u)) pa pm l t sp u v R :=
  ⟨(h.blk.set 8 (.int .u8 u)).congr rfl, h.own.blk (fun g c U hU hg => hg.setNe (a := ⟨pa, 8, none⟩) (by
    rcases hU with rfl | rfl
    · exact hg.ne h.blk (by decide)
    · exact hg.ne h.blk (by decide)) _), h.le, h.sl, h.ok⟩
set_option maxHeartbeats 4000000 in
theorem frameR {B : Nat} {w : World} {pa pm : Nat} {l t : Int} {sp : SpellC} {s : Int} {v : Value} {R : List RowC}
    (h : AskAt B w pa pm l t sp s v R) (hB : B ≤ w.heap.size) (hsd : (Lit.int .u64 sp.sd).wf = true) :
    Calls Try.prog 113 #[.pointer (some ⟨pa, 0, none⟩)] w fun e w' => PostR B w ⟨frameS sp.sd sp.fr t, R⟩ e w' := by
  have hs2 : 0 ≤ sp.sd ∧ sp.sd < 18446744073709551616 := by
    have e1 : IntKind.u64.min = 0 := by decide
    have e2 : IntKind.u64.max = 18446744073709551615 := by decide
    simp [Lit.wf, e1, e2] at hsd
    omega
  have e3 : Int.tdiv sp.sd 256 = sp.sd / 256 := Int.tdiv_eq_ediv_of_nonneg hs2.1
  have e4 : Int.tdiv sp.sd 65536 = sp.sd / 65536 := Int.tdiv_eq_ediv_of_nonneg hs2.1
  have e5 : IntKind.u64.wrap (sp.sd / 256) = sp.sd / 256 := by rw [IntKind.wrap_u64]; omega
  have e6 : IntKind.u64.wrap (sp.sd / 65536) = sp.sd / 65536 := by rw [IntKind.wrap_u64]; omega
  have e7 : Int.tmod sp.sd 8 = sp.sd % 8 := Int.tmod_eq_emod_of_nonneg hs2.1
  have e8 : IntKind.u64.wrap (sp.sd % 8) = sp.sd % 8 := by rw [IntKind.wrap_u64]; omega
  have e9 : IntKind.i64.wrap (sp.sd % 8) = sp.sd % 8 := wrapI _ (by omega) (by omega)
  have hb1 := below_alloc w (.cells #[.int .u8 0, .slice none 0 0] 40)
  obtain ⟨a0, a1, a2, a3, a6, a7, a8, a9, la⟩ := askCells h
  have hsq : 0 ≤ IntKind.u32.wrap (sp.sd / 256) ∧ IntKind.u32.wrap (sp.sd / 256) < 4294967296 := by rw [IntKind.wrap_u32]; omega
  have hvl : 0 ≤ IntKind.u32.wrap (sp.sd / 65536) ∧ IntKind.u32.wrap (sp.sd / 65536) < 4294967296 := by rw [IntKind.wrap_u32]; omega
  have P1 := Lib.hid (fun W => frSyms W (sp.sd % 8) 2 0 (IntKind.u32.wrap (sp.sd / 256)) (IntKind.u32.wrap (sp.sd / 65536)) true false (by omega) (by omega) hsq hvl)
  unfold frV tailV at P1
  have hfs : Hid (frameS sp.sd sp.fr t = if 0 ≤ IntKind.i64.wrap (t - sp.fr) ∧ IntKind.i64.wrap (t - sp.fr) < lenS (sp.sd % 8) 2 then frSL (sp.sd % 8) 2 0 (IntKind.u32.wrap (sp.sd / 256)) (IntKind.u32.wrap (sp.sd / 65536)) true false (IntKind.i64.wrap (t - sp.fr)).toNat else 0) := rfl
  generalize frSL (sp.sd % 8) 2 0 (IntKind.u32.wrap (sp.sd / 256)) (IntKind.u32.wrap (sp.sd / 65536)) true false = L at *
  generalize lenS (sp.sd % 8) 2 = n at *
  generalize errF (sp.sd % 8) 2 = er at *
  generalize frameS sp.sd sp.fr t = FS at *
  generalize hI : IntKind.i64.wrap (t - sp.fr) = ix at *
  clear hsd hs2 hsq hvl
  go_enter Try.func113, Try.ntmps113
  go_upto_region 1 with fail
  have k1 := Lib.hid (Blk.new w #[.int .u8 0, .slice none 0 0] 40)
  have hl1 := k1.out.lt
  have hA1 := Lib.hid (h.below hb1 (Nat.le_refl _))
  generalize w.alloc (.cells #[.int .u8 0, .slice none 0 0] 40) = w1 at *
  clear a0 a1 a2 a3 a6 a7 a8 a9 la
  have hcl : Hid (∀ W, Below w1.heap.size w1 W → W.cell? ⟨pa, 7, none⟩ = some (.int .u64 sp.sd) ∧ pa < W.heap.size) := fun W hW => by
    have := askCells (hA1.out.below hW (Nat.le_refl _))
    exact ⟨this.2.2.2.2.2.1, this.2.2.2.2.2.2.2.2⟩
  have hq1 : Below w1.heap.size w1 w1.drew := below_drewN w1 1
  have hq2 : Below w1.heap.size w1 (w1.alloc (.cells #[.int .u8 0, .int .u8 0, .int .u32 0, .int .u32 0] 56)).drew := bdrewN (below_alloc _ _) 1
  have hq3 : Below w1.heap.size w1 (w1.alloc (.cells #[.int .u8 2, .int .u8 0, .int .u32 (IntKind.u32.wrap (sp.sd / 256)), .int .u32 (IntKind.u32.wrap (sp.sd / 65536))] 56)).drew := bdrewN (below_alloc _ _) 1
  go_region_held3 (fun W => W.cell? ⟨pa, 7, none⟩ = some (.int .u64 sp.sd) ∧ pa < W.heap.size)
    (first | exact hcl.out _ hq1 | exact hcl.out _ hq2 | exact hcl.out _ hq3)
    (fail)
  have kp : Blk (w1.alloc (.cells #[.int .u8 2, .int .u8 0, .int .u32 (IntKind.u32.wrap (sp.sd / 256)), .int .u32 (IntKind.u32.wrap (sp.sd / 65536))] 56)).drew w1.heap.size #[.int .u8 2, .int .u8 0, .int .u32 (IntKind.u32.wrap (sp.sd / 256)), .int .u32 (IntKind.u32.wrap (sp.sd / 65536))] 56 := Blk.new _ _ _
  have hA2 := Lib.hid (hA1.out.below hq3 (Nat.le_refl _))
  have k2 := Lib.hid (k1.out.below hq3 k1.out.lt)
  have hbw2 := Lib.hid (hb1.trans (hq3.mono hb1.size))
  clear hcl hq1 hq2 hq3 hA1 k1 hb1
  generalize (w1.alloc (.cells #[.int .u8 2, .int .u8 0, .int .u32 (IntKind.u32.wrap (sp.sd / 256)), .int .u32 (IntKind.u32.wrap (sp.sd / 65536))] 56)).drew = w2 at *
  have hcl : Hid (∀ W, Below w2.heap.size w2 W → W.cell? ⟨pa, 7, none⟩ = some (.int .u64 sp.sd) ∧ pa < W.heap.size ∧ W.cell? ⟨w1.heap.size, 0, none⟩ = some (.int .u8 2) ∧ W.cell? ⟨w1.heap.size, 1, none⟩ = some (.int .u8 0) ∧ W.cell? ⟨w1.heap.size, 2, none⟩ = some (.int .u32 (IntKind.u32.wrap (sp.sd / 256))) ∧ W.cell? ⟨w1.heap.size, 3, none⟩ = some (.int .u32 (IntKind.u32.wrap (sp.sd / 65536)))) := fun W hW => by
    have := askCells (hA2.out.below hW (Nat.le_refl _))
    have h2 := kp.below hW kp.lt
    exact ⟨this.2.2.2.2.2.1, this.2.2.2.2.2.2.2.2, h2.cell (i := 0) rfl, h2.cell (i := 1) rfl, h2.cell (i := 2) rfl, h2.cell (i := 3) rfl⟩
  replace kp := Lib.hid kp
  go_upto_region 2 with fail
  have hq1 : Below w2.heap.size w2 w2.drew := below_drewN w2 1
  go_region_held3 (fun W => W.cell? ⟨pa, 7, none⟩ = some (.int .u64 sp.sd) ∧ pa < W.heap.size ∧ W.cell? ⟨w1.heap.size, 0, none⟩ = some (.int .u8 2) ∧ W.cell? ⟨w1.heap.size, 1, none⟩ = some (.int .u8 0) ∧ W.cell? ⟨w1.heap.size, 2, none⟩ = some (.int .u32 (IntKind.u32.wrap (sp.sd / 256))) ∧ W.cell? ⟨w1.heap.size, 3, none⟩ = some (.int .u32 (IntKind.u32.wrap (sp.sd / 65536))))
    (first | exact hcl.out _ hq1 | exact hcl.out _ hb7)
    (first
      | (go_at_call 43
         (with_reducible refine (P1.out _).mono ?_)
         rintro e w7 ⟨al, rfl, hM7, hb7'⟩
         have hb7 := bthen hq1 hb7')
      | fail)
  have hA7 := Lib.hid (hA2.out.below hb7 (Nat.le_refl _))
  have k7 := Lib.hid (k2.out.below hb7 k2.out.lt)
  have hbw7 := Lib.hid (hbw2.out.trans (hb7.mono hbw2.out.size))
  have hp7 := Lib.hid (hA2.out.le)
  clear hcl hq1 hA2 k2 hbw2 kp hb7 hb7' P1
  obtain ⟨a0, a1, a2, a3, a6, a7, a8, a9, la⟩ := askCells hA7.out
  have fa := hA7.out.blk.free 8
  go_upto_region 4 with fail
  have hA8 := Lib.hid (hA7.out.setSym 0)
  have hsl := hA7.out.sl
  have hpb := hA7.out.blk
  have k8 := Lib.hid (k7.out.setNe (a := ⟨pa, 8, none⟩) (k7.out.ne hpb (by decide)) (.int .u8 0))
  have hpw : pa ≠ w.heap.size := fun e => (k7.out.ne hpb (by decide)) e.symm
  have hbw8 : Hid (Below B w (w7.setCell ⟨pa, 8, none⟩ (.int .u8 0)) ∧ KeepU w (w7.setCell ⟨pa, 8, none⟩ (.int .u8 0))) := ⟨(hbw7.out.mono hB).setCell (show B ≤ (⟨pa, 8, none⟩ : Addr).block from hp7.out) _, (KeepU.of_below hbw7.out).trans (KeepU.of_touch ((Touch.refl [pa] w7).setCell (p := ⟨pa, 8, none⟩) (.inl (by simp)) _) hpb (.inl rfl))⟩
  have hM8 : Hid (∀ i : Nat, (i : Int) < n → ∃ g, al = some ⟨g, 0, none⟩ ∧ (w7.setCell ⟨pa, 8, none⟩ (.int .u8 0)).cell? ⟨g, i, none⟩ = some (.int .u8 (L i))) := fun i hi => by
    obtain ⟨g, cur, h1, h2, h3, h4, h5⟩ := hM7 (by omega)
    exact ⟨g, h1, (h3.setNe (a := ⟨pa, 8, none⟩) (h3.ne hpb (by decide)) _).cell (h5 i (by omega))⟩
  clear hA7 k7 hbw7 hM7 hpb a0 a1 a2 a3 a6 a7 a8 a9 la fa
  generalize w7.setCell ⟨pa, 8, none⟩ (.int .u8 0) = w8 at *
  obtain ⟨a0, a1, a2, a3, a6, a7, a8, a9, la⟩ := askCells hA8.out
  have fa := hA8.out.blk.free 8
  obtain ⟨va, vn, vc, rfl⟩ := hsl
  have hq8 : Below w8.heap.size w8 w8.drew := below_drewN w8 1
  obtain ⟨d0, d1, d2, d3, d6, d7, d8, d9, ld⟩ := askCells (hA8.out.below hq8 (Nat.le_refl _))
  go_region_held3 (fun W => W.cell? ⟨pa, 2, none⟩ = some (.int .i64 t) ∧ W.cell? ⟨pa, 3, none⟩ = some (.int .i64 sp.fr) ∧ pa < W.heap.size)
    (exact ⟨d2, d3, ld⟩)
    (fail)
  clear d0 d1 d2 d3 d6 d7 d8 d9 ld hq8
  have hA9 := Lib.hid (hA8.out.below (C := w8.heap.size) (w' := w8.drew) (below_drewN w8 1) (Nat.le_refl _))
  have k9 : Hid (Blk w8.drew w.heap.size #[.int .u8 0, .slice none 0 0] 40) := k8.out
  have hbw9 : Hid (Below B w w8.drew ∧ KeepU w w8.drew) := ⟨bdrewN hbw8.out.1 1, fun b c U h1 h2 h3 => hbw8.out.2 b c U h1 h2 h3⟩
  have hM9 : Hid (∀ i : Nat, (i : Int) < n → ∃ g, al = some ⟨g, 0, none⟩ ∧ w8.drew.cell? ⟨g, i, none⟩ = some (.int .u8 (L i))) := hM8
  clear hA8 k8 hbw8 hM8 a0 a1 a2 a3 a6 a7 a8 a9 la fa
  generalize w8.drew = w9 at *
  obtain ⟨a0, a1, a2, a3, a6, a7, a8, a9, la⟩ := askCells hA9.out
  have fa := hA9.out.blk.free 8
  have r0 := k9.out.cell (i := 0) rfl
  have r1 := k9.out.cell (i := 1) rfl
  have rf := k9.out.free
  have rl := k9.out.lt
  by_cases q1 : ix < 0
  · have t1 : decide (0 ≤ ix) = false := by simp; omega
    have hF : FS = 0 := by rw [hfs.out, if_neg (by omega)]
    replace q1 := Lib.hid q1
    subst hF
    go_wp2_with fail
    exact postRet 2 (by kernel_rfl) w.heap.size 0 _ rfl (((k9.out.set 0 (.int .u8 0)).set 1 (.slice va vn vc)).congr rfl) rfl (PostR.laid (w := w) (r := ⟨0, R⟩) hA9.out.own hbw9.out.1 hbw9.out.2 hB (Nat.le_refl _) k9.out (((Touch.refl [w.heap.size] w9).setCell (p := ⟨w.heap.size, 0, none⟩) (.inl (by simp)) _).setCell (p := ⟨w.heap.size, 1, none⟩) (.inl (by simp)) _))
  have t1 : decide (0 ≤ ix) = true := by simp; omega
  by_cases q2 : (n : Int) ≤ ix
  · have t2 : decide (ix < (n : Int)) = false := by simp; omega
    have hF : FS = 0 := by rw [hfs.out, if_neg (by omega)]
    replace q1 := Lib.hid q1
    replace q2 := Lib.hid q2
    subst hF
    go_wp2_with fail
    exact postRet 2 (by kernel_rfl) w.heap.size 0 _ rfl (((k9.out.set 0 (.int .u8 0)).set 1 (.slice va vn vc)).congr rfl) rfl (PostR.laid (w := w) (r := ⟨0, R⟩) hA9.out.own hbw9.out.1 hbw9.out.2 hB (Nat.le_refl _) k9.out (((Touch.refl [w.heap.size] w9).setCell (p := ⟨w.heap.size, 0, none⟩) (.inl (by simp)) _).setCell (p := ⟨w.heap.size, 1, none⟩) (.inl (by simp)) _))
  have t2 : decide (ix < (n : Int)) = true := by simp; omega
  obtain ⟨j, rfl⟩ := Int.eq_ofNat_of_zero_le (show 0 ≤ ix by omega)
  have hF : FS = L j := by rw [hfs.out, if_pos (by omega)]; rfl
  obtain ⟨g, rfl, hcg⟩ := hM9.out j (by omega)
  have hjn : j < n := by omega
  have lg := World.block_lt_of_cell? _ _ hcg
  simp only at lg
  replace q1 := Lib.hid q1
  replace q2 := Lib.hid q2
  subst hF
  have hAx := Lib.hid (hA9.out.setSym (L j))
  have kx := Lib.hid (k9.out.setNe (a := ⟨pa, 8, none⟩) (fun e => hpw e.symm) (.int .u8 (L j)))
  have hbx : Hid (Below B w (w9.setCell ⟨pa, 8, none⟩ (.int .u8 (L j))) ∧ KeepU w (w9.setCell ⟨pa, 8, none⟩ (.int .u8 (L j)))) := ⟨hbw9.out.1.setCell (show B ≤ (⟨pa, 8, none⟩ : Addr).block from hp7.out) _, hbw9.out.2.trans (KeepU.of_touch ((Touch.refl [pa] w9).setCell (p := ⟨pa, 8, none⟩) (.inl (by simp)) _) hA9.out.blk (.inl rfl))⟩
  generalize hS : L j = S at *
  replace hS := Lib.hid hS
  go_wp2_with fail
  exact postRet 2 (by kernel_rfl) w.heap.size S _ rfl (((kx.out.set 0 (.int .u8 S)).set 1 (.slice va vn vc)).congr rfl) rfl (by rw [hS.out]; exact PostR.laid (w := w) (r := ⟨S, R⟩) hAx.out.own hbx.out.1 hbx.out.2 hB (Nat.le_refl _) kx.out (((Touch.refl [w.heap.size] _).setCell (p := ⟨w.heap.size, 0, none⟩) (.inl (by simp)) _).setCell (p := ⟨w.heap.size, 1, none⟩) (.inl (by simp)) _))
end Go.Proofs.Ytmdohnbhogfopaa
