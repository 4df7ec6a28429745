/- Post and Same of a law; what says a mouth that has no links. -/
import Derived.Test.YtmdohnbhogfopaaZVoidA
namespace Go.Proofs.Ytmdohnbhogfopaa
open Go.RowKit Go.Maps
set_option linter.unusedSimpArgs false
set_option linter.unusedVariables false
set_option maxRecDepth 100000
theorem postRow2 : ∃ d, Try.prog.underlying 77 = some d ∧ (match d with | .struct _ | .array _ _ => true | _ => false) = true := ⟨_, Try.underlying77, rfl⟩
theorem postSize2 : (Try.prog.info? 77).map (·.size) = some 2 := by kernel_rfl
theorem postRet2 {fn : Func} {Q : Ending → World → Prop} {a : Act} {W : World} (p : Tmp) (h : fn.results = #[.cell p 77]) (b : Nat) (s : Int) (v : Value) (hp : a.tmps.getD p undef = .pointer (some ⟨b, 0, none⟩)) (hb : Blk W b #[.int .u8 s, v] 77) (hd : a.defers = [])
    (hQ : Q (.returned (.agg #[.int .u8 s, v])) W) : bodyPost Try.prog fn Q .ret a W := by
  obtain ⟨d0, hd0, hd1⟩ := postRow2
  exact bodyPost_ret (v := .agg #[.int .u8 s, v]) (results_cell_row h _ _ b 77 _ (0, 0) d0 hp hb.out hd0 (by cases d0 <;> simp_all) (by rw [postSize2]; rfl)) hd hQ
/-- A post as the document has it. -/
theorem postP (w : World) (p : PostC) (hp : PostOk p) (v : Value) (hw : WordAt 0 w v p.R) :
    Calls Try.prog 32 #[.agg #[.int .u8 p.s, v]] w fun e w' => ∃ v', e = .returned (.agg #[.int .u8 p.s, v']) ∧ OwnWord 167 204 w.heap.size w' v' p.R ∧ Below w.heap.size w w' := by
  have hv : ∃ a n c, v = .slice a n c := by obtain ⟨a, n, c, _, rfl, _⟩ := hw.len; exact ⟨a, n, c, rfl⟩
  obtain ⟨a0, n0, c0, rfl⟩ := hv
  have P1 : Hid (∀ W, Below w.heap.size w W → Calls Try.prog 22 #[.slice a0 n0 c0] W fun e w' => ∃ v', e = .returned v' ∧ OwnWord 167 204 W.heap.size w' v' p.R ∧ Below W.heap.size W w') := fun W hW => othersR W _ p.R (hw.below hW) hp.R hp.big.1 hp.big.2
  clear hw
  have hb1 : Below w.heap.size w ((w.alloc (.cells #[.int .u8 p.s, .slice a0 n0 c0] 40)).alloc (.cells #[.int .u8 0, .slice none 0 0] 77)) := blk_alloc2 _ _
  have k0 : Blk ((w.alloc (.cells #[.int .u8 p.s, .slice a0 n0 c0] 40)).alloc (.cells #[.int .u8 0, .slice none 0 0] 77)) w.heap.size #[.int .u8 p.s, .slice a0 n0 c0] 40 := (Blk.new w _ _).alloc _
  have k1 : Blk ((w.alloc (.cells #[.int .u8 p.s, .slice a0 n0 c0] 40)).alloc (.cells #[.int .u8 0, .slice none 0 0] 77)) (w.heap.size + 1) #[.int .u8 0, .slice none 0 0] 77 := by
    have := Blk.new (w.alloc (.cells #[.int .u8 p.s, .slice a0 n0 c0] 40)) #[.int .u8 0, .slice none 0 0] 77
    simpa using this
  replace hb1 := Lib.hid hb1
  go_enter Try.func32, Try.ntmps32
  go_upto_region 1 with fail
  generalize (w.alloc (.cells #[.int .u8 p.s, .slice a0 n0 c0] 40)).alloc (.cells #[.int .u8 0, .slice none 0 0] 77) = w1 at *
  have hcl : ∀ W, Below w1.heap.size w1 W → W.cell? ⟨w.heap.size, 0, none⟩ = some (.int .u8 p.s) ∧ W.cell? ⟨w.heap.size, 1, none⟩ = some (.slice a0 n0 c0) := fun W hW =>
    ⟨(k0.below hW k0.lt).cell (i := 0) rfl, (k0.below hW k0.lt).cell (i := 1) rfl⟩
  replace hcl := Lib.hid hcl
  replace k1 := Lib.hid k1
  have hbd : Below w.heap.size w w1.drew := bdrewN hb1.out 1
  have hbe : Below w1.heap.size w1 w1.drew := below_drewN w1 1
  have hP := Lib.hid (P1.out _ hbd)
  clear k0 P1
  go_region_held3 (fun W => W.cell? ⟨w.heap.size, 0, none⟩ = some (.int .u8 p.s) ∧ W.cell? ⟨w.heap.size, 1, none⟩ = some (.slice a0 n0 c0))
    (first | exact hcl.out _ hbe | exact hcl.out _ (bthen hbe hb7) | exact ⟨(World.cell?_setCell_other _ _ _ _ (by simp)).trans ((World.cell?_setCell_other _ _ _ _ (by simp)).trans (hcl.out _ (bthen hbe hb7)).1), (World.cell?_setCell_other _ _ _ _ (by simp)).trans ((World.cell?_setCell_other _ _ _ _ (by simp)).trans (hcl.out _ (bthen hbe hb7)).2)⟩)
    (first
      | (go_at_call 22; (with_reducible refine hP.out.mono ?_); rintro e w7 ⟨v7, rfl, hO7, hb7⟩; obtain ⟨a7, n7, c7, rfl⟩ := hO7.sl; have k7 := k1.out.below (bthen hbe hb7) k1.out.lt; have r0 := k7.cell (i := 0) rfl; have r1 := k7.cell (i := 1) rfl; have rf := k7.free; have rl := k7.lt; replace k7 := Lib.hid k7)
      | fail)
  have hbw := bthen hbd hb7
  have hT : Touch [w.heap.size + 1] w7 ((w7.setCell ⟨w.heap.size + 1, 0, none⟩ (.int .u8 p.s)).setCell ⟨w.heap.size + 1, 1, none⟩ (.slice a7 n7 c7)) := ((Touch.refl [w.heap.size + 1] w7).setCell (p := ⟨w.heap.size + 1, 0, none⟩) (.inl (by simp)) _).setCell (p := ⟨w.heap.size + 1, 1, none⟩) (.inl (by simp)) _
  have hbF : Below w.heap.size w ((w7.setCell ⟨w.heap.size + 1, 0, none⟩ (.int .u8 p.s)).setCell ⟨w.heap.size + 1, 1, none⟩ (.slice a7 n7 c7)) := hT.below hbw hbw.size (by simp)
  go_wp2_with fail
  refine postRet2 2 (by kernel_rfl) (w.heap.size + 1) p.s _ rfl (((k7.out.set 0 (.int .u8 p.s)).set 1 (.slice a7 n7 c7)).congr rfl) rfl ⟨_, rfl, (hO7.mono hbd.size).blk (fun g c U hU hg => hg.touch hT (by
    simp only [List.mem_singleton]
    rcases hU with rfl | rfl
    · exact hg.ne k7.out (by decide)
    · exact hg.ne k7.out (by decide))), hbF⟩
set_option maxHeartbeats 2000000 in
theorem sameP (w : World) (s : Int) (v v' : Value) (R R' : List RowC) (hw : WordAt 0 w v R) (hw' : WordAt 0 w v' R') (hR : RowsNear R R') (hk : ∀ r ∈ R, RowOk r) (hk' : ∀ r ∈ R', RowOk r) (hn : R.length ≤ 1000000) (ht : ∀ r ∈ R, r.tab.length ≤ 1000000) :
    Calls Try.prog 35 #[.agg #[.int .u8 s, v], .agg #[.int .u8 s, v']] w fun e w' => e = .returned (.bool (sameRows R R')) ∧ Below w.heap.size w w' := by
  have hv : ∃ a n c, v = .slice a n c := by obtain ⟨a, n, c, _, rfl, _⟩ := hw.len; exact ⟨a, n, c, rfl⟩
  have hv' : ∃ a n c, v' = .slice a n c := by obtain ⟨a, n, c, _, rfl, _⟩ := hw'.len; exact ⟨a, n, c, rfl⟩
  obtain ⟨a0, n0, c0, rfl⟩ := hv
  obtain ⟨a1, n1, c1, rfl⟩ := hv'
  have P2 : Hid (∀ W, Below w.heap.size w W → Calls Try.prog 21 #[.slice a0 n0 c0, .slice a1 n1 c1] W fun e w' => e = .returned (.bool (sameRows R R')) ∧ Below W.heap.size W w') := fun W hW => sameAllR W _ _ R R' (hw.below hW) (hw'.below hW) hR hk hk' hn ht
  clear hw hw' hR hk hk' ht hn
  generalize sameRows R R' = S at *
  have hb1 : Below w.heap.size w ((w.alloc (.cells #[.int .u8 s, .slice a0 n0 c0] 40)).alloc (.cells #[.int .u8 s, .slice a1 n1 c1] 77)) := blk_alloc2 _ _
  have k0 : Blk ((w.alloc (.cells #[.int .u8 s, .slice a0 n0 c0] 40)).alloc (.cells #[.int .u8 s, .slice a1 n1 c1] 77)) w.heap.size #[.int .u8 s, .slice a0 n0 c0] 40 := (Blk.new w _ _).alloc _
  have k1 : Blk ((w.alloc (.cells #[.int .u8 s, .slice a0 n0 c0] 40)).alloc (.cells #[.int .u8 s, .slice a1 n1 c1] 77)) (w.heap.size + 1) #[.int .u8 s, .slice a1 n1 c1] 77 := by
    have := Blk.new (w.alloc (.cells #[.int .u8 s, .slice a0 n0 c0] 40)) #[.int .u8 s, .slice a1 n1 c1] 77
    simpa using this
  replace hb1 := Lib.hid hb1
  go_enter Try.func35, Try.ntmps35
  go_upto_region 1 with fail
  generalize (w.alloc (.cells #[.int .u8 s, .slice a0 n0 c0] 40)).alloc (.cells #[.int .u8 s, .slice a1 n1 c1] 77) = w1 at *
  have d0 := k0.cell (i := 0) rfl
  have d1 := k0.cell (i := 1) rfl
  have d2 := k1.cell (i := 0) rfl
  have d3 := k1.cell (i := 1) rfl
  have l0 := k0.lt
  have l1 := k1.lt
  have hP := Lib.hid (P2.out _ hb1.out)
  clear k0 k1 P2
  go_wp2_with fail
  refine hP.out.mono ?_
  rintro e w7 ⟨rfl, hb7⟩
  have hb8 := Lib.hid (bthen hb1.out hb7)
  clear hb7 hP d0 d1 d2 d3
  go_wp2_with fail
  go_ret
  exact ⟨rfl, hb8.out⟩
/-- A mouth that has no such link says what it is told. -/
theorem saysPlain (w : World) (pv : Value) (l t : Int) (hI : ∀ W, Below w.heap.size w W → Calls Try.prog 33 #[pv, .int .i64 l] W fun e w' => e = .returned (.bool false) ∧ W = w') (p : PostC) (hp : PostOk p) (v : Value) (hw : WordAt 0 w v p.R) :
    Calls Try.prog 17 #[pv, .int .i64 t, .int .i64 l, .agg #[.int .u8 p.s, v]] w fun e w' => ∃ v', e = .returned (.agg #[.int .u8 p.s, v']) ∧ (∃ a n k, v' = .slice a n k) ∧ WordAt 0 w' v' p.R ∧ Below w.heap.size w w' := by
  have hv : ∃ a n k, v = .slice a n k := by obtain ⟨a, n, k, _, rfl, _⟩ := hw.len; exact ⟨a, n, k, rfl⟩
  obtain ⟨va, vn, vk, rfl⟩ := hv
  have hb1 : Below w.heap.size w ((w.alloc (.cells #[.int .u8 p.s, .slice va vn vk] 40)).alloc (.cells #[.int .u8 0, .slice none 0 0] 40)) := blk_alloc2 _ _
  have k0 : Blk ((w.alloc (.cells #[.int .u8 p.s, .slice va vn vk] 40)).alloc (.cells #[.int .u8 0, .slice none 0 0] 40)) w.heap.size #[.int .u8 p.s, .slice va vn vk] 40 := (Blk.new w _ _).alloc _
  have k1 : Blk ((w.alloc (.cells #[.int .u8 p.s, .slice va vn vk] 40)).alloc (.cells #[.int .u8 0, .slice none 0 0] 40)) (w.heap.size + 1) #[.int .u8 0, .slice none 0 0] 40 := by
    have := Blk.new (w.alloc (.cells #[.int .u8 p.s, .slice va vn vk] 40)) #[.int .u8 0, .slice none 0 0] 40
    simpa using this
  replace hI := Lib.hid hI
  have P1 : Hid (∀ W, Below w.heap.size w W → Calls Try.prog 63 #[.agg #[.int .u8 p.s, .slice va vn vk]] W fun e w' => ∃ v', e = .returned (.agg #[.int .u8 p.s, v']) ∧ OwnWord 97 163 W.heap.size w' v' p.R ∧ Below W.heap.size W w') := fun W hW =>
    ownP W p.s _ p.R (hw.below hW) hp.R (by have := hp.n; omega) (fun r hr => by have := hp.t r hr; omega)
  have hpR := Lib.hid hp.R
  clear hw hp
  replace hb1 := Lib.hid hb1
  go_enter Try.func17, Try.ntmps17
  go_upto_region 1 with fail
  generalize (w.alloc (.cells #[.int .u8 p.s, .slice va vn vk] 40)).alloc (.cells #[.int .u8 0, .slice none 0 0] 40) = w1 at *
  have c0 := k0.cell (i := 0) rfl
  have c1 := k0.cell (i := 1) rfl
  have l0 := k0.lt
  have hP := Lib.hid (P1.out _ hb1.out)
  have hI1 := Lib.hid (hI.out _ hb1.out)
  replace k1 := Lib.hid k1
  clear k0 P1 hI
  go_wp2_with fail
  refine hI1.out.mono ?_
  rintro e _ ⟨rfl, rfl⟩
  go_wp2_with fail
  refine hP.out.mono ?_
  rintro e w2 ⟨v', rfl, hO, hb2⟩
  obtain ⟨a, n, c', rfl⟩ := hO.sl
  have hbw := Lib.hid (hb1.out.trans (hb2.mono hb1.out.size))
  have k2 := Lib.hid (k1.out.below hb2 k1.out.lt)
  replace hO := Lib.hid hO
  have r0 := k2.out.cell (i := 0) rfl
  have r1 := k2.out.cell (i := 1) rfl
  have rf := k2.out.free
  have rl := k2.out.lt
  clear hb2 hP c0 c1 l0 hI1 k1
  go_wp2_with fail
  have hT : Touch [w.heap.size + 1] w2 ((w2.setCell ⟨w.heap.size + 1, 0, none⟩ (.int .u8 p.s)).setCell ⟨w.heap.size + 1, 1, none⟩ (.slice a n c')) := ((Touch.refl [w.heap.size + 1] w2).setCell (p := ⟨w.heap.size + 1, 0, none⟩) (.inl (by simp)) _).setCell (p := ⟨w.heap.size + 1, 1, none⟩) (.inl (by simp)) _
  have hbF : Below w.heap.size w ((w2.setCell ⟨w.heap.size + 1, 0, none⟩ (.int .u8 p.s)).setCell ⟨w.heap.size + 1, 1, none⟩ (.slice a n c')) := hT.below hbw.out hbw.out.size (by simp)
  have hO2 : WordAt 0 ((w2.setCell ⟨w.heap.size + 1, 0, none⟩ (.int .u8 p.s)).setCell ⟨w.heap.size + 1, 1, none⟩ (.slice a n c')) (.slice a n c') p.R := (hO.out.blk (fun g c U hU hg => hg.touch hT (by
    simp only [List.mem_singleton]
    rcases hU with rfl | rfl
    · exact hg.ne k2.out (by decide)
    · exact hg.ne k2.out (by decide)))).at0 hpR.out
  exact postRet 8 (by kernel_rfl) (w.heap.size + 1) p.s _ rfl (((k2.out.set 0 (.int .u8 p.s)).set 1 (.slice a n c')).congr rfl) rfl ⟨_, rfl, ⟨_, _, _, rfl⟩, hO2, hbF⟩
end Go.Proofs.Ytmdohnbhogfopaa
