/- Says, of a link that is one's own. -/
import Derived.Test.YtmdohnbhogfopaaZAskM
import Derived.Test.YtmdohnbhogfopaaZAskL
import Derived.Test.YtmdohnbhogfopaaZAskFK
namespace Go.Proofs.Ytmdohnbhogfopaa
open Go.RowKit Go.Maps
set_option linter.unusedSimpArgs false
set_option linter.unusedVariables false
set_option maxRecDepth 100000
theorem turnedR {B : Nat} {w : World} {pa pm : Nat} {l t : Int} {sp : SpellC} {s : Int} {v : Value} {R : List RowC} (h : AskAt B w pa pm l t sp s v R) (hB : B ≤ w.heap.size) :
    Calls Try.prog 107 #[.pointer (some ⟨pa, 0, none⟩)] w fun e w' => PostR B w ⟨if numI sp.sd t l 0 % 4 = 0 then turnS s else s, R⟩ e w' := by
  by_cases hq : numI sp.sd t l 0 % 4 = 0
  · rw [if_pos hq]
    exact turnedYes h hB hq
  · rw [if_neg hq]
    exact turnedNot h hB hq
theorem halfR {B : Nat} {w : World} {pa pm : Nat} {l t : Int} {sp : SpellC} {p : PostC} {v : Value} (h : AskAt B w pa pm l t sp p.s v p.R) (hB : B ≤ w.heap.size) (hl : 0 ≤ l) :
    Calls Try.prog 112 #[.pointer (some ⟨pa, 0, none⟩)] w fun e w' => PostR B w (if l % 2 = 0 then p else ⟨0, []⟩) e w' := by
  by_cases hq : l % 2 = 0
  · rw [if_pos hq]
    exact halfYes h hB hl (by simp [hq])
  · rw [if_neg hq]
    exact halfNo h hB hl (by simp [hq])
section
variable {M : Nat → Prop} {w : World} {pm bt bl c : Nat} {f : Int × Int → Option (Int × Option (Nat × Nat × Nat))} {F : FaultC} {T : Int × Int → Option PostC} {G : Int → Option Int}
set_option maxHeartbeats 2000000 in
theorem saysOut (h : MouthIs M w pm bt bl c f F T G) (hF : FaultOk F) (t l : Int) (p : PostC) (v : Value) (hv : ∃ a n k, v = .slice a n k) (hi : isF F l = true) (ht : t < 0 ∨ 1099511627776 < t) :
    Calls Try.prog 17 #[.pointer (some ⟨pm, 0, none⟩), .int .i64 t, .int .i64 l, .agg #[.int .u8 p.s, v]] w fun e w' => SaysR M w pm bt bl c F (saysT F T G t l p) (saysG F G t l) (saysP F T G t l p) e w' := by
  have e0 : toldB F t l = false := by simp [toldB, hi]; omega
  have eP : saysP F T G t l p = ⟨0, []⟩ := by simp [saysP, hi, e0]
  have eT : saysT F T G t l p = T := by simp [saysT, e0]
  have eG : saysG F G t l = G := by simp [saysG, e0]
  rw [eP, eT, eG]
  clear eP eT eG e0
  obtain ⟨va, vn, vk, rfl⟩ := hv
  have hb1 : Below w.heap.size w ((w.alloc (.cells #[.int .u8 p.s, .slice va vn vk] 40)).alloc (.cells #[.int .u8 0, .slice none 0 0] 40)) := blk_alloc2 _ _
  have k0 : Blk ((w.alloc (.cells #[.int .u8 p.s, .slice va vn vk] 40)).alloc (.cells #[.int .u8 0, .slice none 0 0] 40)) w.heap.size #[.int .u8 p.s, .slice va vn vk] 40 := (Blk.new w _ _).alloc _
  have k1 : Blk ((w.alloc (.cells #[.int .u8 p.s, .slice va vn vk] 40)).alloc (.cells #[.int .u8 0, .slice none 0 0] 40)) (w.heap.size + 1) #[.int .u8 0, .slice none 0 0] 40 := by
    have := Blk.new (w.alloc (.cells #[.int .u8 p.s, .slice va vn vk] 40)) #[.int .u8 0, .slice none 0 0] 40
    simpa using this
  have hI := Lib.hid (isR (h.below hb1) hF l)
  rw [hi] at hI
  replace h := Lib.hid h
  clear hF hi
  replace hb1 := Lib.hid hb1
  have hfin : Hid (∀ w2, Touch [w.heap.size + 1] ((w.alloc (.cells #[.int .u8 p.s, .slice va vn vk] 40)).alloc (.cells #[.int .u8 0, .slice none 0 0] 40)) w2 → SaysR M w pm bt bl c F T G ⟨0, []⟩ (.returned (.agg #[.int .u8 0, .slice none 0 0])) w2) := fun w2 hT => by
    have hbF : Below w.heap.size w w2 := hT.below hb1.out hb1.out.size (by simp)
    exact ⟨.slice none 0 0, w.heap.size, w.heap.size, f, rfl, Nat.le_refl _, Nat.le_refl _, hbF.size, .inl ⟨rfl, rfl⟩, (h.out.below hbF).same _, Touch.of_below hbF (Nat.le_refl _) _⟩
  have q1 : (t < 0 ∧ decide (t < 0) = true) ∨ (decide (t < 0) = false ∧ decide (1099511627776 < t) = true) := by
    rcases ht with ht | ht
    · exact .inl ⟨ht, by simp [ht]⟩
    · by_cases h0 : t < 0
      · exact .inl ⟨h0, by simp [h0]⟩
      · exact .inr ⟨by simp; omega, by simp [ht]⟩
  replace ht := Lib.hid ht
  rcases q1 with ⟨q0, q1⟩ | ⟨q1, q2⟩
  all_goals
    go_enter Try.func17, Try.ntmps17
    go_upto_region 1 with fail
    generalize (w.alloc (.cells #[.int .u8 p.s, .slice va vn vk] 40)).alloc (.cells #[.int .u8 0, .slice none 0 0] 40) = w1 at *
    have r0 := k1.cell (i := 0) rfl
    have r1 := k1.cell (i := 1) rfl
    have rf := k1.free
    have rl := k1.lt
    replace k1 := Lib.hid k1
    clear k0
    go_wp2_with fail
    refine hI.out.mono ?_
    rintro e _ ⟨rfl, rfl⟩
    go_wp2_with fail
    exact postRet 8 (by kernel_rfl) (w.heap.size + 1) 0 _ rfl (((k1.out.set 0 (.int .u8 0)).set 1 (.slice none 0 0)).congr rfl) rfl (hfin.out _ (((Touch.refl [w.heap.size + 1] w1).setCell (p := ⟨w.heap.size + 1, 0, none⟩) (.inl (by simp)) _).setCell (p := ⟨w.heap.size + 1, 1, none⟩) (.inl (by simp)) _))
/-- How it ends. -/
theorem says_fin (h : MouthIs M w pm bt bl c f F T G) {w5 w6 w10 w11 w12 : World} {f' : Int × Int → Option (Int × Option (Nat × Nat × Nat))} {T' : Int × Int → Option PostC} {G' : Int → Option Int} (h5 : Below w.heap.size w w5) (hs : w.heap.size + 1 < w5.heap.size) (hM : MouthIs (fun k => M k ∨ (w5.heap.size ≤ k ∧ k < w6.heap.size)) w6 pm bt bl (c + 1) f' F T' G') (hT : Touch [bt, bl] w5 w6) (h10 : Below w6.heap.size w6 w10)
    {r : PostC} {v' : Value} (hO : OwnWord 97 163 w6.heap.size w11 v' r.R) (h11 : Below w6.heap.size w10 w11) (hT2 : Touch [w.heap.size + 1] w11 w12) :
    SaysR M w pm bt bl c F T' G' r (.returned (.agg #[.int .u8 r.s, v'])) w12 := by
  have hlt := h.lts
  have s1 := hT.size
  have s2 := h10.size
  have s3 := h11.size
  have s4 := hT2.size
  have e6 : ∀ k, k < w6.heap.size → k ≠ w.heap.size + 1 → w12.heap[k]? = w6.heap[k]? := fun k hk hn => by
    rw [hT2.block k (by omega) (by simpa using hn), h11.block k hk, h10.block k hk]
  refine ⟨v', w5.heap.size, w6.heap.size, f', rfl, h5.size, s1, by omega, hO.onM w12 (fun k hk => hT2.block k hk.2 (by simp; omega)), hM.agree (fun k hk => e6 k ?_ ?_) (by omega), ⟨hT2.os.trans (h11.os.trans (h10.os.trans (hT.os.trans h5.os))), hT2.tape.trans (h11.tape.trans (h10.tape.trans (hT.tape.trans h5.tape))), hT2.output.trans (h11.output.trans (h10.output.trans (hT.output.trans h5.output))), by have := h5.size; omega, fun k hk hn => ?_⟩⟩
  · rcases hk with (hk | hk) | hk
    · have := hlt k (.inl hk); have := h5.size; omega
    · exact hk.2
    · have := hlt k (.inr hk); have := h5.size; omega
  · rcases hk with (hk | hk) | hk
    · have := hlt k (.inl hk); omega
    · omega
    · have := hlt k (.inr hk); omega
  · have := h5.size
    rw [e6 k (by omega) (by omega), hT.block k (by omega) hn, h5.block k hk]
set_option maxHeartbeats 8000000 in
theorem saysIn (h : MouthIs M w pm bt bl c f F T G) (hF : FaultOk F) (hOld : OldOut T G) (hc : c < 900000000) (t l : Int) (p : PostC) (hp : PostOk p) (v : Value) (hw : WordAt 0 w v p.R) (hi : isF F l = true) (ht : 0 ≤ t ∧ t ≤ 1099511627776) :
    Calls Try.prog 17 #[.pointer (some ⟨pm, 0, none⟩), .int .i64 t, .int .i64 l, .agg #[.int .u8 p.s, v]] w fun e w' => SaysR M w pm bt bl c F (saysT F T G t l p) (saysG F G t l) (saysP F T G t l p) e w' := by
  have e0 : toldB F t l = true := by simp [toldB, hi]; omega
  have eP : saysP F T G t l p = kindP F (keepT T G t l p) (spellF F t l) t l p := by simp [saysP, hi, e0]
  have eT : saysT F T G t l p = keepT T G t l p := by simp [saysT, e0]
  have eG : saysG F G t l = keepG G t l := by simp [saysG, e0]
  rw [eP, eT, eG]
  clear eP eT eG e0
  have hl := isF_range hF hi
  have hv : ∃ a n k, v = .slice a n k := by obtain ⟨a, n, k, _, rfl, _⟩ := hw.len; exact ⟨a, n, k, rfl⟩
  obtain ⟨va, vn, vk, rfl⟩ := hv
  have hb1 : Below w.heap.size w ((w.alloc (.cells #[.int .u8 p.s, .slice va vn vk] 40)).alloc (.cells #[.int .u8 0, .slice none 0 0] 40)) := blk_alloc2 _ _
  have k0 : Blk ((w.alloc (.cells #[.int .u8 p.s, .slice va vn vk] 40)).alloc (.cells #[.int .u8 0, .slice none 0 0] 40)) w.heap.size #[.int .u8 p.s, .slice va vn vk] 40 := (Blk.new w _ _).alloc _
  have k1 : Blk ((w.alloc (.cells #[.int .u8 p.s, .slice va vn vk] 40)).alloc (.cells #[.int .u8 0, .slice none 0 0] 40)) (w.heap.size + 1) #[.int .u8 0, .slice none 0 0] 40 := by
    have := Blk.new (w.alloc (.cells #[.int .u8 p.s, .slice va vn vk] 40)) #[.int .u8 0, .slice none 0 0] 40
    simpa using this
  have hI := Lib.hid (isR (h.below hb1) hF l)
  rw [hi] at hI
  have sp_ok := Lib.hid (spell_ok hF t l)
  have g1 : decide (t < 0) = false := by simp; omega
  have g2 : decide (1099511627776 < t) = false := by simp; omega
  have g3 : ¬ t < 0 := by omega
  have g4 : ¬ 1099511627776 < t := by omega
  have ht' := Lib.hid ht
  have hl' := Lib.hid hl
  clear hi ht
  go_enter Try.func17, Try.ntmps17
  go_upto_region 1 with fail
  generalize (w.alloc (.cells #[.int .u8 p.s, .slice va vn vk] 40)).alloc (.cells #[.int .u8 0, .slice none 0 0] 40) = w1 at *
  go_wp2_with fail
  refine hI.out.mono ?_
  rintro e _ ⟨rfl, rfl⟩
  go_upto_region 6 with fail
  have hb5 := hb1.trans ((below_alloc w1 (.cells #[.int .i64 l, .int .i64 t] 152)).mono hb1.size)
  have k05 := k0.alloc (.cells #[.int .i64 l, .int .i64 t] 152)
  have k15 := k1.alloc (.cells #[.int .i64 l, .int .i64 t] 152)
  have k95 := Blk.new w1 #[.int .i64 l, .int .i64 t] 152
  have l15 := k15.lt
  clear k0 k1 hb1 hI
  generalize w1.heap.size = b9 at *
  generalize w1.alloc (.cells #[.int .i64 l, .int .i64 t] 152) = w5 at *
  have hM5 := h.below hb5
  have hw5 := hw.below hb5
  have K1 := Lib.hid (keepR hM5 hOld hc l t p hp _ hw5 hl ht'.out)
  unfold plV at K1
  have c0 := k05.cell (i := 0) rfl
  have c1 := k05.cell (i := 1) rfl
  have a0 := k95.cell (i := 0) rfl
  have a1 := k95.cell (i := 1) rfl
  have l0 := k05.lt
  have l9 := k95.lt
  replace h := Lib.hid h
  replace hM5 := Lib.hid hM5
  replace hw5 := Lib.hid hw5
  replace k05 := Lib.hid k05
  replace k15 := Lib.hid k15
  replace k95 := Lib.hid k95
  replace hb5 := Lib.hid hb5
  replace l15 := Lib.hid l15
  replace hp := Lib.hid hp
  replace hF := Lib.hid hF
  clear hw hOld hl
  go_wp2_with fail
  refine K1.out.mono ?_
  rintro e w6 ⟨rfl, f6, hM6, hT6⟩
  replace k05 := Lib.hid (hM5.out.blks k05.out hT6)
  replace k15 := Lib.hid (hM5.out.blks k15.out hT6)
  replace k95 := Lib.hid (hM5.out.blks k95.out hT6)
  have hw6 := Lib.hid (hw5.out.keep (hM5.out.keepC hT6))
  clear K1 c0 c1 a0 a1 l0 l9 hw5
  replace hM6 := Lib.hid hM6
  replace hT6 := Lib.hid hT6
  go_upto_region 7 with fail
  have hq1 : Below w6.heap.size w6 w6.drew := below_drewN w6 1
  have P1 : Hid (∀ W, Below w6.heap.size w6 W → Calls Try.prog 63 #[.agg #[.int .u8 p.s, .slice va vn vk]] W fun e w' => ∃ v', e = .returned (.agg #[.int .u8 p.s, v']) ∧ OwnWord 97 163 W.heap.size w' v' p.R ∧ Below W.heap.size W w') := fun W hW =>
    ownP W p.s _ p.R (hw6.out.below hW) hp.out.R (by have := hp.out.n; omega) (fun r hr => by have := hp.out.t r hr; omega)
  have P2 : Hid (∀ W, Below w6.heap.size w6 W → Calls Try.prog 65 #[.pointer (some ⟨pm, 0, none⟩), .agg #[.int .i64 l, .int .i64 t]] W fun e w' => e = .returned (.agg (spL (spellF F t l)).toArray) ∧ Below W.heap.size W w') := fun W hW =>
    spellR (hM6.out.below hW) hF.out l t hl'.out
  have hcl : Hid (∀ W, Below w6.heap.size w6 W → W.cell? ⟨b9, 0, none⟩ = some (.int .i64 l) ∧ W.cell? ⟨b9, 1, none⟩ = some (.int .i64 t) ∧ W.cell? ⟨w.heap.size, 0, none⟩ = some (.int .u8 p.s) ∧ W.cell? ⟨w.heap.size, 1, none⟩ = some (.slice va vn vk)) := fun W hW =>
    ⟨(k95.out.below hW k95.out.lt).cell (i := 0) rfl, (k95.out.below hW k95.out.lt).cell (i := 1) rfl, (k05.out.below hW k05.out.lt).cell (i := 0) rfl, (k05.out.below hW k05.out.lt).cell (i := 1) rfl⟩
  generalize hspe : spellF F t l = sp at *
  replace hspe := Lib.hid hspe
  unfold spL at P2
  clear hw6
  go_region_held3 (fun W => W.cell? ⟨b9, 0, none⟩ = some (.int .i64 l) ∧ W.cell? ⟨b9, 1, none⟩ = some (.int .i64 t) ∧ W.cell? ⟨w.heap.size, 0, none⟩ = some (.int .u8 p.s) ∧ W.cell? ⟨w.heap.size, 1, none⟩ = some (.slice va vn vk))
    (first | exact hcl.out _ hq1 | exact hcl.out _ hb67 | exact hcl.out _ hb68 | exact hcl.out _ (bthen hb68 (below_alloc _ _)))
    (first
      | (go_at_call 65
         (with_reducible refine (P2.out _ hq1).mono ?_)
         rintro e w7 ⟨rfl, hb7⟩
         have hb67 := bthen hq1 hb7
         clear hb7)
      | (go_at_call 63
         (with_reducible refine (P1.out _ hb67).mono ?_)
         rintro e w8 ⟨v8, rfl, hO8, hb8⟩
         have hb68 := bthen hb67 hb8
         have hO8' := Lib.hid (hO8.mono hb67.size)
         obtain ⟨va8, vn8, vk8, rfl⟩ : ∃ a n c, v8 = .slice a n c := by
           rcases hO8 with ⟨rfl, _⟩ | ⟨_, _, _, _, rfl, _⟩
           · exact ⟨_, _, _, rfl⟩
           · exact ⟨_, _, _, rfl⟩
         clear hO8 hb8)
      | fail)
  have hb69 := bthen hb68 (below_alloc w8 (.cells (askV pm l t sp p.s (.slice va8 vn8 vk8)) 157))
  have hA9 : AskAt w6.heap.size (w8.alloc (.cells (askV pm l t sp p.s (.slice va8 vn8 vk8)) 157)) w8.heap.size pm l t sp p.s (.slice va8 vn8 vk8) p.R := ⟨Blk.new _ _ _, hO8'.out.keep (below_alloc _ _) (Nat.le_refl _), hb68.size, ⟨_, _, _, rfl⟩, hp.out.R⟩
  unfold askV at hb69 hA9
  have hpa : w6.heap.size ≤ w8.heap.size := hb68.size
  clear hq1 P1 P2 hcl hb67 hb68 hO8' k05 k95
  generalize w8.heap.size = pa at *
  generalize w8.alloc (.cells #[.pointer (some ⟨pm, 0, none⟩), .int .i64 l, .int .i64 t, .int .i64 sp.fr, .int .i64 sp.til, .int .u8 sp.lk, .int .u8 sp.kd, .int .u64 sp.sd, .int .u8 p.s, .slice va8 vn8 vk8] 157) = w9 at *
  replace hA9 := Lib.hid hA9
  replace hb69 := Lib.hid hb69
  go_wp2_with fail
  refine (kindsR _).mono ?_
  rintro e _ ⟨rfl, rfl⟩
  have hb9k := below_alloc w9 (.cells kindsA 161)
  have hk10 := Blk.new w9 kindsA 161
  have hA10 := hA9.out.below hb9k (Nat.le_refl _)
  have hb610 := Lib.hid (bthen hb69.out hb9k)
  have hM10 := Lib.hid (hM6.out.below hb610.out)
  have k10 := Lib.hid (k15.out.below hb610.out k15.out.lt)
  have hsz : w6.heap.size ≤ (w9.alloc (.cells kindsA 161)).heap.size := hb610.out.size
  clear hA9 hb69 hb9k
  generalize w9.heap.size = bk at *
  generalize w9.alloc (.cells kindsA 161) = w10 at *
  obtain ⟨c0, c1, c2, c3, c6, c7, c8, c9, lt⟩ := askCells hA10
  have lk := hk10.lt
  replace hA10 := Lib.hid hA10
  replace hk10 := Lib.hid hk10
  have hsp := sp_ok.out
  have hkd : 0 ≤ sp.kd ∧ sp.kd < 256 := by
    have h1 := hsp.kd
    have e1 : IntKind.u8.min = 0 := by decide
    have e2 : IntKind.u8.max = 255 := by decide
    simp [Lit.wf, e1, e2] at h1
    omega
  have hsd := Lib.hid hsp.sd
  have hmo : w10.cell? ⟨pm, 0, none⟩ = some (.int .i64 F.m) := by
    obtain ⟨sv, h1, -⟩ := hM10.out.blk
    exact h1.cell (i := 0) rfl
  replace hmo := Lib.hid hmo
  have wk : IntKind.i64.wrap sp.kd = sp.kd := wrapI _ (by omega) (by omega)
  have hfin : Hid (∀ (r : PostC) (v' : Value) (w11 w12 : World), OwnWord 97 163 w6.heap.size w11 v' r.R → Below w6.heap.size w10 w11 → Touch [w.heap.size + 1] w11 w12 → SaysR M w pm bt bl c F (keepT T G t l p) (keepG G t l) r (.returned (.agg #[.int .u8 r.s, v'])) w12) := fun r v' w11 w12 h1 h2 h3 =>
    says_fin h.out hb5.out l15.out hM6.out hT6.out hb610.out h1 h2 h3
  clear hsp sp_ok
  have hn := hp.out.n
  have hFm := hF.out.m
  have hKP : Hid (kindP F (keepT T G t l p) (spellF F t l) t l p = kindP F (keepT T G t l p) sp t l p) := by
    have := hspe.out
    show kindP F (keepT T G t l p) (spellF F t l) t l p = kindP F (keepT T G t l p) sp t l p
    rw [this]
  have hcases : (sp.kd = 0 ∨ sp.kd = 1 ∨ sp.kd = 2 ∨ sp.kd = 3 ∨ sp.kd = 4 ∨ sp.kd = 5 ∨ sp.kd = 6 ∨ sp.kd = 7 ∨ sp.kd = 8) ∨ 9 ≤ sp.kd := by omega
  rcases hcases with hcases | hkd9
  rotate_left
  · have t1 : decide (9 ≤ sp.kd) = true := by simp [hkd9]
    have hr : Hid (kindP F (keepT T G t l p) (spellF F t l) t l p = p) := by
      show kindP F (keepT T G t l p) (spellF F t l) t l p = p
      rw [hKP.out]
      unfold kindP
      rw [if_neg (by omega), if_neg (by omega), if_neg (by omega), if_neg (by omega), if_neg (by omega), if_neg (by omega), if_neg (by omega), if_neg (by omega)]
    have hC := Lib.hid (honestR hA10.out hsz)
    have hpe : (⟨p.s, p.R⟩ : PostC) = p := rfl
    rw [hpe] at hC
    clear hpe
    replace hkd9 := Lib.hid hkd9
    go_wp2_with fail
    refine hC.out.mono ?_
    rintro e w11 ⟨v', rfl, hO, hbe, hku⟩
    have k11 := Lib.hid (hku _ _ _ k10.out (by decide) (by decide))
    obtain ⟨a11, n11, c11, rfl⟩ : ∃ a n c, v' = .slice a n c := by
      rcases hO with ⟨rfl, _⟩ | ⟨_, _, _, _, rfl, _⟩
      · exact ⟨_, _, _, rfl⟩
      · exact ⟨_, _, _, rfl⟩
    have hfin2 := Lib.hid (fun w12 hT => hfin.out _ _ w11 w12 hO hbe hT)
    have r0 := k11.out.cell (i := 0) rfl
    have r1 := k11.out.cell (i := 1) rfl
    have rf := k11.out.free
    have rl := k11.out.lt
    clear hO hbe hku hfin hC k10 c0 c1 c2 c3 c6 c7 c8 c9 lt lk
    go_wp2_with fail
    refine postRet 8 (by kernel_rfl) (w.heap.size + 1) _ _ rfl (((k11.out.set 0 _).set 1 (.slice a11 n11 c11)).congr rfl) rfl ?_
    rw [hr.out]
    exact hfin2.out _ (((Touch.refl [w.heap.size + 1] w11).setCell (p := ⟨w.heap.size + 1, 0, none⟩) (.inl (by simp)) _).setCell (p := ⟨w.heap.size + 1, 1, none⟩) (.inl (by simp)) _)
  rcases hcases with e | e | e | e | e | e | e | e | e
  · have hr : Hid (kindP F (keepT T G t l p) (spellF F t l) t l p = p) := by
      show kindP F (keepT T G t l p) (spellF F t l) t l p = p
      rw [hKP.out]
      unfold kindP
      simp [e]
    have hC : Hid (Calls Try.prog 67 #[.pointer (some ⟨pa, 0, none⟩)] w10 fun e w' => PostR w6.heap.size w10 (p) e w') := honestR hA10.out hsz
    have hcell : w10.cell? ⟨bk, 0, none⟩ = some (.func (.func 67) #[] #[]) := hk10.out.cell (i := 0) rfl
    rw [e] at c6
    replace e := Lib.hid e
    go_wp2_with fail
    refine hC.out.mono ?_
    rintro e w11 ⟨v', rfl, hO, hbe, hku⟩
    have k11 := Lib.hid (hku _ _ _ k10.out (by decide) (by decide))
    obtain ⟨a11, n11, c11, rfl⟩ : ∃ a n c, v' = .slice a n c := by
      rcases hO with ⟨rfl, _⟩ | ⟨_, _, _, _, rfl, _⟩
      · exact ⟨_, _, _, rfl⟩
      · exact ⟨_, _, _, rfl⟩
    have hfin2 := Lib.hid (fun w12 hT => hfin.out _ _ w11 w12 hO hbe hT)
    have r0 := k11.out.cell (i := 0) rfl
    have r1 := k11.out.cell (i := 1) rfl
    have rf := k11.out.free
    have rl := k11.out.lt
    clear hO hbe hku hfin hC k10 c0 c1 c2 c3 c6 c7 c8 c9 lt lk
    go_wp2_with fail
    refine postRet 8 (by kernel_rfl) (w.heap.size + 1) _ _ rfl (((k11.out.set 0 _).set 1 (.slice a11 n11 c11)).congr rfl) rfl ?_
    rw [hr.out]
    exact hfin2.out _ (((Touch.refl [w.heap.size + 1] w11).setCell (p := ⟨w.heap.size + 1, 0, none⟩) (.inl (by simp)) _).setCell (p := ⟨w.heap.size + 1, 1, none⟩) (.inl (by simp)) _)
  · have hr : Hid (kindP F (keepT T G t l p) (spellF F t l) t l p = ⟨0, []⟩) := by
      show kindP F (keepT T G t l p) (spellF F t l) t l p = ⟨0, []⟩
      rw [hKP.out]
      unfold kindP
      simp [e]
    have hC : Hid (Calls Try.prog 106 #[.pointer (some ⟨pa, 0, none⟩)] w10 fun e w' => PostR w6.heap.size w10 (⟨0, []⟩) e w') := silentR hA10.out hsz
    obtain ⟨rr, hrr⟩ : ∃ rr : PostC, rr = (⟨0, []⟩ : PostC) := ⟨_, rfl⟩
    rw [← hrr] at hr hC
    clear hrr
    have hcell : w10.cell? ⟨bk, 1, none⟩ = some (.func (.func 106) #[] #[]) := hk10.out.cell (i := 1) rfl
    rw [e] at c6
    replace e := Lib.hid e
    go_wp2_with fail
    refine hC.out.mono ?_
    rintro e w11 ⟨v', rfl, hO, hbe, hku⟩
    have k11 := Lib.hid (hku _ _ _ k10.out (by decide) (by decide))
    obtain ⟨a11, n11, c11, rfl⟩ : ∃ a n c, v' = .slice a n c := by
      rcases hO with ⟨rfl, _⟩ | ⟨_, _, _, _, rfl, _⟩
      · exact ⟨_, _, _, rfl⟩
      · exact ⟨_, _, _, rfl⟩
    have hfin2 := Lib.hid (fun w12 hT => hfin.out _ _ w11 w12 hO hbe hT)
    have r0 := k11.out.cell (i := 0) rfl
    have r1 := k11.out.cell (i := 1) rfl
    have rf := k11.out.free
    have rl := k11.out.lt
    clear hO hbe hku hfin hC k10 c0 c1 c2 c3 c6 c7 c8 c9 lt lk
    go_wp2_with fail
    refine postRet 8 (by kernel_rfl) (w.heap.size + 1) _ _ rfl (((k11.out.set 0 _).set 1 (.slice a11 n11 c11)).congr rfl) rfl ?_
    rw [hr.out]
    exact hfin2.out _ (((Touch.refl [w.heap.size + 1] w11).setCell (p := ⟨w.heap.size + 1, 0, none⟩) (.inl (by simp)) _).setCell (p := ⟨w.heap.size + 1, 1, none⟩) (.inl (by simp)) _)
  · have hr : Hid (kindP F (keepT T G t l p) (spellF F t l) t l p = ⟨if numI sp.sd t l 0 % 4 = 0 then turnS p.s else p.s, p.R⟩) := by
      show kindP F (keepT T G t l p) (spellF F t l) t l p = ⟨if numI sp.sd t l 0 % 4 = 0 then turnS p.s else p.s, p.R⟩
      rw [hKP.out]
      unfold kindP
      simp [e]
    have hC : Hid (Calls Try.prog 107 #[.pointer (some ⟨pa, 0, none⟩)] w10 fun e w' => PostR w6.heap.size w10 (⟨if numI sp.sd t l 0 % 4 = 0 then turnS p.s else p.s, p.R⟩) e w') := turnedR hA10.out hsz
    obtain ⟨rr, hrr⟩ : ∃ rr : PostC, rr = (⟨if numI sp.sd t l 0 % 4 = 0 then turnS p.s else p.s, p.R⟩ : PostC) := ⟨_, rfl⟩
    rw [← hrr] at hr hC
    clear hrr
    have hcell : w10.cell? ⟨bk, 2, none⟩ = some (.func (.func 107) #[] #[]) := hk10.out.cell (i := 2) rfl
    rw [e] at c6
    replace e := Lib.hid e
    go_wp2_with fail
    refine hC.out.mono ?_
    rintro e w11 ⟨v', rfl, hO, hbe, hku⟩
    have k11 := Lib.hid (hku _ _ _ k10.out (by decide) (by decide))
    obtain ⟨a11, n11, c11, rfl⟩ : ∃ a n c, v' = .slice a n c := by
      rcases hO with ⟨rfl, _⟩ | ⟨_, _, _, _, rfl, _⟩
      · exact ⟨_, _, _, rfl⟩
      · exact ⟨_, _, _, rfl⟩
    have hfin2 := Lib.hid (fun w12 hT => hfin.out _ _ w11 w12 hO hbe hT)
    have r0 := k11.out.cell (i := 0) rfl
    have r1 := k11.out.cell (i := 1) rfl
    have rf := k11.out.free
    have rl := k11.out.lt
    clear hO hbe hku hfin hC k10 c0 c1 c2 c3 c6 c7 c8 c9 lt lk
    go_wp2_with fail
    refine postRet 8 (by kernel_rfl) (w.heap.size + 1) _ _ rfl (((k11.out.set 0 _).set 1 (.slice a11 n11 c11)).congr rfl) rfl ?_
    rw [hr.out]
    exact hfin2.out _ (((Touch.refl [w.heap.size + 1] w11).setCell (p := ⟨w.heap.size + 1, 0, none⟩) (.inl (by simp)) _).setCell (p := ⟨w.heap.size + 1, 1, none⟩) (.inl (by simp)) _)
  · have hr : Hid (kindP F (keepT T G t l p) (spellF F t l) t l p = noiseC sp.sd t l F.m p.R) := by
      show kindP F (keepT T G t l p) (spellF F t l) t l p = noiseC sp.sd t l F.m p.R
      rw [hKP.out]
      unfold kindP
      simp [e]
    have hC : Hid (Calls Try.prog 108 #[.pointer (some ⟨pa, 0, none⟩)] w10 fun e w' => PostR w6.heap.size w10 (noiseC sp.sd t l F.m p.R) e w') := noiseR hA10.out hsz F.m hFm hmo.out (by omega)
    obtain ⟨rr, hrr⟩ : ∃ rr : PostC, rr = (noiseC sp.sd t l F.m p.R : PostC) := ⟨_, rfl⟩
    rw [← hrr] at hr hC
    clear hrr
    have hcell : w10.cell? ⟨bk, 3, none⟩ = some (.func (.func 108) #[] #[]) := hk10.out.cell (i := 3) rfl
    rw [e] at c6
    replace e := Lib.hid e
    go_wp2_with fail
    refine hC.out.mono ?_
    rintro e w11 ⟨v', rfl, hO, hbe, hku⟩
    have k11 := Lib.hid (hku _ _ _ k10.out (by decide) (by decide))
    obtain ⟨a11, n11, c11, rfl⟩ : ∃ a n c, v' = .slice a n c := by
      rcases hO with ⟨rfl, _⟩ | ⟨_, _, _, _, rfl, _⟩
      · exact ⟨_, _, _, rfl⟩
      · exact ⟨_, _, _, rfl⟩
    have hfin2 := Lib.hid (fun w12 hT => hfin.out _ _ w11 w12 hO hbe hT)
    have r0 := k11.out.cell (i := 0) rfl
    have r1 := k11.out.cell (i := 1) rfl
    have rf := k11.out.free
    have rl := k11.out.lt
    clear hO hbe hku hfin hC k10 c0 c1 c2 c3 c6 c7 c8 c9 lt lk
    go_wp2_with fail
    refine postRet 8 (by kernel_rfl) (w.heap.size + 1) _ _ rfl (((k11.out.set 0 _).set 1 (.slice a11 n11 c11)).congr rfl) rfl ?_
    rw [hr.out]
    exact hfin2.out _ (((Touch.refl [w.heap.size + 1] w11).setCell (p := ⟨w.heap.size + 1, 0, none⟩) (.inl (by simp)) _).setCell (p := ⟨w.heap.size + 1, 1, none⟩) (.inl (by simp)) _)
  · have hr : Hid (kindP F (keepT T G t l p) (spellF F t l) t l p = lateC (keepT T G t l p) t l sp.sd) := by
      show kindP F (keepT T G t l p) (spellF F t l) t l p = lateC (keepT T G t l p) t l sp.sd
      rw [hKP.out]
      unfold kindP
      simp [e]
    have hC : Hid (Calls Try.prog 109 #[.pointer (some ⟨pa, 0, none⟩)] w10 fun e w' => PostR w6.heap.size w10 (lateC (keepT T G t l p) t l sp.sd) e w') := lateR hA10.out hsz hM10.out hl'.out ht'.out hsd.out
    obtain ⟨rr, hrr⟩ : ∃ rr : PostC, rr = (lateC (keepT T G t l p) t l sp.sd : PostC) := ⟨_, rfl⟩
    rw [← hrr] at hr hC
    clear hrr
    have hcell : w10.cell? ⟨bk, 4, none⟩ = some (.func (.func 109) #[] #[]) := hk10.out.cell (i := 4) rfl
    rw [e] at c6
    replace e := Lib.hid e
    go_wp2_with fail
    refine hC.out.mono ?_
    rintro e w11 ⟨v', rfl, hO, hbe, hku⟩
    have k11 := Lib.hid (hku _ _ _ k10.out (by decide) (by decide))
    obtain ⟨a11, n11, c11, rfl⟩ : ∃ a n c, v' = .slice a n c := by
      rcases hO with ⟨rfl, _⟩ | ⟨_, _, _, _, rfl, _⟩
      · exact ⟨_, _, _, rfl⟩
      · exact ⟨_, _, _, rfl⟩
    have hfin2 := Lib.hid (fun w12 hT => hfin.out _ _ w11 w12 hO hbe hT)
    have r0 := k11.out.cell (i := 0) rfl
    have r1 := k11.out.cell (i := 1) rfl
    have rf := k11.out.free
    have rl := k11.out.lt
    clear hO hbe hku hfin hC k10 c0 c1 c2 c3 c6 c7 c8 c9 lt lk
    go_wp2_with fail
    refine postRet 8 (by kernel_rfl) (w.heap.size + 1) _ _ rfl (((k11.out.set 0 _).set 1 (.slice a11 n11 c11)).congr rfl) rfl ?_
    rw [hr.out]
    exact hfin2.out _ (((Touch.refl [w.heap.size + 1] w11).setCell (p := ⟨w.heap.size + 1, 0, none⟩) (.inl (by simp)) _).setCell (p := ⟨w.heap.size + 1, 1, none⟩) (.inl (by simp)) _)
  · have hr : Hid (kindP F (keepT T G t l p) (spellF F t l) t l p = ⟨p.s, p.R.mapIdx (lieR l sp.sd)⟩) := by
      show kindP F (keepT T G t l p) (spellF F t l) t l p = ⟨p.s, p.R.mapIdx (lieR l sp.sd)⟩
      rw [hKP.out]
      unfold kindP
      simp [e]
    have hC : Hid (Calls Try.prog 110 #[.pointer (some ⟨pa, 0, none⟩)] w10 fun e w' => PostR w6.heap.size w10 (⟨p.s, p.R.mapIdx (lieR l sp.sd)⟩) e w') := liesR hA10.out hsz hl'.out hsd.out (by omega)
    obtain ⟨rr, hrr⟩ : ∃ rr : PostC, rr = (⟨p.s, p.R.mapIdx (lieR l sp.sd)⟩ : PostC) := ⟨_, rfl⟩
    rw [← hrr] at hr hC
    clear hrr
    have hcell : w10.cell? ⟨bk, 5, none⟩ = some (.func (.func 110) #[] #[]) := hk10.out.cell (i := 5) rfl
    rw [e] at c6
    replace e := Lib.hid e
    go_wp2_with fail
    refine hC.out.mono ?_
    rintro e w11 ⟨v', rfl, hO, hbe, hku⟩
    have k11 := Lib.hid (hku _ _ _ k10.out (by decide) (by decide))
    obtain ⟨a11, n11, c11, rfl⟩ : ∃ a n c, v' = .slice a n c := by
      rcases hO with ⟨rfl, _⟩ | ⟨_, _, _, _, rfl, _⟩
      · exact ⟨_, _, _, rfl⟩
      · exact ⟨_, _, _, rfl⟩
    have hfin2 := Lib.hid (fun w12 hT => hfin.out _ _ w11 w12 hO hbe hT)
    have r0 := k11.out.cell (i := 0) rfl
    have r1 := k11.out.cell (i := 1) rfl
    have rf := k11.out.free
    have rl := k11.out.lt
    clear hO hbe hku hfin hC k10 c0 c1 c2 c3 c6 c7 c8 c9 lt lk
    go_wp2_with fail
    refine postRet 8 (by kernel_rfl) (w.heap.size + 1) _ _ rfl (((k11.out.set 0 _).set 1 (.slice a11 n11 c11)).congr rfl) rfl ?_
    rw [hr.out]
    exact hfin2.out _ (((Touch.refl [w.heap.size + 1] w11).setCell (p := ⟨w.heap.size + 1, 0, none⟩) (.inl (by simp)) _).setCell (p := ⟨w.heap.size + 1, 1, none⟩) (.inl (by simp)) _)
  · have hr : Hid (kindP F (keepT T G t l p) (spellF F t l) t l p = ⟨p.s, p.R.mapIdx (forgeR l)⟩) := by
      show kindP F (keepT T G t l p) (spellF F t l) t l p = ⟨p.s, p.R.mapIdx (forgeR l)⟩
      rw [hKP.out]
      unfold kindP
      simp [e]
    have hC : Hid (Calls Try.prog 111 #[.pointer (some ⟨pa, 0, none⟩)] w10 fun e w' => PostR w6.heap.size w10 (⟨p.s, p.R.mapIdx (forgeR l)⟩) e w') := forgesR hA10.out hsz hl'.out hsd.out (by omega)
    obtain ⟨rr, hrr⟩ : ∃ rr : PostC, rr = (⟨p.s, p.R.mapIdx (forgeR l)⟩ : PostC) := ⟨_, rfl⟩
    rw [← hrr] at hr hC
    clear hrr
    have hcell : w10.cell? ⟨bk, 6, none⟩ = some (.func (.func 111) #[] #[]) := hk10.out.cell (i := 6) rfl
    rw [e] at c6
    replace e := Lib.hid e
    go_wp2_with fail
    refine hC.out.mono ?_
    rintro e w11 ⟨v', rfl, hO, hbe, hku⟩
    have k11 := Lib.hid (hku _ _ _ k10.out (by decide) (by decide))
    obtain ⟨a11, n11, c11, rfl⟩ : ∃ a n c, v' = .slice a n c := by
      rcases hO with ⟨rfl, _⟩ | ⟨_, _, _, _, rfl, _⟩
      · exact ⟨_, _, _, rfl⟩
      · exact ⟨_, _, _, rfl⟩
    have hfin2 := Lib.hid (fun w12 hT => hfin.out _ _ w11 w12 hO hbe hT)
    have r0 := k11.out.cell (i := 0) rfl
    have r1 := k11.out.cell (i := 1) rfl
    have rf := k11.out.free
    have rl := k11.out.lt
    clear hO hbe hku hfin hC k10 c0 c1 c2 c3 c6 c7 c8 c9 lt lk
    go_wp2_with fail
    refine postRet 8 (by kernel_rfl) (w.heap.size + 1) _ _ rfl (((k11.out.set 0 _).set 1 (.slice a11 n11 c11)).congr rfl) rfl ?_
    rw [hr.out]
    exact hfin2.out _ (((Touch.refl [w.heap.size + 1] w11).setCell (p := ⟨w.heap.size + 1, 0, none⟩) (.inl (by simp)) _).setCell (p := ⟨w.heap.size + 1, 1, none⟩) (.inl (by simp)) _)
  · have hr : Hid (kindP F (keepT T G t l p) (spellF F t l) t l p = if l % 2 = 0 then p else ⟨0, []⟩) := by
      show kindP F (keepT T G t l p) (spellF F t l) t l p = if l % 2 = 0 then p else ⟨0, []⟩
      rw [hKP.out]
      unfold kindP
      simp [e]
    have hC : Hid (Calls Try.prog 112 #[.pointer (some ⟨pa, 0, none⟩)] w10 fun e w' => PostR w6.heap.size w10 (if l % 2 = 0 then p else ⟨0, []⟩) e w') := halfR hA10.out hsz hl'.out.1
    obtain ⟨rr, hrr⟩ : ∃ rr : PostC, rr = (if l % 2 = 0 then p else ⟨0, []⟩ : PostC) := ⟨_, rfl⟩
    rw [← hrr] at hr hC
    clear hrr
    have hcell : w10.cell? ⟨bk, 7, none⟩ = some (.func (.func 112) #[] #[]) := hk10.out.cell (i := 7) rfl
    rw [e] at c6
    replace e := Lib.hid e
    go_wp2_with fail
    refine hC.out.mono ?_
    rintro e w11 ⟨v', rfl, hO, hbe, hku⟩
    have k11 := Lib.hid (hku _ _ _ k10.out (by decide) (by decide))
    obtain ⟨a11, n11, c11, rfl⟩ : ∃ a n c, v' = .slice a n c := by
      rcases hO with ⟨rfl, _⟩ | ⟨_, _, _, _, rfl, _⟩
      · exact ⟨_, _, _, rfl⟩
      · exact ⟨_, _, _, rfl⟩
    have hfin2 := Lib.hid (fun w12 hT => hfin.out _ _ w11 w12 hO hbe hT)
    have r0 := k11.out.cell (i := 0) rfl
    have r1 := k11.out.cell (i := 1) rfl
    have rf := k11.out.free
    have rl := k11.out.lt
    clear hO hbe hku hfin hC k10 c0 c1 c2 c3 c6 c7 c8 c9 lt lk
    go_wp2_with fail
    refine postRet 8 (by kernel_rfl) (w.heap.size + 1) _ _ rfl (((k11.out.set 0 _).set 1 (.slice a11 n11 c11)).congr rfl) rfl ?_
    rw [hr.out]
    exact hfin2.out _ (((Touch.refl [w.heap.size + 1] w11).setCell (p := ⟨w.heap.size + 1, 0, none⟩) (.inl (by simp)) _).setCell (p := ⟨w.heap.size + 1, 1, none⟩) (.inl (by simp)) _)
  · have hr : Hid (kindP F (keepT T G t l p) (spellF F t l) t l p = ⟨frameS sp.sd sp.fr t, p.R⟩) := by
      show kindP F (keepT T G t l p) (spellF F t l) t l p = ⟨frameS sp.sd sp.fr t, p.R⟩
      rw [hKP.out]
      unfold kindP
      simp [e]
    have hC : Hid (Calls Try.prog 113 #[.pointer (some ⟨pa, 0, none⟩)] w10 fun e w' => PostR w6.heap.size w10 (⟨frameS sp.sd sp.fr t, p.R⟩) e w') := frameR hA10.out hsz hsd.out
    obtain ⟨rr, hrr⟩ : ∃ rr : PostC, rr = (⟨frameS sp.sd sp.fr t, p.R⟩ : PostC) := ⟨_, rfl⟩
    rw [← hrr] at hr hC
    clear hrr
    have hcell : w10.cell? ⟨bk, 8, none⟩ = some (.func (.func 113) #[] #[]) := hk10.out.cell (i := 8) rfl
    rw [e] at c6
    replace e := Lib.hid e
    go_wp2_with fail
    refine hC.out.mono ?_
    rintro e w11 ⟨v', rfl, hO, hbe, hku⟩
    have k11 := Lib.hid (hku _ _ _ k10.out (by decide) (by decide))
    obtain ⟨a11, n11, c11, rfl⟩ : ∃ a n c, v' = .slice a n c := by
      rcases hO with ⟨rfl, _⟩ | ⟨_, _, _, _, rfl, _⟩
      · exact ⟨_, _, _, rfl⟩
      · exact ⟨_, _, _, rfl⟩
    have hfin2 := Lib.hid (fun w12 hT => hfin.out _ _ w11 w12 hO hbe hT)
    have r0 := k11.out.cell (i := 0) rfl
    have r1 := k11.out.cell (i := 1) rfl
    have rf := k11.out.free
    have rl := k11.out.lt
    clear hO hbe hku hfin hC k10 c0 c1 c2 c3 c6 c7 c8 c9 lt lk
    go_wp2_with fail
    refine postRet 8 (by kernel_rfl) (w.heap.size + 1) _ _ rfl (((k11.out.set 0 _).set 1 (.slice a11 n11 c11)).congr rfl) rfl ?_
    rw [hr.out]
    exact hfin2.out _ (((Touch.refl [w.heap.size + 1] w11).setCell (p := ⟨w.heap.size + 1, 0, none⟩) (.inl (by simp)) _).setCell (p := ⟨w.heap.size + 1, 1, none⟩) (.inl (by simp)) _)
/-- Says. -/
theorem saysR (h : MouthIs M w pm bt bl c f F T G) (hF : FaultOk F) (hOld : OldOut T G) (hc : c < 900000000) (t l : Int) (p : PostC) (hp : PostOk p) (v : Value) (hw : WordAt 0 w v p.R) :
    Calls Try.prog 17 #[.pointer (some ⟨pm, 0, none⟩), .int .i64 t, .int .i64 l, .agg #[.int .u8 p.s, v]] w fun e w' => SaysR M w pm bt bl c F (saysT F T G t l p) (saysG F G t l) (saysP F T G t l p) e w' := by
  cases hi : isF F l with
  | false => exact saysNot h hF t l p hp v hw hi
  | true =>
    by_cases ht : 0 ≤ t ∧ t ≤ 1099511627776
    · exact saysIn h hF hOld hc t l p hp v hw hi ht
    · exact saysOut h hF t l p v (by obtain ⟨a, n, k, _, rfl, _⟩ := hw.len; exact ⟨a, n, k, rfl⟩) hi (by omega)
end
end Go.Proofs.Ytmdohnbhogfopaa
