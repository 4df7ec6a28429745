/- FramesPut: the walk. -/
import Derived.Test.YtlhiamgaobbdnaaFramesI
import Derived.Test.YtlhiamgaobbdnaaFramesL
import Derived.Test.YtlhiamgaobbdnaaBookF
namespace Go.Proofs.Ytlhiamgaobbdnaa
open Go.RowKit
set_option linter.unusedSimpArgs false
set_option linter.unusedVariables false
set_option maxRecDepth 100000
theorem pay_cells {W : World} {g : Nat} {t : TypeId} {a b c d : Value} (h : Blk W g #[a, b, c, d] t) :
    W.cell? ⟨g, 0, none⟩ = some a ∧ W.cell? ⟨g, 1, none⟩ = some b ∧ W.cell? ⟨g, 2, none⟩ = some c ∧ W.cell? ⟨g, 3, none⟩ = some d :=
  ⟨h.cell (i := 0) rfl, h.cell (i := 1) rfl, h.cell (i := 2) rfl, h.cell (i := 3) rfl⟩
set_option maxHeartbeats 8000000 in
theorem framesPut_any (w : World) (o k st sq v : Int) (wh un : Bool) (hk : 0 ≤ k ∧ k < 256) (hst : 0 ≤ st ∧ st < 256) (hsq : 0 ≤ sq ∧ sq < 4294967296) (hv : 0 ≤ v ∧ v < 4294967296) :
    Calls Try.prog 3 #[.int .i64 o, payV k st sq v, .agg #[.bool wh, .bool un]] w fun e w' => e = .returned (.bool true) ∧ Below w.heap.size w w' := by
  have hlF : lenF o k ≤ 14 := by unfold lenF; split <;> omega
  have hlS : lenS o k ≤ 114 := by unfold lenS; split <;> omega
  have O := Lib.hid (fun W => lawOf W o k st sq v)
  have P1 := Lib.hid (fun W => frPut W o k st sq v hk hst hsq hv)
  have P2 := Lib.hid (fun W => refFrPut W o k st sq v hk hst hsq hv)
  have P3 := Lib.hid (fun W => frSyms W o k st sq v wh un hk hst hsq hv)
  have P4 := Lib.hid (fun W => refFrSyms W o k st sq v wh un hk hst hsq hv)
  have G1 := Lib.hid (fun W => frGood W wh un)
  have G2 := Lib.hid (fun W => refGood W wh un)
  have T1 := Lib.hid (fun W => frTailSyms W wh un)
  have T2 := Lib.hid (fun W => refTailSyms W wh un)
  generalize lenF o k = lF at *
  generalize lenS o k = lS at *
  generalize errF o k = E at *
  generalize frL o k st sq v = FL at *
  generalize frSL o k st sq v wh un = SL at *
  generalize goodB wh un = gd at *
  generalize tailSL wh un = TL at *
  unfold frV tailV payV at *
  clear hk hst hsq hv
  go_enter Try.func3, Try.ntmps3
  go_wp2_with fail
  have hA : Below w.heap.size w (((w.alloc (.cells #[.int .u8 k, .int .u8 st, .int .u32 sq, .int .u32 v] 25)).alloc (.cells #[.bool wh, .bool un] 26)).alloc (.cells #[.int .i64 o, .int .u8 k, .int .u8 st, .int .u32 sq, .int .u32 v] 28)) :=
    (below_alloc _ _).trans (((below_alloc _ _).trans ((below_alloc _ _).mono (by simp))).mono (by simp))
  have hP0 : Blk (((w.alloc (.cells #[.int .u8 k, .int .u8 st, .int .u32 sq, .int .u32 v] 25)).alloc (.cells #[.bool wh, .bool un] 26)).alloc (.cells #[.int .i64 o, .int .u8 k, .int .u8 st, .int .u32 sq, .int .u32 v] 28)) w.heap.size #[.int .u8 k, .int .u8 st, .int .u32 sq, .int .u32 v] 25 := ((Blk.new w _ _).alloc _).alloc _
  have hB0 : Blk (((w.alloc (.cells #[.int .u8 k, .int .u8 st, .int .u32 sq, .int .u32 v] 25)).alloc (.cells #[.bool wh, .bool un] 26)).alloc (.cells #[.int .i64 o, .int .u8 k, .int .u8 st, .int .u32 sq, .int .u32 v] 28)) (w.heap.size + 1) #[.bool wh, .bool un] 26 := by
    have := (Blk.new (w.alloc (.cells #[.int .u8 k, .int .u8 st, .int .u32 sq, .int .u32 v] 25)) #[.bool wh, .bool un] 26).alloc (.cells #[.int .i64 o, .int .u8 k, .int .u8 st, .int .u32 sq, .int .u32 v] 28)
    simpa using this
  have hF0 : Blk (((w.alloc (.cells #[.int .u8 k, .int .u8 st, .int .u32 sq, .int .u32 v] 25)).alloc (.cells #[.bool wh, .bool un] 26)).alloc (.cells #[.int .i64 o, .int .u8 k, .int .u8 st, .int .u32 sq, .int .u32 v] 28)) (w.heap.size + 1 + 1) #[.int .i64 o, .int .u8 k, .int .u8 st, .int .u32 sq, .int .u32 v] 28 := by
    have := Blk.new ((w.alloc (.cells #[.int .u8 k, .int .u8 st, .int .u32 sq, .int .u32 v] 25)).alloc (.cells #[.bool wh, .bool un] 26)) #[.int .i64 o, .int .u8 k, .int .u8 st, .int .u32 sq, .int .u32 v] 28
    simpa using this
  refine calls_abs (fun W => Below w.heap.size w W ∧ Blk W w.heap.size #[.int .u8 k, .int .u8 st, .int .u32 sq, .int .u32 v] 25 ∧ Blk W (w.heap.size + 1) #[.bool wh, .bool un] 26 ∧ Blk W (w.heap.size + 1 + 1) #[.int .i64 o, .int .u8 k, .int .u8 st, .int .u32 sq, .int .u32 v] 28) ⟨hA, hP0, hB0, hF0⟩ ?_
  clear hA hP0 hB0 hF0
  rintro w1 ⟨hb1, hP1, hB1, hF1⟩
  refine (O.out w1).mono ?_
  rintro e w2 ⟨rfl, hb2⟩
  go_wp2_with fail
  refine (P1.out w2).mono ?_
  rintro e w3 ⟨a3, rfl, m3, hb3⟩
  have x3 := Lib.hid m3
  have hb13 := bthen hb2 hb3
  have hP3 := hP1.below hb13 hP1.lt
  have hB3 := hB1.below hb13 hB1.lt
  have hF3 := hF1.below hb13 hF1.lt
  have hs3 := Nat.le_trans hb1.size hb2.size
  have hs3' := hb3.size
  clear m3 hP1 hB1 hF1 hb3 hb2
  obtain ⟨⟨c0, c1, c2, c3, c4⟩, _⟩ := fr_cells hF3
  go_wp2_with fail
  refine (P2.out w3).mono ?_
  rintro e w4 ⟨a4, cc4, rfl, n4, m4, hb4⟩
  have x4 := Lib.hid m4.rd
  have hP4 := hP3.below hb4 hP3.lt
  have hB4 := hB3.below hb4 hB3.lt
  have hF4 := hF3.below hb4 hF3.lt
  clear m4 n4 hP3 hB3 hF3 c0 c1 c2 c3 c4
  have b4 := (tl_cells hB4).1
  obtain ⟨b40, b41⟩ := b4
  have hl4 := hB4.lt
  have hl4f := hF4.lt
  go_wp2_with fail
  have hT5 := (Blk.new w4 #[.bool wh, .bool un] 38).alloc (.cells #[.bool wh, .bool un] 39)
  have hO5 : Blk ((w4.alloc (.cells #[.bool wh, .bool un] 38)).alloc (.cells #[.bool wh, .bool un] 39)) (w4.heap.size + 1) #[.bool wh, .bool un] 39 := by
    have := Blk.new (w4.alloc (.cells #[.bool wh, .bool un] 38)) #[.bool wh, .bool un] 39
    simpa using this
  have hP5 := (hP4.alloc (.cells #[.bool wh, .bool un] 38)).alloc (.cells #[.bool wh, .bool un] 39)
  have hF5 := (hF4.alloc (.cells #[.bool wh, .bool un] 38)).alloc (.cells #[.bool wh, .bool un] 39)
  have hb45 : Below w4.heap.size w4 ((w4.alloc (.cells #[.bool wh, .bool un] 38)).alloc (.cells #[.bool wh, .bool un] 39)) := (below_alloc _ _).trans ((below_alloc _ _).mono (by simp))
  generalize (w4.alloc (.cells #[.bool wh, .bool un] 38)).alloc (.cells #[.bool wh, .bool un] 39) = w5 at *
  clear b40 b41 hB4 hP4 hF4
  have hb35 := bthen hb4 hb45
  have hb05 := bthen hb1 (bthen hb13 hb35)
  have hs5 := hb05.size
  clear hb4 hb1
  replace hT5 := Lib.hid hT5
  replace hO5 := Lib.hid hO5
  replace hP5 := Lib.hid hP5
  replace hF5 := Lib.hid hF5
  have hcl : Hid (∀ W, Blk W w.heap.size #[.int .u8 k, .int .u8 st, .int .u32 sq, .int .u32 v] 25 → Blk W w4.heap.size #[.bool wh, .bool un] 38 →
      (W.cell? ⟨w.heap.size, 0, none⟩ = some (.int .u8 k) ∧ W.cell? ⟨w.heap.size, 1, none⟩ = some (.int .u8 st) ∧ W.cell? ⟨w.heap.size, 2, none⟩ = some (.int .u32 sq) ∧ W.cell? ⟨w.heap.size, 3, none⟩ = some (.int .u32 v)) ∧ W.cell? ⟨w4.heap.size, 0, none⟩ = some (.bool wh) ∧ W.cell? ⟨w4.heap.size, 1, none⟩ = some (.bool un)) := fun W h1 h2 => ⟨pay_cells h1, (tl_cells h2).1⟩
  have d5 := hcl.out _ hP5.out.drew hT5.out.drew
  go_region_held3 (fun W => (W.cell? ⟨w.heap.size, 0, none⟩ = some (.int .u8 k) ∧ W.cell? ⟨w.heap.size, 1, none⟩ = some (.int .u8 st) ∧ W.cell? ⟨w.heap.size, 2, none⟩ = some (.int .u32 sq) ∧ W.cell? ⟨w.heap.size, 3, none⟩ = some (.int .u32 v)) ∧ W.cell? ⟨w4.heap.size, 0, none⟩ = some (.bool wh) ∧ W.cell? ⟨w4.heap.size, 1, none⟩ = some (.bool un))
    (first | exact d5 | exact d6 | exact d7)
    (first
      | (go_at_call 10
         (with_reducible refine (O.out _).mono ?_)
         rintro e w6 ⟨rfl, hb6⟩
         have hP6 := hP5.out.drew.below hb6 hP5.out.drew.lt
         have hT6 := hT5.out.drew.below hb6 hT5.out.drew.lt
         have d6 := hcl.out _ hP6 hT6
         have hb56 := bthen (below_drewN w5 1) hb6)
      | (go_at_call 12
         (with_reducible refine (P3.out _).mono ?_)
         rintro e w7 ⟨a7, rfl, m7, hb7⟩
         have hP7 := hP6.below hb7 hP6.lt
         have hT7 := hT6.below hb7 hT6.lt
         have d7 := hcl.out _ hP7 hT7
         have hb57 := bthen hb56 hb7
         have hs67 := hb56.size
         have hs77 := hb7.size)
      | fail)
  have x7 := Lib.hid m7
  have hO7 := hO5.out.below hb57 hO5.out.lt
  have hF7 := hF5.out.below hb57 hF5.out.lt
  have hb37 := bthen hb35 hb57
  have hb47 := bthen hb45 hb57
  have hb07 := bthen hb05 hb57
  clear hb45 m7 hP7 hP6 hT6 d5 d6 d7 hP5 hT5 hO5 hF5 hb6 hb7 hb56 hb57 hb35 hb05 O P1 P2 P3 hcl
  obtain ⟨⟨c0, c1, c2, c3, c4⟩, _⟩ := fr_cells hF7
  obtain ⟨⟨e0, e1⟩, _⟩ := tl_cells hO7
  go_wp2_with fail
  refine (P4.out w7).mono ?_
  rintro e w8 ⟨a8, cc8, rfl, r8, hb8⟩
  have x8 := Lib.hid r8
  have hT8 := Lib.hid (hT7.below hb8 hT7.lt)
  have hO8 := Lib.hid (hO7.below hb8 hO7.lt)
  have hb38 := bthen hb37 hb8
  have hb08 := bthen hb07 hb8
  have y3 := Lib.hid (x3.out.below hb38 (Nat.le_refl _))
  have y4 := Lib.hid (x4.out.below (bthen hb47 hb8) (Nat.le_refl _))
  have y7 := Lib.hid (x7.out.rd.below hb8 (Nat.le_refl _))
  have hu3 := Lib.hid (x3.out.held.below hb38 (Nat.le_refl _))
  have hu7 := Lib.hid (x7.out.held.below hb8 (Nat.le_refl _))
  have hs37 := hb37.size
  have hs8 := hb8.size
  clear c0 c1 c2 c3 c4 e0 e1 x3 x4 x7 hT7 hO7 hF7 P4 r8 hb37 hb47 hb38 hb07 hl4 hl4f hb8
  have hcl : Hid (∀ W, Blk W w4.heap.size #[.bool wh, .bool un] 38 → Blk W (w4.heap.size + 1) #[.bool wh, .bool un] 39 →
      (W.cell? ⟨w4.heap.size, 0, none⟩ = some (.bool wh) ∧ W.cell? ⟨w4.heap.size, 1, none⟩ = some (.bool un)) ∧ W.cell? ⟨w4.heap.size + 1, 0, none⟩ = some (.bool wh) ∧ W.cell? ⟨w4.heap.size + 1, 1, none⟩ = some (.bool un)) := fun W h1 h2 => ⟨(tl_cells h1).1, (tl_cells h2).1⟩
  have d8 := hcl.out _ hT8.out.drew hO8.out.drew
  have ee : (E != E) = false := by simp
  have eg : (gd != gd) = false := by simp
  go_wp2_with fail
  go_region_held3 (fun W => (W.cell? ⟨w4.heap.size, 0, none⟩ = some (.bool wh) ∧ W.cell? ⟨w4.heap.size, 1, none⟩ = some (.bool un)) ∧ W.cell? ⟨w4.heap.size + 1, 0, none⟩ = some (.bool wh) ∧ W.cell? ⟨w4.heap.size + 1, 1, none⟩ = some (.bool un))
    (first | exact d8 | exact d9 | exact d10 | exact d11 | exact d12 | exact d13 | exact d14 | exact d15)
    (first
      | (go_at_call 14
         refine (sameBytes _ _ _ _ _ _ _ y3.out.rd.drew y4.out.drew (by omega)).mono ?_
         rintro e w9 ⟨rfl, q9, rfl⟩
         have hb89 := bthen (below_drewN w8 1) (below_drewN w8.drew q9)
         have hT9 := hT8.out.drew.drewN q9
         have hO9 := hO8.out.drew.drewN q9
         have z7 := (y7.out.drew).drewN q9
         have z8 := (x8.out.drew).drewN q9
         generalize w8.drew.drewN q9 = w9 at *
         have d9 := hcl.out _ hT9 hO9)
      | (go_at_call 15
         (with_reducible refine (sameSyms w9 _ _ _ _ _ _ z7 z8 (by omega)).mono ?_)
         rintro e w10 ⟨rfl, q10, rfl⟩
         have hb910 := bthen hb89 (below_drewN w9 q10)
         have hT10 := hT9.drewN q10
         have hO10 := hO9.drewN q10
         generalize w9.drewN q10 = w10 at *
         have d10 := hcl.out _ hT10 hO10)
      | (go_at_call 16
         (with_reducible refine (G1.out _).mono ?_)
         rintro e w11 ⟨rfl, hb11⟩
         have hT11 := hT10.below hb11 hT10.lt
         have hO11 := hO10.below hb11 hO10.lt
         have d11 := hcl.out _ hT11 hO11
         have hb811 := bthen hb910 hb11)
      | (go_at_call 17
         (with_reducible refine (G2.out _).mono ?_)
         rintro e w12 ⟨rfl, hb12⟩
         have hT12 := hT11.below hb12 hT11.lt
         have hO12 := hO11.below hb12 hO11.lt
         have d12 := hcl.out _ hT12 hO12
         have hb812 := bthen hb811 hb12)
      | (go_at_call 18
         (with_reducible refine (T1.out _).mono ?_)
         rintro e w13 ⟨a13, rfl, m13, hb13⟩
         have hT13 := hT12.below hb13 hT12.lt
         have hO13 := hO12.below hb13 hO12.lt
         have d13 := hcl.out _ hT13 hO13
         have hb813 := bthen hb812 hb13)
      | (go_at_call 19
         (with_reducible refine (T2.out _).mono ?_)
         rintro e w14 ⟨g14, rfl, m14, hb14⟩
         have hT14 := hT13.below hb14 hT13.lt
         have hO14 := hO13.below hb14 hO13.lt
         have d14 := hcl.out _ hT14 hO14
         have z13 := m13.rd.below hb14 (Nat.le_refl _)
         have z14 := m14.rd
         have hb814 := bthen hb813 hb14)
      | (go_at_call 15
         (with_reducible refine (sameSyms w14 _ _ _ _ _ _ z13 z14 (by omega)).mono ?_)
         rintro e w15 ⟨rfl, q15, rfl⟩
         have hb815 := bthen hb814 (below_drewN w14 q15)
         have hT15 := hT14.drewN q15
         have hO15 := hO14.drewN q15
         generalize w14.drewN q15 = w15 at *
         have d15 := hcl.out _ hT15 hO15)
      | fail)
  have hu315 := Lib.hid (hu3.out.below hb815 (Nat.le_refl _))
  have hu715 := Lib.hid (hu7.out.below hb815 (Nat.le_refl _))
  have hT15' := Lib.hid hT15
  have hb015 := bthen hb08 hb815
  have hs0 := hb015.size
  have hs815 := hb815.size
  clear hT8 hO8 hT9 hO9 hT10 hO10 hT11 hO11 hT12 hO12 hT13 hO13 hT14 hO14 hT15 hO15 hb89 hb910 hb11 hb811 hb12 hb812 hb13 hb813 hb14 hb814 hb815 hb08 z7 z8 z13 z14 m13 m14 d8 d9 d10 d11 d12 d13 d14 d15 hcl hu3 hu7 G1 G2 T2 y3 y4 y7 x8
  go_wp2_with fail
  refine calls_abs (fun W => Below w15.heap.size w15 W ∧ Shelf w.heap.size W w15.heap.size [] [] [] w.heap.size w.heap.size w.heap.size) ⟨below_alloc _ _, shelfNew hs0⟩ ?_
  rintro w16 ⟨hb16, k16⟩
  have u16 := hu315.out.below hb16 (Nat.le_refl _)
  have v16 := hu715.out.below hb16 (Nat.le_refl _)
  have t16 := hT15'.out.below hb16 hT15'.out.lt
  clear hu315 hu715 hT15'
  refine (shelfBytes k16 u16 (by omega) (by omega) (by omega) (by simp)).mono ?_
  rintro e w17 ⟨rfl, k17, hb17, bk17⟩
  have v17 := v16.to (w' := w17) fun g cur hc => bk17 g cur _ hc (by decide) (by decide) (by decide) (by decide)
  have t17 := bk17 _ _ _ t16 (by decide) (by decide) (by decide) (by decide)
  have hb017 := (bthen hb015 hb16).trans hb17
  have hz17 := Nat.le_trans hb16.size hb17.size
  clear u16 v16 t16 k16 hb17 bk17 hb16
  go_wp2_with fail
  refine (shelfSyms k17 v17 (by omega) (by omega) (by omega) (by simp)).mono ?_
  rintro e w18 ⟨rfl, k18, hb18, bk18⟩
  have t18 := bk18 _ _ _ t17 (by decide) (by decide) (by decide) (by decide)
  have hb018 := hb017.trans hb18
  have hz18 := hb18.size
  clear v17 t17 k17 hb18 bk18 hb017
  obtain ⟨⟨e0, e1⟩, _⟩ := tl_cells t18
  go_wp2_with fail
  refine (T1.out w18).mono ?_
  rintro e w19 ⟨a19, rfl, m19, hb19⟩
  have k19 := k18.below hb19
  have hb019 := bthen hb018 hb19
  have hz19 := hb19.size
  have hz018 := hb018.size
  clear k18 t18 e0 e1 hb19 hb018
  go_wp2_with fail
  refine (shelfSyms k19 m19.held (by omega) (by omega) (by omega) (by simp)).mono ?_
  rintro e w20 ⟨rfl, k20, hb20, bk20⟩
  have hb020 := hb019.trans hb20
  have hs20 := hb020.size
  clear k19 m19 hb20 bk20 hb019
  go_wp2_with fail
  refine (shelfApart k20 hs20).mono ?_
  rintro e w21 ⟨rfl, hb21⟩
  have hb021 := hb020.trans hb21
  clear k20 hb21
  go_wp2_with fail
  refine (lives05 _).mono ?_
  rintro e wx ⟨rfl, hbL⟩
  go_wp2_with fail
  go_ret
  exact ⟨rfl, bthen hb021 hbL⟩
end Go.Proofs.Ytlhiamgaobbdnaa
