/- FramesBack: the walk. -/
import Derived.Test.YtlhiamgaobbdnaaFramesBackL
import Derived.Test.YtlhiamgaobbdnaaFramesE
namespace Go.Proofs.Ytlhiamgaobbdnaa
open Go.RowKit
set_option linter.unusedSimpArgs false
set_option linter.unusedVariables false
set_option maxRecDepth 100000
theorem arr8_cells {W : World} {g : Nat} {t : TypeId} {a b c d e f h i : Value} (hB : Blk W g #[a, b, c, d, e, f, h, i] t) :
    (W.cell? ⟨g, 0, none⟩ = some a ∧ W.cell? ⟨g, 1, none⟩ = some b ∧ W.cell? ⟨g, 2, none⟩ = some c ∧ W.cell? ⟨g, 3, none⟩ = some d) ∧ W.cell? ⟨g, 4, none⟩ = some e ∧ W.cell? ⟨g, 5, none⟩ = some f ∧ W.cell? ⟨g, 6, none⟩ = some h ∧ W.cell? ⟨g, 7, none⟩ = some i :=
  ⟨⟨hB.cell (i := 0) rfl, hB.cell (i := 1) rfl, hB.cell (i := 2) rfl, hB.cell (i := 3) rfl⟩, hB.cell (i := 4) rfl, hB.cell (i := 5) rfl, hB.cell (i := 6) rfl, hB.cell (i := 7) rfl⟩
/-- The three boxes of the arguments. -/
def Boxes (w W : World) (o0 o1 k0 s0 q0 v0 k1 s1 q1 v1 : Int) (wh un : Bool) : Prop :=
  Blk W w.heap.size #[.int .i64 o0, .int .i64 o1] 71 ∧ Blk W (w.heap.size + 1) #[.int .u8 k0, .int .u8 s0, .int .u32 q0, .int .u32 v0, .int .u8 k1, .int .u8 s1, .int .u32 q1, .int .u32 v1] 72 ∧ Blk W (w.heap.size + 1 + 1) #[.bool wh, .bool un] 26
theorem Boxes.below {w W W' : World} {o0 o1 k0 s0 q0 v0 k1 s1 q1 v1 : Int} {wh un : Bool} (h : Boxes w W o0 o1 k0 s0 q0 v0 k1 s1 q1 v1 wh un) (hb : Below W.heap.size W W') : Boxes w W' o0 o1 k0 s0 q0 v0 k1 s1 q1 v1 wh un :=
  ⟨h.1.below hb h.1.lt, h.2.1.below hb h.2.1.lt, h.2.2.below hb h.2.2.lt⟩
set_option maxHeartbeats 8000000 in
theorem framesBack_any (w : World) (o0 o1 k0 s0 q0 v0 k1 s1 q1 v1 : Int) (wh un : Bool) (hk0 : 0 ≤ k0 ∧ k0 < 256) (hs0 : 0 ≤ s0 ∧ s0 < 256) (hq0 : 0 ≤ q0 ∧ q0 < 4294967296) (hv0 : 0 ≤ v0 ∧ v0 < 4294967296) (hk1 : 0 ≤ k1 ∧ k1 < 256) (hs1 : 0 ≤ s1 ∧ s1 < 256) (hq1 : 0 ≤ q1 ∧ q1 < 4294967296) (hv1 : 0 ≤ v1 ∧ v1 < 4294967296) :
    Calls Try.prog 7 #[.agg #[.int .i64 o0, .int .i64 o1], .agg #[.int .u8 k0, .int .u8 s0, .int .u32 q0, .int .u32 v0, .int .u8 k1, .int .u8 s1, .int .u32 q1, .int .u32 v1], .agg #[.bool wh, .bool un]] w fun e w' => e = .returned (.bool true) ∧ Below w.heap.size w w' := by
  have O0 := Lib.hid (fun W => lawOf W o0 k0 s0 q0 v0)
  have O1 := Lib.hid (fun W => lawOf W o1 k1 s1 q1 v1)
  have P0 := Lib.hid (fun W => frPut W o0 k0 s0 q0 v0 hk0 hs0 hq0 hv0)
  have P1 := Lib.hid (fun W => frPut W o1 k1 s1 q1 v1 hk1 hs1 hq1 hv1)
  have hE0 : Hid (errF o0 k0 = if mayB o0 k0 then 0 else 1) := by show errF o0 k0 = _; rfl
  have hl0 : Hid (lenF o0 k0 = if mayB o0 k0 then 14 else 0) := by show lenF o0 k0 = _; rfl
  have hE1 : Hid (errF o1 k1 = if mayB o1 k1 then 0 else 1) := by show errF o1 k1 = _; rfl
  have hl1 : Hid (lenF o1 k1 = if mayB o1 k1 then 14 else 0) := by show lenF o1 k1 = _; rfl
  generalize errF o0 k0 = E0 at *
  generalize errF o1 k1 = E1 at *
  generalize lenF o0 k0 = l0 at *
  generalize lenF o1 k1 = l1 at *
  unfold frV payV at *
  go_enter Try.func7, Try.ntmps7
  go_wp2_with fail
  refine calls_abs (fun W => Below w.heap.size w W ∧ Boxes w W o0 o1 k0 s0 q0 v0 k1 s1 q1 v1 wh un) ⟨?_, ?_, ?_, ?_⟩ ?_
  · exact (below_alloc _ _).trans (((below_alloc _ _).trans ((below_alloc _ _).mono (by simp))).mono (by simp))
  · exact ((Blk.new w _ _).alloc _).alloc _
  · have := (Blk.new (w.alloc (.cells #[.int .i64 o0, .int .i64 o1] 71)) #[.int .u8 k0, .int .u8 s0, .int .u32 q0, .int .u32 v0, .int .u8 k1, .int .u8 s1, .int .u32 q1, .int .u32 v1] 72).alloc (.cells #[.bool wh, .bool un] 26)
    simpa using this
  · have := Blk.new ((w.alloc (.cells #[.int .i64 o0, .int .i64 o1] 71)).alloc (.cells #[.int .u8 k0, .int .u8 s0, .int .u32 q0, .int .u32 v0, .int .u8 k1, .int .u8 s1, .int .u32 q1, .int .u32 v1] 72)) #[.bool wh, .bool un] 26
    simpa using this
  rintro w1 ⟨hb1, hX1⟩
  refine (O0.out w1).mono ?_
  rintro e w2 ⟨rfl, hb2⟩
  go_wp2_with fail
  refine (P0.out w2).mono ?_
  rintro e w3 ⟨a0, rfl, m0, hb3⟩
  have x0 := Lib.hid m0.rd
  have n0 := Lib.hid (show a0 = none → l0 = 0 from fun e => (m0.none e).1)
  have hb03 := bthen (bthen hb1 hb2) hb3
  have hX3 := (hX1.below hb2).below hb3
  clear m0 hb1 hb2 hb3 hX1
  obtain ⟨⟨i0, i1⟩, _⟩ := tl_cells hX3.1
  obtain ⟨⟨c0, c1, c2, c3⟩, c4, c5, c6, c7⟩ := arr8_cells hX3.2.1
  go_wp2_with fail
  refine (O1.out w3).mono ?_
  rintro e w4 ⟨rfl, hb4⟩
  clear i0 i1 c0 c1 c2 c3 c4 c5 c6 c7
  go_wp2_with fail
  refine (P1.out w4).mono ?_
  rintro e w5 ⟨a1, rfl, m1, hb5⟩
  have hb35 := bthen hb4 hb5
  have hX5 := hX3.below hb35
  have hb05 := bthen hb03 hb35
  have x1 := Lib.hid m1.rd
  have y0 := Lib.hid (x0.out.below hb35 (Nat.le_refl _))
  clear m1 hb4 hb5 hb35 hX3 hb03 x0 O1 P0 P1
  obtain ⟨⟨i0, i1⟩, _⟩ := tl_cells hX5.1
  obtain ⟨⟨c0, c1, c2, c3⟩, c4, c5, c6, c7⟩ := arr8_cells hX5.2.1
  go_upto_region 3 with fail
  refine wp_cut (fun a wx => (w5 = wx) ∧ a.tmps.size = 164 ∧ a.defers = [] ∧ slot a 3 = .pointer (some ⟨w.heap.size, 0, none⟩) ∧ slot a 4 = .pointer (some ⟨w.heap.size + 1, 0, none⟩) ∧ slot a 5 = .pointer (some ⟨w.heap.size + 1 + 1, 0, none⟩) ∧ slot a 7 = .slice a0 l0 l0 ∧ slot a 8 = .int .i64 E0 ∧ slot a 9 = .slice a1 l1 l1 ∧ slot a 10 = .int .i64 E1 ∧ slot a 11 = .bool (mayB o0 k0)) ?_ ?_
  · intro K' hK'
    go_wp2_with fail
    all_goals
      refine hK' _ _ trivial ⟨rfl, by kernel_rfl, rfl, by kernel_rfl, by kernel_rfl, by kernel_rfl, by kernel_rfl, by kernel_rfl, by kernel_rfl, by kernel_rfl, ?_⟩
      show Value.bool _ = Value.bool _
      congr 1
      simp_all [mayB]
      try first | omega | (intros; omega) | (rw [Bool.eq_iff_iff]; simp; omega)
  clear i0 i1 c0 c1 c2 c3 c4 c5 c6 c7
  rintro a wx ⟨rfl, hs', hd', k3', k4', k5', k7', k8', k9', k10', k11'⟩; rw [fr164 a hs' hd']; simp only [k3', k4', k5', k7', k8', k9', k10', k11']; clear hs' hd' k3' k4' k5' k7' k8' k9' k10' k11'
  cases hm : mayB o0 k0 with
  | false =>
    have e1 := hE0.out
    have e2 := hl0.out
    rw [hm] at e1 e2
    obtain rfl : E0 = 1 := by simpa using e1
    obtain rfl : l0 = 0 := by simpa using e2
    clear e1 e2 hE0 hl0 O0 hE1 hl1
    go_wp2_with fail
    refine (lives05 _).mono ?_
    rintro e wx ⟨rfl, hbL⟩
    go_wp2_with fail
    go_ret
    exact ⟨rfl, bthen hb05 hbL⟩
  | true =>
    have e1 := hE0.out
    have e2 := hl0.out
    rw [hm] at e1 e2
    obtain rfl : E0 = 0 := by simpa using e1
    obtain rfl : l0 = 14 := by simpa using e2
    have hfb := Lib.hid (frL_byte (sq := q0) (v := v0) hm hs0)
    obtain ⟨gt1, gt2⟩ := got_of hm hq0 hv0 (L := frL o0 k0 s0 q0 v0) fun i _ => rfl
    have G := Lib.hid (frGet w5 a0 14 14 _ y0.out ⟨Nat.le_refl _, by omega, fun e => by have := n0.out e; omega⟩ hfb.out (by omega))
    rw [gt1, gt2] at G
    have P3 := Lib.hid (fun W => frSyms W o0 k0 s0 q0 v0 wh un hk0 hs0 hq0 hv0)
    have eS : lenS o0 k0 = 114 := by simp [lenS, hm]
    have eE : errF o0 k0 = 0 := by simp [errF, hm]
    rw [eS, eE] at P3
    obtain ⟨rd1, rd2, rd3⟩ := frSL_read (wh := wh) (un := un) hm hs0 hq0 hv0
    have R := Lib.hid (fun (W : World) (a : Option Addr) (h : Rd .u8 W a 114 (frSL o0 k0 s0 q0 v0 wh un)) (hn : a ≠ none) => by
      have := frRead W a 114 114 _ h ⟨Nat.le_refl _, by omega, fun e => absurd e hn⟩ (by omega)
      rw [rd1, rd2, rd3] at this
      exact this)
    unfold frV tailV at *
    clear gt1 gt2 rd1 rd2 rd3 eS eE e1 e2 hE0 hl0
    go_wp2_with fail
    refine G.out.mono ?_
    rintro e w6 ⟨rfl, hb6⟩
    have hX6 := hX5.below hb6
    have hb06 := bthen hb05 hb6
    have hb56 := hb6
    clear hb6 hX5
    obtain ⟨⟨t0, t1⟩, _⟩ := tl_cells hX6.2.2
    have hl6 := hX6.2.2.lt
    go_wp2_with fail
    have hF7 : Blk ((w6.alloc (.cells #[.int .i64 o0, .int .u8 k0, .int .u8 s0, .int .u32 q0, .int .u32 v0] 34)).alloc (.cells #[.bool wh, .bool un] 38)) w6.heap.size #[.int .i64 o0, .int .u8 k0, .int .u8 s0, .int .u32 q0, .int .u32 v0] 34 := (Blk.new w6 _ _).alloc _
    have hT7 : Blk ((w6.alloc (.cells #[.int .i64 o0, .int .u8 k0, .int .u8 s0, .int .u32 q0, .int .u32 v0] 34)).alloc (.cells #[.bool wh, .bool un] 38)) (w6.heap.size + 1) #[.bool wh, .bool un] 38 := by
      have := Blk.new (w6.alloc (.cells #[.int .i64 o0, .int .u8 k0, .int .u8 s0, .int .u32 q0, .int .u32 v0] 34)) #[.bool wh, .bool un] 38
      simpa using this
    have hb67 : Below w6.heap.size w6 ((w6.alloc (.cells #[.int .i64 o0, .int .u8 k0, .int .u8 s0, .int .u32 q0, .int .u32 v0] 34)).alloc (.cells #[.bool wh, .bool un] 38)) := (below_alloc _ _).trans ((below_alloc _ _).mono (by simp))
    have hX7 := hX6.below hb67
    generalize (w6.alloc (.cells #[.int .i64 o0, .int .u8 k0, .int .u8 s0, .int .u32 q0, .int .u32 v0] 34)).alloc (.cells #[.bool wh, .bool un] 38) = w7 at *
    have hb57 := bthen hb56 hb67
    have hb07 := bthen hb06 hb67
    clear hb67 hb06 hb56 hX6 t0 t1
    replace hF7 := Lib.hid hF7
    replace hT7 := Lib.hid hT7
    replace hX7 := Lib.hid hX7
    have hcl : Hid (∀ W, Boxes w W o0 o1 k0 s0 q0 v0 k1 s1 q1 v1 wh un → Blk W (w6.heap.size + 1) #[.bool wh, .bool un] 38 → (W.cell? ⟨w.heap.size, 0, none⟩ = some (.int .i64 o0)) ∧ (W.cell? ⟨w.heap.size + 1, 0, none⟩ = some (.int .u8 k0) ∧ W.cell? ⟨w.heap.size + 1, 1, none⟩ = some (.int .u8 s0) ∧ W.cell? ⟨w.heap.size + 1, 2, none⟩ = some (.int .u32 q0) ∧ W.cell? ⟨w.heap.size + 1, 3, none⟩ = some (.int .u32 v0)) ∧ W.cell? ⟨w6.heap.size + 1, 0, none⟩ = some (.bool wh) ∧ W.cell? ⟨w6.heap.size + 1, 1, none⟩ = some (.bool un)) := fun W h1 h2 => ⟨(tl_cells h1.1).1.1, (arr8_cells h1.2.1).1, (tl_cells h2).1⟩
    have d7 := hcl.out w7.drew (hX7.out.below (below_drewN w7 1)) hT7.out.drew
    go_region_held3 (fun W => (W.cell? ⟨w.heap.size, 0, none⟩ = some (.int .i64 o0)) ∧ (W.cell? ⟨w.heap.size + 1, 0, none⟩ = some (.int .u8 k0) ∧ W.cell? ⟨w.heap.size + 1, 1, none⟩ = some (.int .u8 s0) ∧ W.cell? ⟨w.heap.size + 1, 2, none⟩ = some (.int .u32 q0) ∧ W.cell? ⟨w.heap.size + 1, 3, none⟩ = some (.int .u32 v0)) ∧ W.cell? ⟨w6.heap.size + 1, 0, none⟩ = some (.bool wh) ∧ W.cell? ⟨w6.heap.size + 1, 1, none⟩ = some (.bool un))
      (first | exact d7 | exact d8 | exact d9)
      (first
        | (go_at_call 10
           (with_reducible refine (O0.out _).mono ?_)
           rintro e w8 ⟨rfl, hb8⟩
           have hb78 := bthen (below_drewN w7 1) hb8
           have hX8 := hX7.out.below hb78
           have hT8 := hT7.out.below hb78 hT7.out.lt
           have d8 := hcl.out _ hX8 hT8)
        | (go_at_call 12
           (with_reducible refine (P3.out _).mono ?_)
           rintro e w9 ⟨a9, rfl, m9, hb9⟩
           have hb79 := bthen hb78 hb9
           have hX9 := hX8.below hb9
           have hT9 := hT8.below hb9 hT8.lt
           have d9 := hcl.out _ hX9 hT9)
        | fail)
    have hF9 := hF7.out.below hb79 hF7.out.lt
    have hb59 := bthen hb57 hb79
    have hb09 := bthen hb07 hb79
    have z9 := Lib.hid m9.rd
    have nz9 : a9 ≠ none := fun e => by have := m9.none e; omega
    clear hX7 hT7 hF7 hX8 hT8 d7 d8 d9 hb8 hb78 hb9 hb79 hb57 hb07 m9 hcl P3 G
    go_wp2_with fail
    refine (R.out w9 a9 z9.out nz9).mono ?_
    rintro e w10 ⟨rfl, hb10⟩
    have hX10 := hX9.below hb10
    have hF10 := hF9.below hb10 hF9.lt
    have hT10 := hT9.below hb10 hT9.lt
    have hb510 := bthen hb59 hb10
    have hb010 := bthen hb09 hb10
    clear hX9 hF9 hT9 hb59 hb09 hb10 R z9 nz9
    have hl10 := hT10.lt
    go_wp2_with fail
    have hR11 : Blk ((w10.alloc (.cells #[.int .i64 o0, .int .u8 k0, .int .u8 s0, .int .u32 q0, .int .u32 v0] 34)).alloc (.cells #[.bool wh, .bool un] 38)) w10.heap.size #[.int .i64 o0, .int .u8 k0, .int .u8 s0, .int .u32 q0, .int .u32 v0] 34 := (Blk.new w10 _ _).alloc _
    have hV11 : Blk ((w10.alloc (.cells #[.int .i64 o0, .int .u8 k0, .int .u8 s0, .int .u32 q0, .int .u32 v0] 34)).alloc (.cells #[.bool wh, .bool un] 38)) (w10.heap.size + 1) #[.bool wh, .bool un] 38 := by
      have := Blk.new (w10.alloc (.cells #[.int .i64 o0, .int .u8 k0, .int .u8 s0, .int .u32 q0, .int .u32 v0] 34)) #[.bool wh, .bool un] 38
      simpa using this
    have hb1011 : Below w10.heap.size w10 ((w10.alloc (.cells #[.int .i64 o0, .int .u8 k0, .int .u8 s0, .int .u32 q0, .int .u32 v0] 34)).alloc (.cells #[.bool wh, .bool un] 38)) := (below_alloc _ _).trans ((below_alloc _ _).mono (by simp))
    have hX11 := hX10.below hb1011
    have hF11 := hF10.below hb1011 hF10.lt
    have hT11 := hT10.below hb1011 hT10.lt
    generalize (w10.alloc (.cells #[.int .i64 o0, .int .u8 k0, .int .u8 s0, .int .u32 q0, .int .u32 v0] 34)).alloc (.cells #[.bool wh, .bool un] 38) = w11 at *
    have hb511 := bthen hb510 hb1011
    have hb011 := bthen hb010 hb1011
    clear hb1011 hb510 hb010 hX10 hF10 hT10
    replace hF11 := Lib.hid hF11
    replace hT11 := Lib.hid hT11
    replace hX11 := Lib.hid hX11
    replace hR11 := Lib.hid hR11
    replace hV11 := Lib.hid hV11
    have hcl : Hid (∀ W, Boxes w W o0 o1 k0 s0 q0 v0 k1 s1 q1 v1 wh un → Blk W w6.heap.size #[.int .i64 o0, .int .u8 k0, .int .u8 s0, .int .u32 q0, .int .u32 v0] 34 → Blk W (w6.heap.size + 1) #[.bool wh, .bool un] 38 → Blk W w10.heap.size #[.int .i64 o0, .int .u8 k0, .int .u8 s0, .int .u32 q0, .int .u32 v0] 34 → Blk W (w10.heap.size + 1) #[.bool wh, .bool un] 38 → (W.cell? ⟨w.heap.size, 0, none⟩ = some (.int .i64 o0)) ∧ (W.cell? ⟨w.heap.size + 1, 0, none⟩ = some (.int .u8 k0) ∧ W.cell? ⟨w.heap.size + 1, 1, none⟩ = some (.int .u8 s0) ∧ W.cell? ⟨w.heap.size + 1, 2, none⟩ = some (.int .u32 q0) ∧ W.cell? ⟨w.heap.size + 1, 3, none⟩ = some (.int .u32 v0)) ∧ (W.cell? ⟨w6.heap.size, 0, none⟩ = some (.int .i64 o0) ∧ W.cell? ⟨w6.heap.size, 1, none⟩ = some (.int .u8 k0) ∧ W.cell? ⟨w6.heap.size, 2, none⟩ = some (.int .u8 s0) ∧ W.cell? ⟨w6.heap.size, 3, none⟩ = some (.int .u32 q0) ∧ W.cell? ⟨w6.heap.size, 4, none⟩ = some (.int .u32 v0)) ∧ (W.cell? ⟨w6.heap.size + 1, 0, none⟩ = some (.bool wh) ∧ W.cell? ⟨w6.heap.size + 1, 1, none⟩ = some (.bool un)) ∧ (W.cell? ⟨w10.heap.size, 0, none⟩ = some (.int .i64 o0) ∧ W.cell? ⟨w10.heap.size, 1, none⟩ = some (.int .u8 k0) ∧ W.cell? ⟨w10.heap.size, 2, none⟩ = some (.int .u8 s0) ∧ W.cell? ⟨w10.heap.size, 3, none⟩ = some (.int .u32 q0) ∧ W.cell? ⟨w10.heap.size, 4, none⟩ = some (.int .u32 v0)) ∧ (W.cell? ⟨w10.heap.size + 1, 0, none⟩ = some (.bool wh) ∧ W.cell? ⟨w10.heap.size + 1, 1, none⟩ = some (.bool un))) := fun W h1 h2 h3 h4 h5 => ⟨(tl_cells h1.1).1.1, (arr8_cells h1.2.1).1, (fr_cells h2).1, (tl_cells h3).1, (fr_cells h4).1, (tl_cells h5).1⟩
    have d11 := hcl.out w11.drew (hX11.out.below (below_drewN w11 1)) hF11.out.drew hT11.out.drew hR11.out.drew hV11.out.drew
    go_region_held3 (fun W => (W.cell? ⟨w.heap.size, 0, none⟩ = some (.int .i64 o0)) ∧ (W.cell? ⟨w.heap.size + 1, 0, none⟩ = some (.int .u8 k0) ∧ W.cell? ⟨w.heap.size + 1, 1, none⟩ = some (.int .u8 s0) ∧ W.cell? ⟨w.heap.size + 1, 2, none⟩ = some (.int .u32 q0) ∧ W.cell? ⟨w.heap.size + 1, 3, none⟩ = some (.int .u32 v0)) ∧ (W.cell? ⟨w6.heap.size, 0, none⟩ = some (.int .i64 o0) ∧ W.cell? ⟨w6.heap.size, 1, none⟩ = some (.int .u8 k0) ∧ W.cell? ⟨w6.heap.size, 2, none⟩ = some (.int .u8 s0) ∧ W.cell? ⟨w6.heap.size, 3, none⟩ = some (.int .u32 q0) ∧ W.cell? ⟨w6.heap.size, 4, none⟩ = some (.int .u32 v0)) ∧ (W.cell? ⟨w6.heap.size + 1, 0, none⟩ = some (.bool wh) ∧ W.cell? ⟨w6.heap.size + 1, 1, none⟩ = some (.bool un)) ∧ (W.cell? ⟨w10.heap.size, 0, none⟩ = some (.int .i64 o0) ∧ W.cell? ⟨w10.heap.size, 1, none⟩ = some (.int .u8 k0) ∧ W.cell? ⟨w10.heap.size, 2, none⟩ = some (.int .u8 s0) ∧ W.cell? ⟨w10.heap.size, 3, none⟩ = some (.int .u32 q0) ∧ W.cell? ⟨w10.heap.size, 4, none⟩ = some (.int .u32 v0)) ∧ (W.cell? ⟨w10.heap.size + 1, 0, none⟩ = some (.bool wh) ∧ W.cell? ⟨w10.heap.size + 1, 1, none⟩ = some (.bool un)))
      (first | exact d11 | exact d12)
      (first
        | (go_at_call 10
           (with_reducible refine (O0.out _).mono ?_)
           rintro e w12 ⟨rfl, hb12⟩
           have hb1112 := bthen (below_drewN w11 1) hb12
           have hX12 := hX11.out.below hb1112
           have d12 := hcl.out _ hX12 (hF11.out.below hb1112 hF11.out.lt) (hT11.out.below hb1112 hT11.out.lt) (hR11.out.below hb1112 hR11.out.lt) (hV11.out.below hb1112 hV11.out.lt))
        | fail)
    have hb512 := bthen hb511 hb1112
    have hb012 := bthen hb011 hb1112
    clear hX11 hF11 hT11 hR11 hV11 d11 d12 hb1112 hb12 hb511 hb011 hcl O0
    obtain ⟨⟨i0, i1⟩, _⟩ := tl_cells hX12.1
    obtain ⟨⟨c0, c1, c2, c3⟩, c4, c5, c6, c7⟩ := arr8_cells hX12.2.1
    go_upto_region 14 with fail
    refine wp_cut (fun a wx => (w12 = wx) ∧ a.tmps.size = 164 ∧ a.defers = [] ∧ slot a 7 = .slice a0 14 14 ∧ slot a 9 = .slice a1 l1 l1 ∧ slot a 10 = .int .i64 E1 ∧ slot a 20 = .bool (decide (o0 = o1 ∧ k0 = k1 ∧ s0 = s1 ∧ q0 = q1 ∧ v0 = v1))) ?_ ?_
    · intro K' hK'
      go_wp2_with fail
      all_goals
        refine hK' _ _ trivial ⟨rfl, by kernel_rfl, rfl, by kernel_rfl, by kernel_rfl, by kernel_rfl, ?_⟩
        show Value.bool _ = Value.bool _
        congr 1
        first
          | exact (decide_eq_true ⟨by assumption, by assumption, by assumption, by assumption, by assumption⟩).symm
          | exact (decide_eq_false (fun ⟨h1, h2, h3, h4, h5⟩ => by contradiction)).symm
    clear i0 i1 c0 c1 c2 c3 c4 c5 c6 c7
    rintro a wx ⟨rfl, hs', hd', k7', k9', k10', k20'⟩; rw [fr164 a hs' hd']; simp only [k7', k9', k10', k20']; clear hs' hd' k7' k9' k10' k20'
    have z0 := Lib.hid (y0.out.below hb512 (Nat.le_refl _))
    have z1 := Lib.hid (x1.out.below hb512 (Nat.le_refl _))
    cases hm1 : mayB o1 k1 with
    | false =>
      have e1 := hE1.out
      rw [hm1] at e1
      obtain rfl : E1 = 1 := by simpa using e1
      clear e1 hE1 hl1 hm1
      go_wp2_with fail
      refine (lives05 _).mono ?_
      rintro e wx ⟨rfl, hbL⟩
      go_wp2_with fail
      go_ret
      exact ⟨rfl, bthen hb012 hbL⟩
    | true =>
      have e1 := hE1.out
      have e2 := hl1.out
      rw [hm1] at e1 e2
      obtain rfl : E1 = 0 := by simpa using e1
      obtain rfl : l1 = 14 := by simpa using e2
      have hpa := put_alike (st := s0) (st' := s1) hm hq0 hv0 hm1 hq1 hv1
      have SB := Lib.hid (sameBytesG w12 a0 a1 14 14 14 _ _ z0.out z1.out hfb.out (frL_byte hm1 hs1))
      rw [hpa] at SB
      generalize decide (o0 = o1 ∧ k0 = k1 ∧ s0 = s1 ∧ q0 = q1 ∧ v0 = v1) = same at *
      have hss : (same == same) = true := by simp
      clear e1 e2 hE1 hl1 hm1 hpa hm
      go_wp2_with fail
      refine SB.out.mono ?_
      rintro e w13 ⟨rfl, q13, rfl⟩
      have hb013 := bthen hb012 (below_drewN w12 q13)
      generalize w12.drewN q13 = w13 at *
      go_wp2_with fail
      refine (lives05 _).mono ?_
      rintro e wx ⟨rfl, hbL⟩
      go_wp2_with fail
      go_ret
      exact ⟨rfl, bthen hb013 hbL⟩
end Go.Proofs.Ytlhiamgaobbdnaa
