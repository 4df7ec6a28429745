/- Lines: Send, one thing or none, on lines of hop one and two. -/
import Derived.Test.YteogoddnefeleaaDoorLinesAInt
namespace Go.Proofs.YteogoddnefeleaaDoor
open Go.RowKit
set_option maxRecDepth 100000 in
set_option maxHeartbeats 400000 in
theorem sendInt_1_no (w : World) (bL bW : Nat) (c0 c1 : Value) (t : Int) (ad : Option Addr) (cap : Nat) (ht : 0 ≤ t) (ht' : t < 9223372036854775807) (h : LineInt w bL bW 1 [c0, c1] t) :
    Calls Tryd.prog 61 #[.pointer (some ⟨bL, 0, none⟩), .slice ad 0 cap] w fun e w' => e = .returned (.int .i64 0) ∧
      LineInt w' bL bW 1 [.int .i64 0, .bool false] (t + 1) ∧ Touch [bL, bW] w w' := by
  have hne := h.1.ne h.2 (by decide)
  have l1 := h.1.lt
  have l2 := h.2.lt
  have d1 := h.1.cell (i := 0) rfl
  have d2 := h.1.cell (i := 1) rfl
  have f1 := h.1.free 0
  have f2 := h.1.free 1
  have c0' := h.2.cell (i := 0) (v := c0) (by simp)
  have c1' := h.2.cell (i := 1) (v := c1) (by simp)
  have g0 := h.2.free 0
  have g1 := h.2.free 1
  have H := Lib.hid h
  clear h
  go_enter Tryd.func61, Tryd.ntmps61
  go_wp2
  go_rounds 1
  have hcp := fun W => run_copy_zero (P := Tryd.prog) W 100 100 3 105 (some ⟨bW, 0, none⟩) 1 1 (some ⟨bW, 0, none⟩) 0 0 2 Tryd.underlying100 (by kernel_rfl) (by decide)
  refine wp_region_tail 9 (by kernel_rfl) (by kernel_rfl) ?_; simp only [List.take_succ_cons, List.take_zero, List.drop_succ_cons, List.drop_zero]; (repeat still_step); refine wpStill_nil ?_
  go_wp2
  refine wp_region_tail 12 (by kernel_rfl) (by kernel_rfl) ?_; simp only [List.take_succ_cons, List.take_zero, List.drop_succ_cons, List.drop_zero]; (repeat still_step); refine wpStill_nil ?_
  go_wp2
  go_ret
  exact ⟨rfl, ⟨((((((H.out.1.setNe hne _).setNe hne _).set 1 _).alloc _).drew).drew).congr (by simp), ((((((H.out.2.set 0 _).set 1 _).setNe (Ne.symm hne) _).alloc _).drew).drew).congr (by simp)⟩,
    (((((Touch.refl _ _).setCell (.inl (by simp)) _).setCell (.inl (by simp)) _).setCell (.inl (by simp)) _).alloc _).drew.drew⟩
set_option maxRecDepth 100000 in
set_option maxHeartbeats 400000 in
theorem sendInt_1_yes (w : World) (bL bW : Nat) (c0 c1 : Value) (t : Int) (b o : Nat) (x : Int) (cap : Nat) (ht : 0 ≤ t) (ht' : t < 9223372036854775807) (h : LineInt w bL bW 1 [c0, c1] t) (hx : w.cell? ⟨b, o, none⟩ = some (.int .i64 x)) :
    Calls Tryd.prog 61 #[.pointer (some ⟨bL, 0, none⟩), .slice (some ⟨b, o, none⟩) 1 cap] w fun e w' => e = .returned (.int .i64 0) ∧
      LineInt w' bL bW 1 [.int .i64 x, .bool true] (t + 1) ∧ Touch [bL, bW] w w' := by
  have hne := h.1.ne h.2 (by decide)
  have l1 := h.1.lt
  have l2 := h.2.lt
  have d1 := h.1.cell (i := 0) rfl
  have d2 := h.1.cell (i := 1) rfl
  have f1 := h.1.free 0
  have f2 := h.1.free 1
  have c0' := h.2.cell (i := 0) (v := c0) (by simp)
  have c1' := h.2.cell (i := 1) (v := c1) (by simp)
  have g0 := h.2.free 0
  have g1 := h.2.free 1
  have H := Lib.hid h
  clear h
  have lb := World.block_lt_of_cell? w _ hx
  simp only at lb
  go_enter Tryd.func61, Tryd.ntmps61
  go_wp2
  go_rounds 2
  have hcp := fun W => run_copy_zero (P := Tryd.prog) W 100 100 3 105 (some ⟨bW, 0, none⟩) 1 1 (some ⟨bW, 0, none⟩) 0 0 2 Tryd.underlying100 (by kernel_rfl) (by decide)
  refine wp_region_tail 9 (by kernel_rfl) (by kernel_rfl) ?_; simp only [List.take_succ_cons, List.take_zero, List.drop_succ_cons, List.drop_zero]; (repeat still_step); refine wpStill_nil ?_
  go_wp2
  refine wp_region_tail 12 (by kernel_rfl) (by kernel_rfl) ?_; simp only [List.take_succ_cons, List.take_zero, List.drop_succ_cons, List.drop_zero]; (repeat still_step); refine wpStill_nil ?_
  go_wp2
  go_ret
  exact ⟨rfl, ⟨((((((H.out.1.setNe hne _).setNe hne _).set 1 _).alloc _).drew).drew).congr (by simp), ((((((H.out.2.set 0 _).set 1 _).setNe (Ne.symm hne) _).alloc _).drew).drew).congr (by simp)⟩,
    (((((Touch.refl _ _).setCell (.inl (by simp)) _).setCell (.inl (by simp)) _).setCell (.inl (by simp)) _).alloc _).drew.drew⟩
theorem copyInt (W : World) (bW : Nat) (c0 c1 : Value) (y : Int) (c3 : Bool) (h0 : W.cell? ⟨bW, 0, none⟩ = some c0) (h1 : W.cell? ⟨bW, 1, none⟩ = some c1) (h2 : W.cell? ⟨bW, 2, none⟩ = some (.int .i64 y)) (h3 : W.cell? ⟨bW, 3, none⟩ = some (.bool c3))
    (g0 : W.frozen? ⟨bW, 0, none⟩ = false) (g1 : W.frozen? ⟨bW, 1, none⟩ = false) :
    (Builtin.copy_ #[100, 100] 3 #[.slice (some ⟨bW, 0, none⟩) 2 2, .slice (some ⟨bW, 2, none⟩) 1 1]).run Tryd.prog W = .ok (.int .i64 1) ((W.setCell ⟨bW, 0, none⟩ (.int .i64 y)).setCell ⟨bW, 1, none⟩ (.bool c3)) := by
  have hs : (Tryd.prog.info? 105).map (·.size) = some 2 := by kernel_rfl
  cases hq : Tryd.prog.info? 105 with
  | none => simp [hq] at hs
  | some i =>
    have hi : i.size = 2 := by simpa [hq] using hs
    simp [Builtin.copy_, run_underlying Tryd.underlying100, Builtin.lenOf, Builtin.firstCells, sizeOf, typeInfo, hq, hi, loadCells, loadCellsFrom, storeCells, Addr.add, h0, h1, h2, h3, g0, g1, go_sem]
set_option maxRecDepth 100000 in
set_option maxHeartbeats 400000 in
theorem sendInt_2_no (w : World) (bL bW : Nat) (c0 c1 : Value) (y : Int) (c3 : Bool) (t : Int) (ad : Option Addr) (cap : Nat) (ht : 0 ≤ t) (ht' : t < 9223372036854775807) (h : LineInt w bL bW 2 [c0, c1, .int .i64 y, .bool c3] t) :
    Calls Tryd.prog 61 #[.pointer (some ⟨bL, 0, none⟩), .slice ad 0 cap] w fun e w' => e = .returned (.int .i64 0) ∧
      LineInt w' bL bW 2 [.int .i64 y, .bool c3, .int .i64 0, .bool false] (t + 1) ∧ Touch [bL, bW] w w' := by
  have hne := h.1.ne h.2 (by decide)
  have l1 := h.1.lt
  have l2 := h.2.lt
  have d1 := h.1.cell (i := 0) rfl
  have d2 := h.1.cell (i := 1) rfl
  have f1 := h.1.free 0
  have f2 := h.1.free 1
  have c0' := h.2.cell (i := 0) (v := c0) (by simp)
  have c1' := h.2.cell (i := 1) (v := c1) (by simp)
  have c2' := h.2.cell (i := 2) (v := .int .i64 y) (by simp)
  have c3' := h.2.cell (i := 3) (v := .bool c3) (by simp)
  have g0 := h.2.free 0
  have g1 := h.2.free 1
  have g2 := h.2.free 2
  have g3 := h.2.free 3
  have H := Lib.hid h
  clear h
  go_enter Tryd.func61, Tryd.ntmps61
  go_wp2
  go_rounds 1
  have hcp := fun W => copyInt W bW c0 c1 y c3
  refine wp_region_tail 9 (by kernel_rfl) (by kernel_rfl) ?_; simp only [List.take_succ_cons, List.take_zero, List.drop_succ_cons, List.drop_zero]; (repeat still_step); refine wpStill_nil ?_
  go_wp2
  refine wp_region_tail 12 (by kernel_rfl) (by kernel_rfl) ?_; simp only [List.take_succ_cons, List.take_zero, List.drop_succ_cons, List.drop_zero]; (repeat still_step); refine wpStill_nil ?_
  go_wp2
  go_ret
  exact ⟨rfl, ⟨((((((((H.out.1.setNe hne _).setNe hne _).setNe hne _).setNe hne _).set 1 _).alloc _).drew).drew).congr (by simp), ((((((((H.out.2.set 0 _).set 1 _).set 2 _).set 3 _).setNe (Ne.symm hne) _).alloc _).drew).drew).congr (by simp)⟩,
    (((((((Touch.refl _ _).setCell (.inl (by simp)) _).setCell (.inl (by simp)) _).setCell (.inl (by simp)) _).setCell (.inl (by simp)) _).setCell (.inl (by simp)) _).alloc _).drew.drew⟩
set_option maxRecDepth 100000 in
set_option maxHeartbeats 400000 in
theorem sendInt_2_yes (w : World) (bL bW : Nat) (c0 c1 : Value) (y : Int) (c3 : Bool) (t : Int) (b o : Nat) (x : Int) (cap : Nat) (ht : 0 ≤ t) (ht' : t < 9223372036854775807) (h : LineInt w bL bW 2 [c0, c1, .int .i64 y, .bool c3] t) (hx : w.cell? ⟨b, o, none⟩ = some (.int .i64 x)) :
    Calls Tryd.prog 61 #[.pointer (some ⟨bL, 0, none⟩), .slice (some ⟨b, o, none⟩) 1 cap] w fun e w' => e = .returned (.int .i64 0) ∧
      LineInt w' bL bW 2 [.int .i64 y, .bool c3, .int .i64 x, .bool true] (t + 1) ∧ Touch [bL, bW] w w' := by
  have hne := h.1.ne h.2 (by decide)
  have l1 := h.1.lt
  have l2 := h.2.lt
  have d1 := h.1.cell (i := 0) rfl
  have d2 := h.1.cell (i := 1) rfl
  have f1 := h.1.free 0
  have f2 := h.1.free 1
  have c0' := h.2.cell (i := 0) (v := c0) (by simp)
  have c1' := h.2.cell (i := 1) (v := c1) (by simp)
  have c2' := h.2.cell (i := 2) (v := .int .i64 y) (by simp)
  have c3' := h.2.cell (i := 3) (v := .bool c3) (by simp)
  have g0 := h.2.free 0
  have g1 := h.2.free 1
  have g2 := h.2.free 2
  have g3 := h.2.free 3
  have H := Lib.hid h
  clear h
  have lb := World.block_lt_of_cell? w _ hx
  simp only at lb
  go_enter Tryd.func61, Tryd.ntmps61
  go_wp2
  go_rounds 2
  have hcp := fun W => copyInt W bW c0 c1 y c3
  refine wp_region_tail 9 (by kernel_rfl) (by kernel_rfl) ?_; simp only [List.take_succ_cons, List.take_zero, List.drop_succ_cons, List.drop_zero]; (repeat still_step); refine wpStill_nil ?_
  go_wp2
  refine wp_region_tail 12 (by kernel_rfl) (by kernel_rfl) ?_; simp only [List.take_succ_cons, List.take_zero, List.drop_succ_cons, List.drop_zero]; (repeat still_step); refine wpStill_nil ?_
  go_wp2
  go_ret
  exact ⟨rfl, ⟨((((((((H.out.1.setNe hne _).setNe hne _).setNe hne _).setNe hne _).set 1 _).alloc _).drew).drew).congr (by simp), ((((((((H.out.2.set 0 _).set 1 _).set 2 _).set 3 _).setNe (Ne.symm hne) _).alloc _).drew).drew).congr (by simp)⟩,
    (((((((Touch.refl _ _).setCell (.inl (by simp)) _).setCell (.inl (by simp)) _).setCell (.inl (by simp)) _).setCell (.inl (by simp)) _).setCell (.inl (by simp)) _).alloc _).drew.drew⟩
end Go.Proofs.YteogoddnefeleaaDoor
