/- RingsLinks: the walk. -/
import Derived.Test.YtodmkbbfmojifaaDoorLives03
namespace Go.Proofs.YtodmkbbfmojifaaDoor
open Go.RowKit
set_option linter.unusedSimpArgs false
set_option linter.unusedVariables false
set_option maxRecDepth 100000
set_option maxHeartbeats 4000000 in
theorem ringsLinks_any (w : World) (n d x y : Int) (hs : Signs w) (hd : 0 ≤ d) :
    Calls Tryd.prog 4 #[.int .i64 n, .int .u8 d, .agg #[.int .i64 x, .int .i64 y]] w fun e w' => e = .returned (.bool true) ∧ Below w.heap.size w w' := by
  have P1 : Hid (∀ W, Signs W → Calls Tryd.prog 17 #[.int .i64 n, .int .u8 d, .int .i64 x, .int .i64 y] W fun e w' => e = .returned (.int .i64 (srcI n d x y)) ∧ ∃ q, w' = W.drewN q) := fun W h => ringsSource W n d x y h hd
  have P2 : Hid (∀ W, Calls Tryd.prog 18 #[.int .i64 n, .int .u8 d, .int .i64 x, .int .i64 y] W fun e w' => e = .returned (.int .i64 (srcI n d x y)) ∧ W = w') := fun W => refSource W n d x y hd
  have P3 : Hid (∀ W, Calls Tryd.prog 19 #[.int .i64 n, .int .u8 d, .int .i64 x, .int .i64 y] W fun e w' => e = .returned (.int .i64 (linkI n d x y)) ∧ W = w') := fun W => ringsLink W n d x y hd
  have P4 : Hid (∀ W, Calls Tryd.prog 20 #[.int .i64 n, .int .u8 d, .int .i64 x, .int .i64 y] W fun e w' => e = .returned (.int .i64 (linkI n d x y)) ∧ W = w') := fun W => refLink W n d x y hd
  have P5 : Hid (∀ W, Signs W → Calls Tryd.prog 14 #[] W fun e w' => e = .returned (.bool true) ∧ Below W.heap.size W w') := fun W h => lives03 W h
  have P6 : Hid (∀ W, Signs W → Calls Tryd.prog 15 #[.int .i64 n, .int .i64 x] W fun e w' => e = .returned (endsV n x) ∧ ∃ q, w' = W.drewN q) := fun W h => ringsEnds W n x h
  have P7 : Hid (∀ W, Calls Tryd.prog 16 #[.int .i64 n, .int .i64 x] W fun e w' => e = .returned (endsV n x) ∧ W = w') := fun W => refEnds W n x
  have r1 : (srcI n d x y == srcI n d x y) = true := by simp
  have r2 : (linkI n d x y == linkI n d x y) = true := by simp
  have r3 : (endF n x == endF n x) = true := by simp
  have r4 : (endT n x == endT n x) = true := by simp
  have r5 : (endD n x == endD n x) = true := by simp
  have r6 : (endH n x == endH n x) = true := by simp
  generalize srcI n d x y = z1 at *
  generalize linkI n d x y = z2 at *
  simp only [endsV] at P6 P7
  generalize endF n x = z3 at *
  generalize endT n x = z4 at *
  generalize endD n x = z5 at *
  generalize endH n x = z6 at *
  have hs' : Hid (Signs (w.alloc (.cells #[.int .i64 x, .int .i64 y] 22))) := hs.to (below_alloc _ _)
  have hb' : Hid (Below w.heap.size w (w.alloc (.cells #[.int .i64 x, .int .i64 y] 22))) := below_alloc _ _
  have d0 : (w.alloc (.cells #[.int .i64 x, .int .i64 y] 22)).cell? ⟨w.heap.size, 0, none⟩ = some (.int .i64 x) := (Blk.new _ _ _).cell rfl
  have d1 : (w.alloc (.cells #[.int .i64 x, .int .i64 y] 22)).cell? ⟨w.heap.size, 1, none⟩ = some (.int .i64 y) := (Blk.new _ _ _).cell rfl
  have hw : w.heap.size < (w.alloc (.cells #[.int .i64 x, .int .i64 y] 22)).heap.size := by simp
  go_enter Tryd.func4, Tryd.ntmps4
  go_wp2_with fail
  generalize w.alloc (.cells #[.int .i64 x, .int .i64 y] 22) = w1 at *
  refine (P6.out _ hs'.out).mono ?_
  rintro e w2 ⟨rfl, q6, rfl⟩
  replace hs' : Hid (Signs (w1.drewN q6)) := hs'
  replace hb' : Hid (Below w.heap.size w (w1.drewN q6)) := bdrewN hb'.out _
  replace d0 : (w1.drewN q6).cell? ⟨w.heap.size, 0, none⟩ = some (.int .i64 x) := d0
  replace d1 : (w1.drewN q6).cell? ⟨w.heap.size, 1, none⟩ = some (.int .i64 y) := d1
  replace hw : w.heap.size < (w1.drewN q6).heap.size := hw
  generalize w1.drewN q6 = w1 at *
  go_wp2_with fail
  refine (P7.out _).mono ?_
  rintro e _ ⟨rfl, rfl⟩
  go_wp2_with fail
  go_region_held3 (fun W => W.cell? ⟨w.heap.size, 0, none⟩ = some (.int .i64 x) ∧ W.cell? ⟨w.heap.size, 1, none⟩ = some (.int .i64 y)) (first | exact ⟨d0, d1⟩ | exact ⟨below_cell' hb5.out hw d0, below_cell' hb5.out hw d1⟩)
    (first
      | (go_at_call 17; (with_reducible refine (P1.out _ ?hh1).mono ?_); exact hs'.out; rintro e w2 ⟨rfl, q2, rfl⟩)
      | (go_at_call 18; (with_reducible refine (P2.out _).mono ?_); rintro e w3 ⟨rfl, rfl⟩)
      | (go_at_call 19; (with_reducible refine (P3.out _).mono ?_); rintro e w4 ⟨rfl, rfl⟩)
      | (go_at_call 20; (with_reducible refine (P4.out _).mono ?_); rintro e w5 ⟨rfl, rfl⟩)
      | (go_at_call 14; (with_reducible refine (P5.out _ ?hh5).mono ?_); exact hs'.out; rintro e w6 ⟨rfl, hb5⟩; replace hb5 := Lib.hid hb5))
  go_wp2_with fail
  go_ret
  exact ⟨rfl, bthen (bdrewN hb'.out _) hb5.out⟩
end Go.Proofs.YtodmkbbfmojifaaDoor
