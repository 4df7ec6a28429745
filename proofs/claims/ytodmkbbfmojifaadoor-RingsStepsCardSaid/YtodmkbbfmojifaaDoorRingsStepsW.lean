/- RingsSteps: the walk. -/
import Derived.Test.YtodmkbbfmojifaaDoorLives03
namespace Go.Proofs.YtodmkbbfmojifaaDoor
open Go.RowKit
set_option linter.unusedSimpArgs false
set_option linter.unusedVariables false
set_option maxRecDepth 100000
set_option maxHeartbeats 4000000 in
theorem ringsSteps_any (w : World) (n d x y : Int) (hs : Signs w) (hd : 0 ≤ d) :
    Calls Tryd.prog 3 #[.int .i64 n, .int .u8 d, .agg #[.int .i64 x, .int .i64 y]] w fun e w' => e = .returned (.bool true) ∧ Below w.heap.size w w' := by
  have P1 : Hid (∀ W, Signs W → Calls Tryd.prog 10 #[.int .i64 n, .int .u8 d, .int .i64 x, .int .i64 y] W fun e w' => e = .returned (.int .i64 (stepI n d x y)) ∧ ∃ q, w' = W.drewN q) := fun W h => ringsStep W n d x y h hd
  have P2 : Hid (∀ W, Calls Tryd.prog 11 #[.int .i64 n, .int .u8 d, .int .i64 x, .int .i64 y] W fun e w' => e = .returned (.int .i64 (stepI n d x y)) ∧ W = w') := fun W => refStep W n d x y hd
  have P3 : Hid (∀ W, Signs W → Calls Tryd.prog 12 #[.int .i64 n, .int .u8 d, .int .i64 x, .int .i64 y] W fun e w' => e = .returned (.int .i64 (distI n d x y)) ∧ ∃ q, w' = W.drewN q) := fun W h => ringsDistance W n d x y h hd
  have P4 : Hid (∀ W, Calls Tryd.prog 13 #[.int .i64 n, .int .u8 d, .int .i64 x, .int .i64 y] W fun e w' => e = .returned (.int .i64 (distI n d x y)) ∧ W = w') := fun W => refDistance W n d x y hd
  have P5 : Hid (∀ W, Signs W → Calls Tryd.prog 14 #[] W fun e w' => e = .returned (.bool true) ∧ Below W.heap.size W w') := fun W h => lives03 W h
  have r1 : (stepI n d x y == stepI n d x y) = true := by simp
  have r2 : (distI n d x y == distI n d x y) = true := by simp
  generalize stepI n d x y = z1 at *
  generalize distI n d x y = z2 at *
  have hs' : Hid (Signs (w.alloc (.cells #[.int .i64 x, .int .i64 y] 22))) := hs.to (below_alloc _ _)
  have hb' : Hid (Below w.heap.size w (w.alloc (.cells #[.int .i64 x, .int .i64 y] 22))) := below_alloc _ _
  go_enter Tryd.func3, Tryd.ntmps3
  go_wp2_with fail
  have d0 : (w.alloc (.cells #[.int .i64 x, .int .i64 y] 22)).cell? ⟨w.heap.size, 0, none⟩ = some (.int .i64 x) := (Blk.new _ _ _).cell rfl
  have d1 : (w.alloc (.cells #[.int .i64 x, .int .i64 y] 22)).cell? ⟨w.heap.size, 1, none⟩ = some (.int .i64 y) := (Blk.new _ _ _).cell rfl
  have hw : w.heap.size < (w.alloc (.cells #[.int .i64 x, .int .i64 y] 22)).heap.size := by simp
  generalize w.alloc (.cells #[.int .i64 x, .int .i64 y] 22) = w1 at *
  go_region_held3 (fun W => W.cell? ⟨w.heap.size, 0, none⟩ = some (.int .i64 x) ∧ W.cell? ⟨w.heap.size, 1, none⟩ = some (.int .i64 y)) (first | exact ⟨d0, d1⟩ | exact ⟨below_cell' hb5.out hw d0, below_cell' hb5.out hw d1⟩)
    (first
      | (go_at_call 10; (with_reducible refine (P1.out _ ?hh1).mono ?_); exact hs'.out; rintro e w2 ⟨rfl, q2, rfl⟩)
      | (go_at_call 11; (with_reducible refine (P2.out _).mono ?_); rintro e w3 ⟨rfl, rfl⟩)
      | (go_at_call 12; (with_reducible refine (P3.out _ ?hh3).mono ?_); exact hs'.out; rintro e w4 ⟨rfl, q4, rfl⟩)
      | (go_at_call 13; (with_reducible refine (P4.out _).mono ?_); rintro e w5 ⟨rfl, rfl⟩)
      | (go_at_call 14; (with_reducible refine (P5.out _ ?hh5).mono ?_); exact hs'.out; rintro e w6 ⟨rfl, hb5⟩; replace hb5 := Lib.hid hb5))
  go_wp2_with fail
  go_ret
  exact ⟨rfl, bthen (bdrewN hb'.out _) hb5.out⟩
end Go.Proofs.YtodmkbbfmojifaaDoor
