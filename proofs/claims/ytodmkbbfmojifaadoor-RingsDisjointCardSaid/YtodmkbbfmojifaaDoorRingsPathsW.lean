/- RingsPaths: the walk. -/
import Derived.Test.YtodmkbbfmojifaaDoorLives03
import Derived.Test.YtodmkbbfmojifaaDoorBookF
namespace Go.Proofs.YtodmkbbfmojifaaDoor
open Go.RowKit
set_option linter.unusedSimpArgs false
set_option linter.unusedVariables false
set_option maxRecDepth 100000
theorem sameNumsYes (w : World) (aa ab : Option Addr) (n ca cb : Nat) (A : Nat → Int) (ha : Rd .i64 w aa n A) (hb : Rd .i64 w ab n A) (hn : n ≤ 9223372036854775807) :
    Calls Tryd.prog 23 #[.slice aa n ca, .slice ab n cb] w fun e w' => e = .returned (.bool true) ∧ ∃ q, w' = w.drewN q := by
  have h : (decide (n = n) && alikeNums A A n) = true := by simp [alikeNums_true]
  have := whetherNums w aa ab n n ca cb A A ha hb hn
  rw [h] at this
  exact this
theorem pathN_le {n d f t h : Int} : pathN n d f t h ≤ 16 := by
  unfold pathN
  split
  · rename_i hok
    have ho : 0 < distI n d f t ∧ okH h = true ∧ h ≤ distI n d f t := by simpa [pathOk, and_assoc] using hok
    have h1 := distI_le ho.1
    have h2 := okR_true h1.1
    have h3 := okH_true ho.2.1
    omega
  · omega
set_option maxHeartbeats 8000000 in
theorem ringsPaths_any (w : World) (n d x y z : Int) (hs : Signs w) (hd : 0 ≤ d) :
    Calls Tryd.prog 5 #[.int .i64 n, .int .u8 d, .agg #[.int .i64 x, .int .i64 y, .int .i64 z]] w fun e w' => e = .returned (.bool true) ∧ Below w.heap.size w w' := by
  have P1 : Hid (∀ W, Signs W → Calls Tryd.prog 21 #[.int .i64 n, .int .u8 d, .int .i64 x, .int .i64 y, .int .i64 z] W fun e w' =>
      ∃ a, e = .returned (pathV n d x y z a) ∧ Mine .i64 3 W.heap.size w' a (pathN n d x y z) (pathL n d x y z) ∧ Below W.heap.size W w') := fun W h => ringsPath W n d x y z h hd
  have P2 : Hid (∀ W, Calls Tryd.prog 22 #[.int .i64 n, .int .u8 d, .int .i64 x, .int .i64 y, .int .i64 z] W fun e w' =>
      ∃ a c, e = .returned (.tuple #[.slice a (pathN n d x y z) c, .bool (pathOk n d x y z)]) ∧ Rd .i64 w' a (pathN n d x y z) (pathL n d x y z) ∧ (a = none → pathN n d x y z = 0 ∧ c = 0) ∧ Below W.heap.size W w') := fun W => refPath (distI n d x y + 2).toNat W n d x y z hd (by omega)
  have P3 : Hid (∀ W, Signs W → Calls Tryd.prog 24 #[.int .i64 n, .int .u8 d, .int .i64 x, .int .i64 y] W fun e w' => e = .returned (.int .i64 (placeI n d x y)) ∧ ∃ q, w' = W.drewN q) := fun W h => ringsPlace W n d x y h hd
  have P4 : Hid (∀ W, Calls Tryd.prog 25 #[.int .i64 n, .int .u8 d, .int .i64 x, .int .i64 y] W fun e w' => e = .returned (.int .i64 (placeI n d x y)) ∧ W = w') := fun W => refPlace W n d x y hd
  have hN := @pathN_le n d x y z
  simp only [pathV] at P1
  generalize pathN n d x y z = N at *
  generalize pathOk n d x y z = ok at *
  generalize pathL n d x y z = L at *
  have r1 : (placeI n d x y != placeI n d x y) = false := by simp
  have r2 : (ok != ok) = false := by simp
  generalize placeI n d x y = z1 at *
  have hs' : Hid (Signs (w.alloc (.cells #[.int .i64 x, .int .i64 y, .int .i64 z] 29))) := hs.to (below_alloc _ _)
  have hb' : Hid (Below w.heap.size w (w.alloc (.cells #[.int .i64 x, .int .i64 y, .int .i64 z] 29))) := below_alloc _ _
  have d0 : (w.alloc (.cells #[.int .i64 x, .int .i64 y, .int .i64 z] 29)).cell? ⟨w.heap.size, 0, none⟩ = some (.int .i64 x) := (Blk.new _ _ _).cell rfl
  have d1 : (w.alloc (.cells #[.int .i64 x, .int .i64 y, .int .i64 z] 29)).cell? ⟨w.heap.size, 1, none⟩ = some (.int .i64 y) := (Blk.new _ _ _).cell rfl
  have d2 : (w.alloc (.cells #[.int .i64 x, .int .i64 y, .int .i64 z] 29)).cell? ⟨w.heap.size, 2, none⟩ = some (.int .i64 z) := (Blk.new _ _ _).cell rfl
  have hw : w.heap.size < (w.alloc (.cells #[.int .i64 x, .int .i64 y, .int .i64 z] 29)).heap.size := by simp
  go_enter Tryd.func5, Tryd.ntmps5
  go_wp2_with fail
  generalize w.alloc (.cells #[.int .i64 x, .int .i64 y, .int .i64 z] 29) = w1 at *
  refine (P1.out _ hs'.out).mono ?_
  rintro e w2 ⟨a2, rfl, m2, b2⟩
  have s2 := Lib.hid (hs'.out.to b2)
  have c0 := below_cell d0 b2 hw
  have c1 := below_cell d1 b2 hw
  have c2 := below_cell d2 b2 hw
  have hw2 : w.heap.size < w2.heap.size := Nat.lt_of_lt_of_le hw b2.size
  have m2' := Lib.hid m2
  clear m2 d0 d1 d2
  go_wp2_with fail
  refine (P2.out _).mono ?_
  rintro e w3 ⟨a3, cc3, rfl, m3, hn3, b3⟩
  have s3 := Lib.hid (s2.out.to b3)
  have d0 := below_cell c0 b3 hw2
  have d1 := below_cell c1 b3 hw2
  have d2 := below_cell c2 b3 hw2
  have m3' := Lib.hid m3
  have hn3' := Lib.hid hn3
  have m23 := Lib.hid (m2'.out.below b3 (Nat.le_refl _))
  clear m3 hn3 c0 c1 c2
  go_wp2_with fail
  go_quiet ((first
    | (go_at_call 23; exact Calls.quiet_of (sameNumsYes _ _ _ _ _ _ L m23.out.rd m3'.out (by omega)))
    | (go_at_call 24; exact Calls.quiet_of (P3.out _ s3.out))
    | (go_at_call 25; exact (P4.out _).mono fun _ _ h => ⟨h.1, _, h.2.symm⟩)))
  have b4 := below_drewN w3 nq
  have s4 := Lib.hid (s3.out.to b4)
  have e0 := below_cell d0 b4 (Nat.lt_of_lt_of_le hw2 b3.size)
  have e1 := below_cell d1 b4 (Nat.lt_of_lt_of_le hw2 b3.size)
  have e2 := below_cell d2 b4 (Nat.lt_of_lt_of_le hw2 b3.size)
  have m24 := Lib.hid (m23.out.below b4 (Nat.le_refl _))
  replace b4 := bthen b3 b4
  generalize w3.drewN nq = w4 at *
  clear d0 d1 d2 m3' hn3' m23 s3
  go_wp2_with fail
  refine (P1.out _ s4.out).mono ?_
  rintro e w5 ⟨a5, rfl, m5, b5⟩
  have s5 := Lib.hid (s4.out.to b5)
  have h5a := Lib.hid (m24.out.held.below b5 (Nat.le_refl _))
  have h5b := Lib.hid m5.held
  clear m5 e0 e1 e2
  have hle1 : w.heap.size ≤ w1.heap.size := by omega
  have hle2 : w1.heap.size ≤ w2.heap.size := b2.size
  have hle4 : w2.heap.size ≤ w4.heap.size := b4.size
  have hle5 : w4.heap.size ≤ w5.heap.size := b5.size
  go_wp2_with fail
  refine calls_abs (fun W => Below w5.heap.size w5 W ∧ Shelf w.heap.size W w5.heap.size [] [] [] w.heap.size w.heap.size w.heap.size) ⟨below_alloc _ _, shelfNew (by omega)⟩ ?_
  rintro w6 ⟨b6, k6⟩
  have u6 := h5a.out.below b6 (Nat.le_refl _)
  have y6 := h5b.out.below b6 (Nat.le_refl _)
  have s6 := Lib.hid (s5.out.to b6)
  refine (shelfNums k6 u6 (by omega) (by omega) (by omega) (by simp)).mono ?_
  rintro e w7 ⟨rfl, k7, b7, bk7⟩
  have y7 := y6.to (w' := w7) fun g cur hc => bk7 g cur _ hc (by decide) (by decide) (by decide) (by decide)
  have s7 := Lib.hid (s6.out.below b7 hs.pos)
  have b07 : Below w.heap.size w w7 := (bthen (bthen (bthen (bthen hb'.out b2) b4) b5) b6).trans b7
  clear u6 y6 k6 b7 bk7 s6
  go_wp2_with fail
  refine (shelfNums k7 y7 (by omega) (by omega) (by omega) (by simp)).mono ?_
  rintro e w8 ⟨rfl, k8, b8, bk8⟩
  have s8 := Lib.hid (s7.out.below b8 hs.pos)
  have b08 := b07.trans b8
  have hs8 := b08.size
  clear y7 k7 b8 bk8 s7
  go_wp2_with fail
  refine (shelfApart k8 hs8).mono ?_
  rintro e w9 ⟨rfl, b9⟩
  have s9 := s8.out.below b9 hs.pos
  have b09 := b08.trans b9
  clear k8 b9
  go_wp2_with fail
  refine (lives03 _ s9).mono ?_
  rintro e wx ⟨rfl, hbL⟩
  go_wp2_with fail
  go_ret
  exact ⟨rfl, bthen b09 hbL⟩
end Go.Proofs.YtodmkbbfmojifaaDoor
