/- Rings: the chapter's examples. -/
import Derived.Test.YtodmkbbfmojifaaDoorRingsG
import Derived.Test.YtodmkbbfmojifaaDoorSameNums
namespace Go.Proofs.YtodmkbbfmojifaaDoor
open Go.RowKit
set_option linter.unusedSimpArgs false
set_option linter.unusedVariables false
set_option maxRecDepth 100000
theorem below_cell' {B : Nat} {w w' : World} {a : Addr} {v : Value} (hb : Below B w w') (hlt : a.block < B) (h : w.cell? a = some v) : w'.cell? a = some v := below_cell h hb hlt
set_option maxHeartbeats 2000000 in
theorem lives03 (w : World) (hs : Signs w) : Calls Tryd.prog 14 #[] w fun e w' => e = .returned (.bool true) ∧ Below w.heap.size w w' := by
  have hE : endsV 6 15 = .tuple #[.int .i64 3, .int .i64 1, .int .u8 1, .int .i64 2] := by
    have e1 : endF 6 15 = 3 := by decide +kernel
    have e2 : endT 6 15 = 1 := by decide +kernel
    have e3 : endD 6 15 = 1 := by decide +kernel
    have e4 : endH 6 15 = 2 := by decide +kernel
    simp [endsV, e1, e2, e3, e4]
  have hP : ∀ a, pathV 6 0 0 5 1 a = .tuple #[.slice a 2 2, .bool true] := fun a => by
    have h1 : pathN 6 0 0 5 1 = 2 := by decide +kernel
    have h2 : pathOk 6 0 0 5 1 = true := by decide +kernel
    simp [pathV, h1, h2]
  have hQ : ∀ a, pathV 6 0 0 5 2 a = .tuple #[.slice a 2 2, .bool true] := fun a => by
    have h1 : pathN 6 0 0 5 2 = 2 := by decide +kernel
    have h2 : pathOk 6 0 0 5 2 = true := by decide +kernel
    simp [pathV, h1, h2]
  have nP : pathN 6 0 0 5 1 = 2 := by decide +kernel
  have nQ : pathN 6 0 0 5 2 = 2 := by decide +kernel
  have lP : ∀ i, i < 2 → pathL 6 0 0 5 1 i = litL [2, 4] i := by decide +kernel
  have lQ : ∀ i, i < 2 → pathL 6 0 0 5 2 i = litL [1, 3] i := by decide +kernel
  have a1 : stepI 6 1 1 2 = 5 := by decide +kernel
  have a2 : distI 6 0 4 1 = 3 := by decide +kernel
  have a3 : srcI 6 0 0 2 = 4 := by decide +kernel
  have a4 : linkI 6 1 3 2 = 15 := by decide +kernel
  have a5 : placeI 6 1 2 1 = 2 := by decide +kernel
  replace hE := Lib.hid hE
  replace hP := Lib.hid hP
  replace hQ := Lib.hid hQ
  replace lP := Lib.hid lP
  replace lQ := Lib.hid lQ
  replace nP := Lib.hid nP
  replace nQ := Lib.hid nQ
  replace a1 := Lib.hid a1
  replace a2 := Lib.hid a2
  replace a3 := Lib.hid a3
  replace a4 := Lib.hid a4
  replace a5 := Lib.hid a5
  go_enter Tryd.func14, Tryd.ntmps14
  go_wp2_with fail
  refine (ringsEnds _ _ _ hs).mono ?_
  rintro e w1 ⟨rfl, q1, rfl⟩
  rw [hE.out]
  have b1 := below_drewN w q1
  generalize w.drewN q1 = w1 at *
  go_wp2_with fail
  refine (ringsPath _ _ _ _ _ _ (hs.to b1) (by decide)).mono ?_
  rintro e w2 ⟨al, rfl, m2, b2⟩
  rw [hP.out]
  rw [nP.out] at m2
  replace m2 := Lib.hid (m2.congr lP.out)
  have b12 := bthen b1 b2
  go_wp2_with fail
  refine (ringsPath _ _ _ _ _ _ (hs.to b12) (by decide)).mono ?_
  rintro e w3 ⟨bl, rfl, m3, b3⟩
  rw [hQ.out]
  rw [nQ.out] at m3
  replace m3 := Lib.hid (m3.congr lQ.out)
  have b13 := bthen b12 b3
  have h3 := hs.to b13
  go_wp2_with fail
  refine (ringsStep _ 6 1 1 2 h3 (by decide)).mono ?_
  rintro e w4 ⟨rfl, q4, rfl⟩
  rw [a1.out]
  have b4 := below_drewN w3 q4
  generalize w3.drewN q4 = w4 at *
  go_wp2_with fail
  refine (ringsDistance _ 6 0 4 1 (h3.to b4) (by decide)).mono ?_
  rintro e w5 ⟨rfl, q5, rfl⟩
  rw [a2.out]
  replace b4 := bthen b4 (below_drewN w4 q5)
  generalize w4.drewN q5 = w5 at *
  go_wp2_with fail
  refine (ringsSource _ 6 0 0 2 (h3.to b4) (by decide)).mono ?_
  rintro e w6 ⟨rfl, q6, rfl⟩
  rw [a3.out]
  replace b4 := bthen b4 (below_drewN w5 q6)
  generalize w5.drewN q6 = w6 at *
  go_wp2_with fail
  refine (ringsLink _ 6 1 3 2 (by decide)).mono ?_
  rintro e _ ⟨rfl, rfl⟩
  rw [a4.out]
  go_wp2_with fail
  refine (ringsPlace _ 6 1 2 1 (h3.to b4) (by decide)).mono ?_
  rintro e w8 ⟨rfl, q8, rfl⟩
  rw [a5.out]
  replace b4 := bthen b4 (below_drewN w6 q8)
  generalize w6.drewN q8 = w8 at *
  go_wp2_with fail
  refine calls_abs (fun W => Below w8.heap.size w8 W ∧ Rd .i64 W (some ⟨w8.heap.size, 0, none⟩) 2 (litL [2, 4])) ⟨below_alloc _ _, rdLit _ _ _ [2, 4]⟩ ?_
  rintro w9 ⟨b9, r9⟩
  refine (whetherNums _ _ _ 2 2 _ _ _ _ (m2.out.below (bthen (bthen b3 b4) b9) (Nat.le_refl _)).rd r9 (by decide)).mono ?_
  rintro e w10 ⟨rfl, q10, rfl⟩
  rw [show (decide (2 = 2) && alikeNums (litL [2, 4]) (litL [2, 4]) 2) = true by decide]
  have b10 := bthen b9 (below_drewN w9 q10)
  generalize w9.drewN q10 = w10 at *
  go_wp2_with fail
  refine calls_abs (fun W => Below w10.heap.size w10 W ∧ Rd .i64 W (some ⟨w10.heap.size, 0, none⟩) 2 (litL [1, 3])) ⟨below_alloc _ _, rdLit _ _ _ [1, 3]⟩ ?_
  rintro w11 ⟨b11, r11⟩
  refine (whetherNums _ _ _ 2 2 _ _ _ _ (m3.out.below (bthen (bthen b4 b10) b11) (Nat.le_refl _)).rd r11 (by decide)).mono ?_
  rintro e w12 ⟨rfl, q12, rfl⟩
  rw [show (decide (2 = 2) && alikeNums (litL [1, 3]) (litL [1, 3]) 2) = true by decide]
  go_wp2_with fail
  go_ret
  exact ⟨rfl, bthen (bthen (bthen (bthen b13 b4) b10) b11) (below_drewN _ q12)⟩
end Go.Proofs.YtodmkbbfmojifaaDoor
