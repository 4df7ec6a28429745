/- Bits: the chapter's examples. -/
import Derived.Test.YtdcfoapgafiigaaBitsS
import Derived.Test.YtdcfoapgafiigaaHelpSyms
namespace Go.Proofs.Ytdcfoapgafiigaa
open Go.RowKit
set_option linter.unusedSimpArgs false
set_option linter.unusedVariables false
set_option maxRecDepth 100000
set_option maxHeartbeats 1000000 in
theorem lives01 (w : World) : Calls Try.prog 9 #[] w fun e w' => e = .returned (.bool true) ∧ Below w.heap.size w w' := by
  have hN : numR (litL [2, 2, 1]) 3 = (6, true) := by decide
  have hO : ∀ i, i < 8 → ofL (litL [5]) i = litL [1, 1, 1, 1, 1, 2, 1, 2] i := by decide
  have hP : ∀ i, i < 4 → putL (fun _ => 0) 0 5 4 i = litL [1, 2, 1, 2] i := by decide
  have hT : ∀ i, i < 3 → turnL (litL [2, 2, 1]) (litL [0, 2, 2, 9]) 4 i = litL [1, 2, 1] i := by decide
  replace hN := Lib.hid hN
  replace hO := Lib.hid hO
  replace hP := Lib.hid hP
  replace hT := Lib.hid hT
  go_enter Try.func9, Try.ntmps9
  go_wp2_with fail
  refine calls_abs (fun W => Below w.heap.size w W ∧ Rd .u8 W (some ⟨w.heap.size, 0, none⟩) 3 (litL [2, 2, 1])) ⟨below_alloc _ _, rdLit _ _ _ [2, 2, 1]⟩ ?_
  rintro w1 ⟨hb, r⟩
  refine (bitsNum _ _ _ _ _ r (by decide)).mono ?_
  rintro e _ ⟨rfl, rfl⟩
  rw [hN.out]
  clear r
  go_wp2_with fail
  refine calls_abs (fun W => Below w1.heap.size w1 W ∧ Rd .u8 W (some ⟨w1.heap.size, 0, none⟩) 1 (litL [5])) ⟨below_alloc _ _, rdLit _ _ _ [5]⟩ ?_
  rintro w2 ⟨hb2, r⟩
  refine (ofSyms _ _ _ _ _ r (by decide) (by decide)).mono ?_
  rintro e w3 ⟨a1, rfl, m1, hb3⟩
  replace hb := bthen (bthen hb hb2) hb3
  replace m1 := m1.congr hO.out
  have m1' := Lib.hid m1
  clear r hb2 hb3 m1
  go_wp2_with fail
  refine calls_abs (fun W => Below w3.heap.size w3 W ∧ Rd .u8 W (some ⟨w3.heap.size, 0, none⟩) 8 (litL [1, 1, 1, 1, 1, 2, 1, 2])) ⟨below_alloc _ _, rdLit _ _ _ [1, 1, 1, 1, 1, 2, 1, 2]⟩ ?_
  rintro w4 ⟨hb4, r⟩
  refine (sameSyms _ _ _ _ _ _ _ (m1'.out.below hb4 (Nat.le_refl _)).rd r (by decide)).mono ?_
  rintro e w5 ⟨rfl, q5, rfl⟩
  replace hb := bthen (bthen hb hb4) (below_drewN _ q5)
  clear m1' hb4 r
  generalize w4.drewN q5 = w5 at *
  go_wp2_with fail
  refine (bitsPut _ none 0 0 (fun _ => 0) 5 4 (fun i hi => absurd hi (by omega)) (fun _ => ⟨rfl, rfl⟩) (by decide) (by decide)).mono ?_
  rintro e w6 ⟨a2, rfl, m2, hb6⟩
  replace hb := bthen hb hb6
  have m2' := Lib.hid (m2.congr hP.out)
  clear m2 hb6
  go_wp2_with fail
  refine calls_abs (fun W => Below w6.heap.size w6 W ∧ Rd .u8 W (some ⟨w6.heap.size, 0, none⟩) 4 (litL [1, 2, 1, 2])) ⟨below_alloc _ _, rdLit _ _ _ [1, 2, 1, 2]⟩ ?_
  rintro w7 ⟨hb7, r⟩
  refine (sameSyms _ _ _ _ _ _ _ (m2'.out.below hb7 (Nat.le_refl _)).rd r (by decide)).mono ?_
  rintro e w8 ⟨rfl, q8, rfl⟩
  replace hb := bthen (bthen hb hb7) (below_drewN _ q8)
  clear m2' hb7 r
  generalize w7.drewN q8 = w8 at *
  go_wp2_with fail
  refine calls_abs (fun W => Below w8.heap.size w8 W ∧ Rd .u8 W (some ⟨w8.heap.size, 0, none⟩) 3 (litL [2, 2, 1]) ∧ Rd .i64 W (some ⟨w8.heap.size + 1, 0, none⟩) 4 (litL [0, 2, 2, 9])) ⟨(below_alloc _ _).alloc (by simp) _, (rdLit _ _ _ [2, 2, 1]).below (below_alloc _ _) (Nat.le_refl _), rdLit2 _ _ _ _ [0, 2, 2, 9]⟩ ?_
  rintro w9 ⟨hb9, r1, r2⟩
  refine (bitsTurn _ _ _ _ _ _ _ _ _ r1 r2 (fun h => by simp at h) (by decide) (by decide)).mono ?_
  rintro e w10 ⟨a3, rfl, m3, hb10⟩
  replace hb := bthen (bthen hb hb9) hb10
  have m3' := Lib.hid (m3.congr hT.out)
  clear r1 r2 m3 hb9 hb10
  go_wp2_with fail
  refine calls_abs (fun W => Below w10.heap.size w10 W ∧ Rd .u8 W (some ⟨w10.heap.size, 0, none⟩) 3 (litL [1, 2, 1])) ⟨below_alloc _ _, rdLit _ _ _ [1, 2, 1]⟩ ?_
  rintro w11 ⟨hb11, r⟩
  refine (sameSyms _ _ _ _ _ _ _ (m3'.out.below hb11 (Nat.le_refl _)).rd r (by decide)).mono ?_
  rintro e w12 ⟨rfl, q12, rfl⟩
  replace hb := bthen (bthen hb hb11) (below_drewN _ q12)
  clear m3' hb11 r
  go_wp2_with fail
  go_ret
  exact ⟨rfl, hb⟩
end Go.Proofs.Ytdcfoapgafiigaa
