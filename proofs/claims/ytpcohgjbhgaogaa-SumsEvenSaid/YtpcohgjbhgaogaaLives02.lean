/- Sums: the chapter's examples. -/
import Derived.Test.YtpcohgjbhgaogaaSumsT
import Derived.Test.YtpcohgjbhgaogaaHelpBytes
import Derived.Lib.SlBytesConst
namespace Go.Proofs.Ytpcohgjbhgaogaa
open Go.RowKit
set_option linter.unusedSimpArgs false
set_option linter.unusedVariables false
set_option maxRecDepth 100000
theorem putS_put (L : Nat → Int) (n i : Nat) : putS (putS L n) n i = putS L n i := by
  have e : sumN (putS L n) n = sumN L n := sumN_congr fun j hj => by simp [putS, hj]
  unfold putS
  split
  · rfl
  · rw [show (fun i => if i < n then L i else tailB (sumN L n) (i - n)) = putS L n from rfl, e]
theorem okS_put (L : Nat → Int) (n : Nat) : okS (putS L n) (n + 4) = true := by
  simp only [okS, Nat.add_sub_cancel, Bool.and_eq_true, decide_eq_true_eq]
  exact ⟨by omega, alikeB_true.2 fun i _ => putS_put L n i⟩
theorem cntS_put (L : Nat → Int) (n : Nat) : cntS (putS L n) (n + 4) = n := by simp [cntS, okS_put]
theorem putS_byte {L : Nat → Int} {n : Nat} (h : ∀ i, i < n → 0 ≤ L i ∧ L i < 256) (i : Nat) : i < n + 4 → 0 ≤ putS L n i ∧ putS L n i < 256 := fun hi => by
  unfold putS
  split
  · exact h i (by assumption)
  · unfold tailB
    omega
theorem litL_byte {l : List Int} (h : ∀ x ∈ l, 0 ≤ x ∧ x < 256) : ∀ i, i < l.length → 0 ≤ litL l i ∧ litL l i < 256 := fun i hi => by
  have e : litL l i = l[i] := by simp [litL, hi]
  rw [e]
  exact h _ (List.getElem_mem hi)
/-- One part that the text writes out. -/
theorem partsLit (w : World) (l : List Int) (hl : l.length ≤ 1000) (h : ∀ x ∈ l, 0 ≤ x ∧ x < 256) :
    Parts ((w.alloc (.cells (l.map (Value.int .u8)).toArray 5)).alloc (.cells #[.slice (some ⟨w.heap.size, 0, none⟩) l.length l.length] 22)) (some ⟨w.heap.size + 1, 0, none⟩) 1
      (fun _ => some ⟨w.heap.size, 0, none⟩) (fun _ => l.length) (fun _ => l.length) (fun _ => litL l) := by
  have hB := Blk.new (w.alloc (.cells (l.map (Value.int .u8)).toArray 5)) #[.slice (some ⟨w.heap.size, 0, none⟩) l.length l.length] 22
  have hc := hB.cell (i := 0) rfl
  rw [show (w.alloc (.cells (l.map (Value.int .u8)).toArray 5)).heap.size = w.heap.size + 1 by simp] at hc
  exact parts_one hc ((rdLit .u8 5 w l).below (below_alloc _ _) (Nat.le_refl _)) ⟨Nat.le_refl _, by omega, fun e => by simp at e⟩ (litL_byte h)
theorem rdLitF (w : World) (l : List Int) (fr : Nat × Nat) : Rd .u8 (w.alloc (.cells (l.map (Value.int .u8)).toArray 5 fr)) (some ⟨w.heap.size, 0, none⟩) l.length (litL l) := fun i hi =>
  ⟨_, 0, rfl, by rw [Nat.zero_add, World.cell?_alloc_mark]; simp [litL, hi]⟩
theorem partsLitF (w : World) (l : List Int) (fr : Nat × Nat) (hl : l.length ≤ 1000) (h : ∀ x ∈ l, 0 ≤ x ∧ x < 256) :
    Parts ((w.alloc (.cells (l.map (Value.int .u8)).toArray 5 fr)).alloc (.cells #[.slice (some ⟨w.heap.size, 0, none⟩) l.length l.length] 22)) (some ⟨w.heap.size + 1, 0, none⟩) 1
      (fun _ => some ⟨w.heap.size, 0, none⟩) (fun _ => l.length) (fun _ => l.length) (fun _ => litL l) := by
  have hB := Blk.new (w.alloc (.cells (l.map (Value.int .u8)).toArray 5 fr)) #[.slice (some ⟨w.heap.size, 0, none⟩) l.length l.length] 22
  have hc := hB.cell (i := 0) rfl
  rw [show (w.alloc (.cells (l.map (Value.int .u8)).toArray 5 fr)).heap.size = w.heap.size + 1 by simp] at hc
  exact parts_one hc ((rdLitF w l fr).below (below_alloc _ _) (Nat.le_refl _)) ⟨Nat.le_refl _, by omega, fun e => by simp at e⟩ (litL_byte h)
theorem parts_nil (w : World) (ap : Option Addr) : Parts w ap 0 (fun _ => none) (fun _ => 0) (fun _ => 0) (fun _ _ => 0) := fun i hi => absurd hi (Nat.not_lt_zero _)
theorem sumN_ex : sumN (litL [49, 50, 51, 52, 53, 54, 55, 56, 57]) 9 = 4236843288 := by
  have h0 : regB 4294967295 (bitU (litL [49, 50, 51, 52, 53, 54, 55, 56, 57])) (8 * 0) = 4294967295 := rfl
  have h1 : regB 4294967295 (bitU (litL [49, 50, 51, 52, 53, 54, 55, 56, 57])) (8 * (0 + 1)) = 2667302803 := by
    rw [← regB_byte 4294967295 _ 0 (by decide), h0]
    decide +kernel
  have h2 : regB 4294967295 (bitU (litL [49, 50, 51, 52, 53, 54, 55, 56, 57])) (8 * (1 + 1)) = 1072455274 := by
    rw [← regB_byte 4294967295 _ 1 (by decide), h1]
    decide +kernel
  have h3 : regB 4294967295 (bitU (litL [49, 50, 51, 52, 53, 54, 55, 56, 57])) (8 * (2 + 1)) = 3646091620 := by
    rw [← regB_byte 4294967295 _ 2 (by decide), h2]
    decide +kernel
  have h4 : regB 4294967295 (bitU (litL [49, 50, 51, 52, 53, 54, 55, 56, 57])) (8 * (3 + 1)) = 2794833066 := by
    rw [← regB_byte 4294967295 _ 3 (by decide), h3]
    decide +kernel
  have h5 : regB 4294967295 (bitU (litL [49, 50, 51, 52, 53, 54, 55, 56, 57])) (8 * (4 + 1)) = 3181033287 := by
    rw [← regB_byte 4294967295 _ 4 (by decide), h4]
    decide +kernel
  have h6 : regB 4294967295 (bitU (litL [49, 50, 51, 52, 53, 54, 55, 56, 57])) (8 * (5 + 1)) = 3639635087 := by
    rw [← regB_byte 4294967295 _ 5 (by decide), h5]
    decide +kernel
  have h7 : regB 4294967295 (bitU (litL [49, 50, 51, 52, 53, 54, 55, 56, 57])) (8 * (6 + 1)) = 227153092 := by
    rw [← regB_byte 4294967295 _ 6 (by decide), h6]
    decide +kernel
  have h8 : regB 4294967295 (bitU (litL [49, 50, 51, 52, 53, 54, 55, 56, 57])) (8 * (7 + 1)) = 1239663355 := by
    rw [← regB_byte 4294967295 _ 7 (by decide), h7]
    decide +kernel
  have h9 : regB 4294967295 (bitU (litL [49, 50, 51, 52, 53, 54, 55, 56, 57])) (8 * (8 + 1)) = 58124007 := by
    rw [← regB_byte 4294967295 _ 8 (by decide), h8]
    decide +kernel
  show 4294967295 - regB 4294967295 (bitU (litL [49, 50, 51, 52, 53, 54, 55, 56, 57])) (8 * (8 + 1)) = 4236843288
  rw [h9]
theorem sumN_nil (L : Nat → Int) : sumN L 0 = 0 := by
  have e : regB 4294967295 (bitU L) (8 * 0) = 4294967295 := rfl
  rw [sumN, e]
set_option maxHeartbeats 1000000 in
theorem lives02 (w : World) : Calls Try.prog 8 #[] w fun e w' => e = .returned (.bool true) ∧ Below w.heap.size w w' := by
  have hS : Hid (sumN (litL [49, 50, 51, 52, 53, 54, 55, 56, 57]) 9 = 4236843288) := sumN_ex
  have hS0 : Hid (∀ L, sumN L 0 = 0) := sumN_nil
  go_enter Try.func8, Try.ntmps8
  go_wp2_with fail
  refine calls_abs (fun W => Below w.heap.size w W ∧ Parts W (some ⟨w.heap.size + 1, 0, none⟩) 1 (fun _ => some ⟨w.heap.size, 0, none⟩) (fun _ => 1) (fun _ => 1) (fun _ => litL [7])) ⟨(below_alloc _ _).alloc (by simp) _, partsLit w [7] (by decide) (by decide)⟩ ?_
  rintro w1 ⟨hb, hP⟩
  have P1 := sumsPut w1 _ _ 1 _ _ _ _ hP (by omega) (by rw [catN_one]; omega)
  rw [catN_one] at P1
  refine P1.mono ?_
  clear P1
  rintro e w2 ⟨a2, rfl, m2, hb2⟩
  have m2' := Lib.hid (m2.congr (L' := putS (litL [7]) 1) fun i _ => putS_congr (fun i _ => catL_one 1 (litL [7]) i) i)
  replace hb := bthen hb hb2
  clear m2 hb2 hP
  go_wp2_with fail
  refine (sumsCheck w2 a2 5 5 _ m2'.out.rd ⟨Nat.le_refl _, by omega, m2'.out.none⟩ (fun i hi => putS_byte (n := 1) (litL_byte (l := [7]) (by decide)) i hi) (by omega)).mono ?_
  rintro e w3 ⟨a3, rfl, m3, hb3⟩
  rw [cntS_put (litL [7]) 1] at m3
  rw [cntS_put (litL [7]) 1, okS_put (litL [7]) 1]
  have m3' := Lib.hid (m3.congr (L' := litL [7]) fun i hi => by simp [putS, hi])
  replace hb := bthen hb hb3
  clear m3 hb3 m2'
  go_wp2_with fail
  refine calls_abs (fun W => Below w3.heap.size w3 W ∧ Rd .u8 W (some ⟨w3.heap.size, 0, none⟩) 3 (litL [1, 2, 3])) ⟨below_alloc _ _, rdLit _ _ _ [1, 2, 3]⟩ ?_
  rintro w4 ⟨hb4, r4⟩
  have hk : okS (litL [1, 2, 3]) 3 = false := by decide
  have hk2 : cntS (litL [1, 2, 3]) 3 = 0 := by simp [cntS, hk]
  refine (sumsCheck w4 _ 3 3 _ r4 ⟨Nat.le_refl _, by omega, fun e => by simp at e⟩ (litL_byte (l := [1, 2, 3]) (by decide)) (by omega)).mono ?_
  rintro e w5 ⟨a5, rfl, m5, hb5⟩
  rw [hk, hk2]
  have m5' := Lib.hid (m3'.out.below (bthen hb4 hb5) (Nat.le_refl _))
  replace hb := bthen (bthen hb hb4) hb5
  clear m5 hb5 hb4 m3' r4 hk hk2
  have kc := Lib.run_convert_bytes_const (P := Try.prog) w5 22 5 #[.int .u8 49, .int .u8 50, .int .u8 51, .int .u8 52, .int .u8 53, .int .u8 54, .int .u8 55, .int .u8 56, .int .u8 57] 9 9 Try.underlying22 Try.underlying5
  go_wp2_with fail
  refine calls_abs (fun W => Below w5.heap.size w5 W ∧ Parts W (some ⟨w5.heap.size + 1, 0, none⟩) 1 (fun _ => some ⟨w5.heap.size, 0, none⟩) (fun _ => 9) (fun _ => 9) (fun _ => litL [49, 50, 51, 52, 53, 54, 55, 56, 57])) ⟨(below_alloc _ _).alloc (by simp) _, partsLitF w5 [49, 50, 51, 52, 53, 54, 55, 56, 57] (9, 10) (by decide) (by decide)⟩ ?_
  rintro w6 ⟨hb6, hP6⟩
  have P6 := sumsOf w6 _ _ 1 _ _ _ _ hP6 (by omega) (by rw [catN_one]; omega)
  rw [catN_one, sumN_congr (fun i _ => catL_one 9 (litL [49, 50, 51, 52, 53, 54, 55, 56, 57]) i), hS.out] at P6
  refine P6.mono ?_
  clear P6 hP6
  rintro e w7 ⟨rfl, hb7⟩
  have m7 := Lib.hid (m5'.out.below (bthen hb6 hb7) (Nat.le_refl _))
  replace hb := bthen (bthen hb hb6) hb7
  clear hb6 hb7 m5'
  go_wp2_with fail
  have P8 := sumsOf w7 none 0 0 _ _ _ _ (parts_nil w7 none) (by omega) (by simp [catN])
  rw [show catN (fun _ => 0) 0 = 0 from rfl, hS0.out] at P8
  refine P8.mono ?_
  clear P8
  rintro e w8 ⟨rfl, hb8⟩
  have m8 := Lib.hid (m7.out.below hb8 (Nat.le_refl _))
  replace hb := bthen hb hb8
  clear hb8 m7
  go_wp2_with fail
  refine calls_abs (fun W => Below w8.heap.size w8 W ∧ Rd .u8 W (some ⟨w8.heap.size, 0, none⟩) 1 (litL [7])) ⟨below_alloc _ _, rdLit _ _ _ [7]⟩ ?_
  rintro w9 ⟨hb9, r9⟩
  refine (sameBytes _ _ _ _ _ _ _ (m8.out.below hb9 (Nat.le_refl _)).rd r9 (by decide)).mono ?_
  rintro e w10 ⟨rfl, q10, rfl⟩
  replace hb := bthen (bthen hb hb9) (below_drewN _ q10)
  clear m8 hb9 r9
  generalize w9.drewN q10 = w10 at *
  go_wp2_with fail
  go_ret
  exact ⟨rfl, hb⟩
end Go.Proofs.Ytpcohgjbhgaogaa
