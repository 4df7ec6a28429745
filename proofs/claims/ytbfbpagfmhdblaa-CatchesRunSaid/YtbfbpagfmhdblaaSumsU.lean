/- Sums (beside the law): the chapter's examples. -/
import Derived.Test.YtbfbpagfmhdblaaSumsT
import Derived.Test.YtbfbpagfmhdblaaHelpBytes
import Derived.Lib.SlBytesConst
namespace Go.Proofs.Ytbfbpagfmhdblaa
open Go.RowKit
set_option linter.unusedSimpArgs false
set_option linter.unusedVariables false
set_option maxRecDepth 100000
theorem putS_put (L : Nat → Int) (n i : Nat) : putS (putS L n) n i = putS L n i := by
  have e : sumN (putS L n) n = sumN L n := sumN_congr fun j hj => by simp [putS, hj]
  unfold putS
  split
  · rfl
  · rw [show (fun i => if i < n then L i else tailB (sumN L n) (i - n)) = putS L n from rfl, e]
theorem okS_put (L : Nat → Int) (n : Nat) : okS (putS L n) (n + 4) = true := by
  simp only [okS, Nat.add_sub_cancel, Bool.and_eq_true, decide_eq_true_eq]
  exact ⟨by omega, alikeB_true.2 fun i _ => putS_put L n i⟩
theorem cntS_put (L : Nat → Int) (n : Nat) : cntS (putS L n) (n + 4) = n := by simp [cntS, okS_put]
theorem putS_byte {L : Nat → Int} {n : Nat} (h : ∀ i, i < n → 0 ≤ L i ∧ L i < 256) (i : Nat) : i < n + 4 → 0 ≤ putS L n i ∧ putS L n i < 256 := fun hi => by
  unfold putS
  split
  · exact h i (by assumption)
  · unfold tailB
    omega
theorem litL_byte {l : List Int} (h : ∀ x ∈ l, 0 ≤ x ∧ x < 256) : ∀ i, i < l.length → 0 ≤ litL l i ∧ litL l i < 256 := fun i hi => by
  have e : litL l i = l[i] := by simp [litL, hi]
  rw [e]
  exact h _ (List.getElem_mem hi)
/-- One part that the text writes out. -/
theorem partsLit (w : World) (l : List Int) (hl : l.length ≤ 1000) (h : ∀ x ∈ l, 0 ≤ x ∧ x < 256) :
    Parts ((w.alloc (.cells (l.map (Value.int .u8)).toArray 5)).alloc (.cells #[.slice (some ⟨w.heap.size, 0, none⟩) l.length l.length] 29)) (some ⟨w.heap.size + 1, 0, none⟩) 1
      (fun _ => some ⟨w.heap.size, 0, none⟩) (fun _ => l.length) (fun _ => l.length) (fun _ => litL l) := by
  have hB := Blk.new (w.alloc (.cells (l.map (Value.int .u8)).toArray 5)) #[.slice (some ⟨w.heap.size, 0, none⟩) l.length l.length] 29
  have hc := hB.cell (i := 0) rfl
  rw [show (w.alloc (.cells (l.map (Value.int .u8)).toArray 5)).heap.size = w.heap.size + 1 by simp] at hc
  exact parts_one hc ((rdLit .u8 5 w l).below (below_alloc _ _) (Nat.le_refl _)) ⟨Nat.le_refl _, by omega, fun e => by simp at e⟩ (litL_byte h)
theorem rdLitF (w : World) (l : List Int) (fr : Nat × Nat) : Rd .u8 (w.alloc (.cells (l.map (Value.int .u8)).toArray 5 fr)) (some ⟨w.heap.size, 0, none⟩) l.length (litL l) := fun i hi =>
  ⟨_, 0, rfl, by rw [Nat.zero_add, World.cell?_alloc_mark]; simp [litL, hi]⟩
theorem partsLitF (w : World) (l : List Int) (fr : Nat × Nat) (hl : l.length ≤ 1000) (h : ∀ x ∈ l, 0 ≤ x ∧ x < 256) :
    Parts ((w.alloc (.cells (l.map (Value.int .u8)).toArray 5 fr)).alloc (.cells #[.slice (some ⟨w.heap.size, 0, none⟩) l.length l.length] 29)) (some ⟨w.heap.size + 1, 0, none⟩) 1
      (fun _ => some ⟨w.heap.size, 0, none⟩) (fun _ => l.length) (fun _ => l.length) (fun _ => litL l) := by
  have hB := Blk.new (w.alloc (.cells (l.map (Value.int .u8)).toArray 5 fr)) #[.slice (some ⟨w.heap.size, 0, none⟩) l.length l.length] 29
  have hc := hB.cell (i := 0) rfl
  rw [show (w.alloc (.cells (l.map (Value.int .u8)).toArray 5 fr)).heap.size = w.heap.size + 1 by simp] at hc
  exact parts_one hc ((rdLitF w l fr).below (below_alloc _ _) (Nat.le_refl _)) ⟨Nat.le_refl _, by omega, fun e => by simp at e⟩ (litL_byte h)
theorem parts_nil (w : World) (ap : Option Addr) : Parts w ap 0 (fun _ => none) (fun _ => 0) (fun _ => 0) (fun _ _ => 0) := fun i hi => absurd hi (Nat.not_lt_zero _)
theorem sumN_nil (L : Nat → Int) : sumN L 0 = 0 := by
  have e : regB 4294967295 (bitU L) (8 * 0) = 4294967295 := rfl
  rw [sumN, e]
end Go.Proofs.Ytbfbpagfmhdblaa
