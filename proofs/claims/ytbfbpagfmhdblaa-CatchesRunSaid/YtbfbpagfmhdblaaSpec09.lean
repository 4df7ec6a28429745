/- Catches: what a catch is, by what came. -/
import Derived.Test.YtbfbpagfmhdblaaFramesD
namespace Go.Proofs.Ytbfbpagfmhdblaa
open Go.RowKit
set_option linter.unusedSimpArgs false
set_option linter.unusedVariables false
/-- A symbol, as it is known. -/
def knownI (x : Int) : Int := if x = 1 ∨ x = 2 then x else 0
theorem knownI_in (x : Int) : knownI x = 0 ∨ knownI x = 1 ∨ knownI x = 2 := by
  unfold knownI
  split <;> omega
/-- The body's symbols. -/
def bodyI (N F : Nat → Int) (i : Nat) : Int := if N i ≠ 0 then N i else F i
/-- The first pair of n that was unlike. -/
def unlikeI (N F : Nat → Int) : Nat → Int
  | 0 => -1
  | n + 1 => if unlikeI N F n = -1 ∧ (N n ≠ F n ∨ N n = 0) then n else unlikeI N F n
/-- Is it cut off, behind n pairs? -/
def cutB (N F : Nat → Int) : Nat → Bool
  | 0 => false
  | n + 1 => cutB N F n || (decide (n < 112) && decide (bodyI N F n = 0))
/-- How many symbols its body has. -/
def lenB (N F : Nat → Int) : Nat → Nat
  | 0 => 0
  | n + 1 => if cutB N F n = true ∨ 112 ≤ n then lenB N F n else n + 1
theorem lenB_full {N F : Nat → Int} : ∀ {n : Nat}, cutB N F n = false → lenB N F n = min n 112
  | 0, _ => rfl
  | n + 1, h => by
    have h1 : cutB N F n = false := by simp only [cutB, Bool.or_eq_false_iff] at h; exact h.1
    rw [lenB, lenB_full h1, h1]
    by_cases h2 : 112 ≤ n
    · simp [h2]; omega
    · simp [h2]; omega
theorem cutB_mono {N F : Nat → Int} {n : Nat} (h : cutB N F n = true) : ∀ {m : Nat}, n ≤ m → cutB N F m = true
  | 0, hm => by obtain rfl : n = 0 := by omega
                exact h
  | m + 1, hm => by
    rcases Nat.lt_or_ge n (m + 1) with h1 | h1
    · simp only [cutB, cutB_mono h (m := m) (by omega), Bool.true_or]
    · obtain rfl : n = m + 1 := by omega
      exact h
theorem cutB_late {N F : Nat → Int} : ∀ {n : Nat}, 112 ≤ n → cutB N F n = cutB N F 112
  | 0, h => by omega
  | n + 1, h => by
    rcases Nat.lt_or_ge n 112 with h1 | h1
    · obtain rfl : n = 111 := by omega
      rfl
    · have h2 : ¬ n < 112 := by omega
      simp only [cutB, h2, decide_false, Bool.false_and, Bool.or_false]
      exact cutB_late h1
/-- Where it is not cut, its body is whole. -/
theorem body_whole {N F : Nat → Int} (hN : ∀ i, N i = 0 ∨ N i = 1 ∨ N i = 2) (hF : ∀ i, F i = 0 ∨ F i = 1 ∨ F i = 2) : ∀ {n : Nat}, n ≤ 112 → cutB N F n = false → wholeL (bodyI N F) n = true
  | 0, _, _ => rfl
  | n + 1, hn, h => by
    simp only [cutB, Bool.or_eq_false_iff] at h
    have h2 : decide (n < 112) = true := by simp; omega
    have h3 : ¬ bodyI N F n = 0 := by simpa [h2] using h.2
    have h4 : bodyI N F n = 1 ∨ bodyI N F n = 2 := by
      have a := hN n
      have b := hF n
      unfold bodyI at h3 ⊢
      split <;> simp_all <;> omega
    rw [wholeL, body_whole hN hF (by omega) h.1]
    rcases h4 with h4 | h4 <;> simp [h4]
/-- Is the body a frame of that owner's? -/
def isB (o : Int) (N F : Nat → Int) : Bool := decide (getE (bytesL (bodyI N F)) 14 = 0) && decide (bytesL (bodyI N F) 0 % 16 = o)
/-- Is it whole, behind 113 pairs; high, behind 114? -/
def wholeQ (o : Int) (N F : Nat → Int) : Bool := isB o N F && (decide (unlikeI N F 113 = -1) && (decide (N 112 = 2) && decide (F 112 = 2)))
def highQ (o : Int) (N F : Nat → Int) : Bool := wholeQ o N F && (decide (N 113 = 1) && decide (F 113 = 1))
/-- What is given at the n-th pair. -/
def outI (o : Int) (N F : Nat → Int) (n : Nat) : Int :=
  if 114 ≤ n ∨ cutB N F (n + 1) = true then 0 else if n < 112 then bodyI N F n else if n = 112 then (if wholeQ o N F then 2 else 1) else if highQ o N F then 1 else 2
end Go.Proofs.Ytbfbpagfmhdblaa
