/- Sums: what is summed leaves one remainder; what is turned within 32 neighbouring bits does not. -/
import Derived.Test.YtbfbpagfmhdblaaSumsU
namespace Go.Proofs.Ytbfbpagfmhdblaa
open Go.RowKit
set_option linter.unusedSimpArgs false
set_option linter.unusedVariables false
theorem regB_still {r0 : Nat} {m : Nat → Bool} {i : Nat} : ∀ {k : Nat}, (∀ j, i ≤ j → j < i + k → m j = false) → regB r0 m (i + k) = stepsN k (regB r0 m i)
  | 0, _ => rfl
  | k + 1, h => by
    show regB r0 m ((i + k) + 1) = _
    rw [regB, h (i + k) (by omega) (by omega), regB_still (k := k) fun j h1 h2 => h j h1 (by omega), stepsN, stepN, Bool.xor_false]
theorem tailB_bit (W j : Nat) (hj : j < 32) : (tailB W (j / 8)).toNat.testBit (7 - j % 8) = W.testBit (31 - j) := by
  unfold tailB
  rw [Int.toNat_natCast, show (256 : Nat) = 2 ^ 8 by decide, Nat.testBit_mod_two_pow, Nat.testBit_div_two_pow]
  have e : 8 * (3 - j / 8) + (7 - j % 8) = 31 - j := by omega
  rw [show 7 - j % 8 + 8 * (3 - j / 8) = 31 - j by omega]
  simp
  omega
theorem residue {L : Nat → Int} {n : Nat} (h : ∀ i, i < n + 4 → putS L n i = L i) : regB 4294967295 (bitU L) (8 * (n + 4)) = stepsN 32 4294967295 := by
  have h2 := regB_win (r0 := 4294967295) (m := bitU L) (W := sumN L n) (i := 8 * n) (k := 32) (by decide) (fun j hj => by
    have e1 : (8 * n + j) / 8 = n + j / 8 := by omega
    have e2 : (8 * n + j) % 8 = j % 8 := by omega
    have e3 := h (n + j / 8) (by omega)
    rw [putS, if_neg (by omega), Nat.add_sub_cancel_left] at e3
    rw [bitU, e1, e2, ← e3, tailB_bit _ _ hj])
  rcases h2 with h2 | h2
  · have e : sumN L n <<< 32 % 4294967296 = 0 := by rw [Nat.shiftLeft_eq]; omega
    rw [e, Nat.xor_zero, sumN_xor, Nat.xor_comm 4294967295, ← Nat.xor_assoc, Nat.xor_self, Nat.zero_xor] at h2
    rw [show 8 * (n + 4) = 8 * n + 32 by omega, ← h2]
  · have := sumN_lt L n
    omega
/-- The bits that are turned: i of them, from a first one on. -/
def errB (first bits i p : Nat) : Bool := decide (first ≤ p) && (decide (p < first + i) && bits.testBit (31 - (p - first)))
theorem burst {L S : Nat → Int} {n first bits : Nat} (hS : ∀ i, i < n + 4 → putS S n i = S i) (hf : first + 32 ≤ 8 * (n + 4)) (hb : 0 < bits) (hb2 : bits < 4294967296)
    (h : ∀ p, p < 8 * (n + 4) → bitU L p = (bitU S p ^^ errB first bits 32 p)) : okS L (n + 4) = false := by
  cases ho : okS L (n + 4) with
  | false => rfl
  | true =>
    exfalso
    simp only [okS, Nat.add_sub_cancel, Bool.and_eq_true, decide_eq_true_eq] at ho
    have h1 := residue (fun i hi => alikeB_true.1 ho.2 i hi)
    have h2 := residue hS
    have h3 := regB_xor 4294967295 0 (bitU S) (errB first bits 32) (8 * (n + 4))
    rw [Nat.xor_zero, ← regB_congr (m := bitU L) h, h1, h2] at h3
    have h4 : regB 0 (errB first bits 32) (8 * (n + 4)) = 0 := by
      have : stepsN 32 4294967295 ^^^ stepsN 32 4294967295 = stepsN 32 4294967295 ^^^ (stepsN 32 4294967295 ^^^ regB 0 (errB first bits 32) (8 * (n + 4))) := by rw [← h3]
      rw [← Nat.xor_assoc, Nat.xor_self, Nat.zero_xor] at this
      exact this.symm
    have h5 : regB 0 (errB first bits 32) first = 0 := by
      have := regB_still (r0 := 0) (m := errB first bits 32) (i := 0) (k := first) (fun j h1 h2 => by simp [errB]; omega)
      rw [Nat.zero_add] at this
      rw [this]
      exact stepsN_zero _
    have h6 := regB_win (r0 := 0) (m := errB first bits 32) (W := bits) (i := first) (k := 32) (by decide) (fun j hj => by
      simp [errB, hj])
    rcases h6 with h6 | h6
    · have e : bits <<< 32 % 4294967296 = 0 := by rw [Nat.shiftLeft_eq]; omega
      rw [e, Nat.xor_zero, h5, Nat.zero_xor] at h6
      have h7 := regB_still (r0 := 0) (m := errB first bits 32) (i := first + 32) (k := 8 * (n + 4) - (first + 32)) (fun j h1 h2 => by simp [errB]; omega)
      rw [show first + 32 + (8 * (n + 4) - (first + 32)) = 8 * (n + 4) by omega, h4, ← h6] at h7
      have h8 := stepsN_none (stepsN_lt hb2 32) h7.symm
      have := stepsN_none hb2 h8
      omega
    · omega
/-- One bit more is turned, or stays. -/
theorem err_more {first bits i p : Nat} (hi : i < 32) : errB first bits (i + 1) p = (errB first bits i p ^^ (decide (p = first + i) && bits.testBit (31 - i))) := by
  unfold errB
  by_cases h1 : p = first + i
  · subst h1
    simp
  · by_cases h2 : p < first + i
    · simp [h1, h2, show p < first + (i + 1) by omega]
    · have h3 : ¬ p < first + (i + 1) := by omega
      simp [h1, h2, h3]
theorem one_bit : ∀ m x : Fin 8, (128 >>> (m : Nat)).testBit (7 - (x : Nat)) = decide ((x : Nat) = m) := by decide
/-- A byte with one bit turned. -/
def flipL (L : Nat → Int) (q : Nat) (p : Nat) : Int := if p = q / 8 then (((L p).toNat ^^^ 128 >>> (q % 8) : Nat) : Int) else L p
theorem flip_bit {L : Nat → Int} {q p : Nat} : bitU (flipL L q) p = (bitU L p ^^ decide (p = q)) := by
  unfold bitU flipL
  split
  · rename_i h
    rw [Int.toNat_natCast, Nat.testBit_xor]
    have := one_bit ⟨q % 8, by omega⟩ ⟨p % 8, by omega⟩
    simp only at this
    rw [this]
    congr 1
    simp only [decide_eq_decide]
    omega
  · rename_i h
    have : p ≠ q := by intro e; exact h (by rw [e])
    simp [this]
theorem flip_byte {L : Nat → Int} {q : Nat} {n : Nat} (h : ∀ i, i < n → 0 ≤ L i ∧ L i < 256) : ∀ i, i < n → 0 ≤ flipL L q i ∧ flipL L q i < 256 := fun i hi => by
  unfold flipL
  split
  · have h1 := h i hi
    have h2 : (128 : Nat) >>> (q % 8) < 256 := by
      have := Nat.shiftRight_le 128 (q % 8)
      omega
    have h3 : (L i).toNat ^^^ 128 >>> (q % 8) < 2 ^ 8 := Nat.xor_lt_two_pow (by omega) h2
    constructor
    · exact Int.natCast_nonneg _
    · have : (((L i).toNat ^^^ 128 >>> (q % 8) : Nat) : Int) < ((256 : Nat) : Int) := Int.ofNat_lt.2 h3
      exact this
  · exact h i hi
end Go.Proofs.Ytbfbpagfmhdblaa
