/- Bits: what symbols, bytes and numbers are of one another: plain laws, no program. -/
import Derived.Below
namespace Go.Proofs.Ytbfbpagfmhdblaa
/-- Bit j of a number. -/
def bitN (z j : Nat) : Nat := z / 2 ^ j % 2
theorem bitN_lt (z j : Nat) : bitN z j < 2 := Nat.mod_lt _ (by decide)
/-- Are the first n symbols whole? -/
def wholeL (L : Nat → Int) : Nat → Bool
  | 0 => true
  | k + 1 => wholeL L k && (L k == 1 || L k == 2)
/-- The number of the first symbols. -/
def numL (L : Nat → Int) : Nat → Int
  | 0 => 0
  | k + 1 => 2 * numL L k + (L k - 1)
theorem wholeL_iff {L : Nat → Int} {n : Nat} : wholeL L n = true ↔ ∀ i, i < n → L i = 1 ∨ L i = 2 := by
  induction n with
  | zero => simp [wholeL]
  | succ n ih =>
    simp only [wholeL, Bool.and_eq_true, ih, Bool.or_eq_true, beq_iff_eq]
    constructor
    · rintro ⟨h1, h2⟩ i hi
      by_cases e : i = n
      · subst e; exact h2
      · exact h1 i (by omega)
    · intro h
      exact ⟨fun i hi => h i (by omega), h n (by omega)⟩
theorem wholeL_false {L : Nat → Int} {n : Nat} : wholeL L n = false ↔ ∃ i, i < n ∧ L i ≠ 1 ∧ L i ≠ 2 := by
  rw [← Bool.not_eq_true, wholeL_iff]
  constructor
  · intro h
    exact Classical.byContradiction fun hc => h fun i hi => Classical.byContradiction fun hx => hc ⟨i, hi, fun e => hx (.inl e), fun e => hx (.inr e)⟩
  · rintro ⟨i, hi, h1, h2⟩ h
    exact (h i hi).elim h1 h2
theorem wholeL_le {L : Nat → Int} {n m : Nat} (h : wholeL L n = true) (hm : m ≤ n) : wholeL L m = true := wholeL_iff.2 fun i hi => wholeL_iff.1 h i (by omega)
theorem wholeL_congr {L L' : Nat → Int} {n : Nat} (h : ∀ i, i < n → L i = L' i) : wholeL L n = wholeL L' n := by
  induction n with
  | zero => rfl
  | succ n ih => simp only [wholeL, ih fun i hi => h i (by omega), h n (by omega)]
theorem numL_congr {L L' : Nat → Int} {n : Nat} (h : ∀ i, i < n → L i = L' i) : numL L n = numL L' n := by
  induction n with
  | zero => rfl
  | succ n ih => simp only [numL, ih fun i hi => h i (by omega), h n (by omega)]
theorem numL_bd {L : Nat → Int} {n : Nat} (h : wholeL L n = true) : 0 ≤ numL L n ∧ numL L n < 2 ^ n := by
  induction n with
  | zero => simp [numL]
  | succ n ih =>
    have h1 := ih (wholeL_le h (by omega))
    have h2 := wholeL_iff.1 h n (by omega)
    have e : (2 : Int) ^ (n + 1) = 2 * 2 ^ n := by rw [Int.pow_succ]; omega
    rw [e]
    simp only [numL]
    omega
theorem numL_bd64 {L : Nat → Int} {n : Nat} (h : wholeL L n = true) (hn : n ≤ 64) : 0 ≤ numL L n ∧ numL L n < 18446744073709551616 := by
  have h1 := numL_bd h
  have h2 : (2 : Nat) ^ n ≤ 2 ^ 64 := Nat.pow_le_pow_right (by decide) hn
  have h3 : ((2 : Int) ^ n) = ((2 ^ n : Nat) : Int) := by simp
  rw [h3] at h1
  omega
theorem two_pos (j : Nat) : 0 < 2 ^ j := Nat.pow_pos (by decide)
/-- The symbols of a number's bits are that number, as far as they go. -/
theorem numL_bits (z b k : Nat) (hk : k ≤ b) : numL (fun i => 1 + (bitN z (b - 1 - i) : Nat)) k = ((z / 2 ^ (b - k) % 2 ^ k : Nat) : Int) := by
  induction k with
  | zero => simp [numL, Nat.mod_one]
  | succ k ih =>
    have ih' := ih (by omega)
    have e1 : b - k = (b - (k + 1)) + 1 := by omega
    have e2 : b - 1 - k = b - (k + 1) := by omega
    have e3 : z / 2 ^ (b - k) = z / 2 ^ (b - (k + 1)) / 2 := by rw [e1, Nat.pow_succ, Nat.div_div_eq_div_mul]
    simp only [numL, ih', e2, e3]
    unfold bitN
    generalize z / 2 ^ (b - (k + 1)) = y
    have e4 : y % 2 ^ (k + 1) = 2 * (y / 2 % 2 ^ k) + y % 2 := by
      rw [Nat.pow_succ, Nat.mul_comm (2 ^ k) 2, Nat.mod_mul]
      omega
    rw [e4]
    omega
theorem numL_all (z b : Nat) : numL (fun i => 1 + (bitN z (b - 1 - i) : Nat)) b = ((z % 2 ^ b : Nat) : Int) := by
  rw [numL_bits z b b (Nat.le_refl _), Nat.sub_self]
  simp
/-- Some symbols, and behind them a number's. -/
def putL (L : Nat → Int) (n z b : Nat) (i : Nat) : Int := if i < n then L i else 1 + (bitN z (b - 1 - (i - n)) : Nat)
/-- The symbols of bytes. -/
def ofL (L : Nat → Int) (i : Nat) : Int := 1 + (bitN (L (i / 8)).toNat (7 - i % 8) : Nat)
/-- The bytes of symbols. -/
def bytesL (L : Nat → Int) (j : Nat) : Int := numL (fun i => L (8 * j + i)) 8
/-- How often a place is among the first k of some places. -/
def cntL (A : Nat → Int) (i : Nat) : Nat → Nat
  | 0 => 0
  | k + 1 => cntL A i k + if A k = i then 1 else 0
/-- Symbols, turned at the first k of some places. -/
def turnL (L A : Nat → Int) (k i : Nat) : Int := if cntL A i k % 2 = 1 ∧ (L i = 1 ∨ L i = 2) then 3 - L i else L i
theorem putL_one (L : Nat → Int) (n z b i : Nat) : putL L n z b i = 1 ∨ putL L n z b i = 2 ∨ (i < n ∧ putL L n z b i = L i) := by
  unfold putL
  split
  · rename_i h; exact .inr (.inr ⟨h, rfl⟩)
  · have := bitN_lt z (b - 1 - (i - n)); omega
theorem ofL_whole (L : Nat → Int) (n : Nat) : wholeL (ofL L) n = true := wholeL_iff.2 fun i _ => by
  have := bitN_lt (L (i / 8)).toNat (7 - i % 8)
  unfold ofL
  omega
theorem ofL_num (L : Nat → Int) (j : Nat) (h : 0 ≤ L j ∧ L j < 256) : bytesL (ofL L) j = L j := by
  unfold bytesL
  have e : numL (fun i => ofL L (8 * j + i)) 8 = numL (fun i => 1 + (bitN (L j).toNat (8 - 1 - i) : Nat)) 8 := numL_congr fun i hi => by
    have e1 : (8 * j + i) / 8 = j := by omega
    have e2 : (8 * j + i) % 8 = i := by omega
    simp only [ofL, e1, e2]
  rw [e, numL_all]
  have e3 : (L j).toNat % 2 ^ 8 = (L j).toNat := Nat.mod_eq_of_lt (by have : (2:Nat)^8 = 256 := rfl; omega)
  rw [e3]
  omega
theorem turnL_zero (L A : Nat → Int) (i : Nat) : turnL L A 0 i = L i := by simp [turnL, cntL]
theorem turnL_whole (L A : Nat → Int) (k i : Nat) : (turnL L A k i = 1 ∨ turnL L A k i = 2) ↔ (L i = 1 ∨ L i = 2) := by
  unfold turnL
  split <;> omega
theorem turnL_step (L A : Nat → Int) (k i : Nat) : turnL L A (k + 1) i = if A k = i ∧ (L i = 1 ∨ L i = 2) then 3 - turnL L A k i else turnL L A k i := by
  have hc : cntL A i (k + 1) = cntL A i k + if A k = i then 1 else 0 := rfl
  unfold turnL
  rw [hc]
  by_cases h1 : A k = i
  · by_cases h2 : L i = 1 ∨ L i = 2
    · by_cases h3 : cntL A i k % 2 = 1
      · have h4 : ¬ (cntL A i k + 1) % 2 = 1 := by omega
        simp [h1, h2, h3, h4]
        omega
      · have h4 : (cntL A i k + 1) % 2 = 1 := by omega
        simp [h1, h2, h3, h4]
    · simp [h2]
  · simp [h1]
end Go.Proofs.Ytbfbpagfmhdblaa
