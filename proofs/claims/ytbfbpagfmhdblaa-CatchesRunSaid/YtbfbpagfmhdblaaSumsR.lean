/- The document's sums: Of: a division, bit by bit. -/
import Derived.Test.YtbfbpagfmhdblaaSumsE
namespace Go.Proofs.Ytbfbpagfmhdblaa
open Go.RowKit
set_option linter.unusedSimpArgs false
set_option linter.unusedVariables false
set_option maxRecDepth 100000
def mB (L : Nat → Int) (n j : Nat) : Bool := decide (j < 8 * n) && bitU L j
def powN (k : Nat) : Nat := [26, 23, 22, 16, 12, 11, 10, 8, 7, 5, 4, 2, 1, 0].getD k 0
theorem powN_le : ∀ k, k < 14 → powN k ≤ 26 := by decide
def flA (i : Nat) : Nat → Nat → Bool
  | 0, j => decide (j = i)
  | k + 1, j => flA i k j ^^ decide (j = i + 32 - powN k)
def flZ : Nat → Nat → Bool
  | 0, _ => false
  | t + 1, k => flZ t k ^^ decide (k + powN t = 31)
theorem flA_at (i k : Nat) : ∀ t, t ≤ 14 → flA i t (i + 1 + k) = flZ t k
  | 0, _ => by simp [flA, flZ]; omega
  | t + 1, h => by
    have := powN_le t (by omega)
    rw [flA, flZ, flA_at i k t (by omega)]
    congr 1
    simp only [decide_eq_decide]
    omega
theorem flZ_poly : ∀ k, k < 32 → flZ 14 k = (79764919 : Nat).testBit (31 - k) := by decide
theorem flA_far (i j : Nat) (h : i + 33 ≤ j) : ∀ t, flA i t j = false
  | 0 => by simp [flA]; omega
  | t + 1 => by
    rw [flA, flA_far i j h t]
    simp
    omega
/-- The bits behind i steps of the division. -/
def dvB (m : Nat → Bool) : Nat → Nat → Bool
  | 0, j => decide (j < 32) ^^ m j
  | i + 1, j => dvB m i j ^^ (dvB m i i && flA i 14 j)
theorem dvB_win (m : Nat → Bool) : ∀ i, (∀ k, k < 32 → dvB m i (i + k) = ((regB 4294967295 m i).testBit (31 - k) ^^ m (i + k))) ∧ ∀ j, i + 32 ≤ j → dvB m i j = m j
  | 0 => by
    constructor
    · intro k hk
      have h1 : (4294967295 : Nat).testBit (31 - k) = true := by
        have := Nat.testBit_two_pow_sub_one 32 (31 - k)
        simp only [show (2 : Nat) ^ 32 - 1 = 4294967295 by decide] at this
        rw [this]
        simp
        omega
      rw [dvB, regB, h1]
      have h2 : decide (0 + k < 32) = true := by simp; omega
      rw [h2]
    · intro j hj
      have h2 : decide (j < 32) = false := by simp; omega
      rw [dvB, h2]
      simp
  | i + 1 => by
    obtain ⟨h1, h2⟩ := dvB_win m i
    have h0 := h1 0 (by omega)
    rw [Nat.add_zero, Nat.sub_zero] at h0
    constructor
    · intro k hk
      rw [dvB, h0, flA_at i k 14 (by omega), flZ_poly k hk, regB_bit]
      have e1 : decide (31 - k < 32) = true := by simp; omega
      rw [e1]
      by_cases hk31 : k = 31
      · subst hk31
        rw [h2 (i + 1 + 31) (by omega)]
        simp
        generalize m (i + 1 + 31) = x
        generalize (regB 4294967295 m i).testBit 31 = y
        generalize m i = z
        cases x <;> cases y <;> cases z <;> rfl
      · have e2 : decide (1 ≤ 31 - k) = true := by simp; omega
        have e3 : 31 - k - 1 = 31 - (k + 1) := by omega
        rw [e2, e3, show i + 1 + k = i + (k + 1) by omega, h1 (k + 1) (by omega)]
        generalize (regB 4294967295 m i).testBit (31 - (k + 1)) = p
        generalize (regB 4294967295 m i).testBit 31 = q
        generalize m (i + (k + 1)) = r
        generalize m i = s
        generalize (79764919 : Nat).testBit (31 - k) = t
        cases p <;> cases q <;> cases r <;> cases s <;> cases t <;> rfl
    · intro j hj
      rw [dvB, h2 j (by omega), flA_far i j (by omega)]
      simp
def numK (S : Nat) : Nat → Nat
  | 0 => 0
  | k + 1 => 2 * numK S k + (if S.testBit (31 - k) then 1 else 0)
theorem numK_div {S : Nat} (hS : S < 4294967296) : ∀ k, k ≤ 32 → numK S k = S / 2 ^ (32 - k)
  | 0, _ => by
    have e : (2 : Nat) ^ (32 - 0) = 4294967296 := by decide
    rw [numK, e, Nat.div_eq_of_lt hS]
  | k + 1, h => by
    have e1 : 32 - k = 31 - k + 1 := by omega
    have e2 : 32 - (k + 1) = 31 - k := by omega
    rw [numK, numK_div hS k (by omega), e2, e1, Nat.pow_succ, ← Nat.div_div_eq_div_mul, Nat.testBit_eq_decide_div_mod_eq]
    generalize S / 2 ^ (31 - k) = y
    by_cases hy : y % 2 = 1
    · simp [hy]; omega
    · simp [hy]; omega
theorem numK_lt {S : Nat} (hS : S < 4294967296) {k : Nat} (hk : k < 32) : numK S k < 2147483648 := by
  rw [numK_div hS k (by omega)]
  have e : 32 - k = 31 - k + 1 := by omega
  rw [e, Nat.pow_succ, ← Nat.div_div_eq_div_mul]
  have := Nat.div_le_self S (2 ^ (31 - k))
  omega
theorem numK_all {S : Nat} (hS : S < 4294967296) : numK S 32 = S := by
  rw [numK_div hS 32 (by omega)]
  simp
theorem regB_mB (L : Nat → Int) (n : Nat) : regB 4294967295 (mB L n) (8 * n) = regB 4294967295 (bitU L) (8 * n) := regB_congr fun j hj => by simp [mB, hj]
/-- The last 32 bits are the sum's, turned. -/
theorem dvB_sum (L : Nat → Int) (n k : Nat) (hk : k < 32) : dvB (mB L n) (8 * n) (8 * n + k) = !(sumN L n).testBit (31 - k) := by
  rw [(dvB_win (mB L n) (8 * n)).1 k hk, regB_mB, sumN_xor, Nat.testBit_xor]
  have h1 : (4294967295 : Nat).testBit (31 - k) = true := by
    have := Nat.testBit_two_pow_sub_one 32 (31 - k)
    simp only [show (2 : Nat) ^ 32 - 1 = 4294967295 by decide] at this
    rw [this]
    simp
    omega
  have h2 : mB L n (8 * n + k) = false := by simp [mB]; omega
  rw [h1, h2]
  simp
theorem bitU8 (z j : Nat) (hz : z < 256) : (bits .and .u8 ((z : Int) / 2 ^ j) 1 == 1) = z.testBit j := by
  have e : ((z : Int) / 2 ^ j) = ((z / 2 ^ j : Nat) : Int) := by simp
  rw [e]
  have hz2 : z / 2 ^ j < 256 := Nat.lt_of_le_of_lt (Nat.div_le_self _ _) hz
  have e2 : (1 : Int) = ((1 : Nat) : Int) := rfl
  conv => lhs; lhs; rw [e2]
  rw [u8_and_nat _ 1 hz2 (by decide), Nat.and_one_is_mod, Nat.testBit_eq_decide_div_mod_eq]
  generalize z / 2 ^ j % 2 = y
  simp only [Bool.beq_eq_decide_eq, decide_eq_decide]
  omega
def bools (T : Nat → Bool) (n : Nat) : List Value := (List.range n).map fun j => .bool (T j)
theorem bools_succ (T : Nat → Bool) (n : Nat) : bools T (n + 1) = bools T n ++ [.bool (T n)] := by simp [bools, List.range_succ]
theorem bools_get {T : Nat → Bool} {n j : Nat} (h : j < n) : (bools T n)[j]? = some (.bool (T j)) := by simp [bools, h]
theorem bools_congr {T T' : Nat → Bool} {n : Nat} (h : ∀ j, j < n → T j = T' j) : bools T n = bools T' n := by
  simp only [bools]
  exact List.map_congr_left fun i hi => by rw [h i (by simpa using hi)]
theorem bools_own {E : TypeId} {B : Nat} {w : World} {v : Value} {n : Nat} {T : Nat → Bool} (h : w.ownsRow B E 1 v n (bools T n)) (hn : 0 < n) :
    ∃ g c cur, v = .slice (some ⟨g, 0, none⟩) n c ∧ n ≤ c ∧ c ≤ 9223372036854775807 ∧ B ≤ g ∧ Blk w g cur E ∧ ∀ j, j < n → cur[j]? = some (.bool (T j)) := by
  rcases h.2 with ⟨_, h0⟩ | ⟨g, cap, cur, rfl, h2, h3, h4, h5, h6, h7⟩
  · omega
  · refine ⟨g, cap, cur, rfl, h4, by unfold maxLen at h5; omega, h2, h3, fun j hj => ?_⟩
    have h1 := bools_get (T := T) hj
    rw [← h7, List.getElem?_take] at h1
    split at h1
    · simpa using h1
    · simp at h1
end Go.Proofs.Ytbfbpagfmhdblaa
