/- Sums: what the functions answer, in plain numbers: a register of 32 bits, bit by bit. -/
import Derived.Test.YtbfbpagfmhdblaaApp
namespace Go.Proofs.Ytbfbpagfmhdblaa
set_option linter.unusedSimpArgs false
set_option linter.unusedVariables false
theorem dbl_bit (r i : Nat) : ((2 * r) % 4294967296).testBit i = (decide (i < 32) && (decide (1 ≤ i) && r.testBit (i - 1))) := by
  have e : 2 * r = r <<< 1 := by rw [Nat.shiftLeft_eq]; omega
  have h : (4294967296 : Nat) = 2 ^ 32 := by decide
  rw [e, h, Nat.testBit_mod_two_pow, Nat.testBit_shiftLeft]
def polyIf (b : Bool) : Nat := if b then 79764919 else 0
theorem polyIf_bit (b : Bool) (i : Nat) : (polyIf b).testBit i = (b && (79764919 : Nat).testBit i) := by
  cases b <;> simp [polyIf]
theorem polyIf_lt (b : Bool) : polyIf b < 4294967296 := by cases b <;> simp [polyIf]
/-- One bit more, of noughts. -/
def stepN (r : Nat) : Nat := (2 * r) % 4294967296 ^^^ polyIf (r.testBit 31)
def stepsN : Nat → Nat → Nat
  | 0, r => r
  | k + 1, r => stepN (stepsN k r)
theorem xor_lt32 {a b : Nat} (ha : a < 4294967296) (hb : b < 4294967296) : a ^^^ b < 4294967296 := Nat.xor_lt_two_pow (n := 32) (by omega) (by omega)
theorem stepN_lt (r : Nat) : stepN r < 4294967296 := xor_lt32 (Nat.mod_lt _ (by decide)) (polyIf_lt _)
theorem stepsN_lt {r : Nat} (h : r < 4294967296) : ∀ k, stepsN k r < 4294967296
  | 0 => h
  | _ + 1 => stepN_lt _
theorem stepN_bit (r i : Nat) : (stepN r).testBit i = ((decide (i < 32) && (decide (1 ≤ i) && r.testBit (i - 1))) ^^ (r.testBit 31 && (79764919 : Nat).testBit i)) := by
  rw [stepN, Nat.testBit_xor, dbl_bit, polyIf_bit]
theorem stepN_xor (a b : Nat) : stepN (a ^^^ b) = stepN a ^^^ stepN b := by
  apply Nat.eq_of_testBit_eq
  intro i
  rw [Nat.testBit_xor, stepN_bit, stepN_bit, stepN_bit, Nat.testBit_xor, Nat.testBit_xor]
  generalize (decide (i < 32)) = x
  generalize (decide (1 ≤ i)) = y
  generalize (79764919 : Nat).testBit i = z
  generalize a.testBit (i - 1) = p
  generalize b.testBit (i - 1) = q
  generalize a.testBit 31 = s
  generalize b.testBit 31 = t
  cases x <;> cases y <;> cases z <;> cases p <;> cases q <;> cases s <;> cases t <;> rfl
theorem stepsN_xor (a b : Nat) : ∀ k, stepsN k (a ^^^ b) = stepsN k a ^^^ stepsN k b
  | 0 => rfl
  | k + 1 => by rw [stepsN, stepsN_xor a b k, stepN_xor]; rfl
theorem stepN_none {r : Nat} (hr : r < 4294967296) (h : stepN r = 0) : r = 0 := by
  have h0 : (stepN r).testBit 0 = false := by rw [h]; simp
  rw [stepN_bit] at h0
  have h31 : r.testBit 31 = false := by
    have : (79764919 : Nat).testBit 0 = true := by decide
    simpa [this] using h0
  have hb : polyIf (r.testBit 31) = 0 := by rw [h31]; rfl
  have h2 : (2 * r) % 4294967296 = 0 := by simpa [stepN, hb] using h
  have h3 : r < 2147483648 := by
    rcases Nat.lt_or_ge r 2147483648 with h | h
    · exact h
    · have e : r / 2 ^ 31 % 2 = 1 := by omega
      rw [Nat.testBit_eq_decide_div_mod_eq] at h31
      simp [e] at h31
  omega
theorem stepN_zero : stepN 0 = 0 := by decide
theorem stepsN_zero : ∀ k, stepsN k 0 = 0
  | 0 => rfl
  | k + 1 => by rw [stepsN, stepsN_zero k, stepN_zero]
theorem stepsN_none {r : Nat} (hr : r < 4294967296) : ∀ {k : Nat}, stepsN k r = 0 → r = 0
  | 0, h => h
  | k + 1, h => stepsN_none hr (k := k) (stepN_none (stepsN_lt hr k) h)
theorem xor_none {a b : Nat} (h : a ^^^ b = 0) : a = b := by
  have e : a = a ^^^ b ^^^ b := by rw [Nat.xor_assoc, Nat.xor_self, Nat.xor_zero]
  rw [e, h, Nat.zero_xor]
theorem stepsN_inj {a b k : Nat} (ha : a < 4294967296) (hb : b < 4294967296) (h : stepsN k a = stepsN k b) : a = b := by
  refine xor_none (stepsN_none (xor_lt32 ha hb) (k := k) ?_)
  rw [stepsN_xor, h, Nat.xor_self]
/-- The register behind i bits m. -/
def regB (r0 : Nat) (m : Nat → Bool) : Nat → Nat
  | 0 => r0
  | i + 1 => (2 * regB r0 m i) % 4294967296 ^^^ polyIf ((regB r0 m i).testBit 31 ^^ m i)
theorem regB_lt {r0 : Nat} {m : Nat → Bool} (h : r0 < 4294967296) : ∀ i, regB r0 m i < 4294967296
  | 0 => h
  | _ + 1 => xor_lt32 (Nat.mod_lt _ (by decide)) (polyIf_lt _)
theorem regB_congr {r0 : Nat} {m m' : Nat → Bool} : ∀ {i : Nat}, (∀ j, j < i → m j = m' j) → regB r0 m i = regB r0 m' i
  | 0, _ => rfl
  | i + 1, h => by rw [regB, regB, regB_congr (i := i) fun j hj => h j (by omega), h i (by omega)]
theorem regB_bit (r0 : Nat) (m : Nat → Bool) (i k : Nat) : (regB r0 m (i + 1)).testBit k = ((decide (k < 32) && (decide (1 ≤ k) && (regB r0 m i).testBit (k - 1))) ^^ (((regB r0 m i).testBit 31 ^^ m i) && (79764919 : Nat).testBit k)) := by
  rw [regB, Nat.testBit_xor, dbl_bit, polyIf_bit]
theorem regB_xor (r s : Nat) (m m' : Nat → Bool) : ∀ i, regB (r ^^^ s) (fun j => m j ^^ m' j) i = regB r m i ^^^ regB s m' i
  | 0 => rfl
  | i + 1 => by
    apply Nat.eq_of_testBit_eq
    intro k
    rw [Nat.testBit_xor, regB_bit, regB_bit, regB_bit, regB_xor r s m m' i, Nat.testBit_xor, Nat.testBit_xor]
    generalize (decide (k < 32)) = x
    generalize (decide (1 ≤ k)) = y
    generalize (79764919 : Nat).testBit k = z
    generalize (regB r m i).testBit (k - 1) = p
    generalize (regB s m' i).testBit (k - 1) = q
    generalize (regB r m i).testBit 31 = s1
    generalize (regB s m' i).testBit 31 = t1
    generalize m i = u
    generalize m' i = v
    cases x <;> cases y <;> cases z <;> cases p <;> cases q <;> cases s1 <;> cases t1 <;> cases u <;> cases v <;> rfl
/-- A window W of 32 bits is put on at once: the first k of its bits are the next ones. -/
theorem regB_win {r0 : Nat} {m : Nat → Bool} {W i : Nat} : ∀ {k : Nat}, k ≤ 32 → (∀ j, j < k → m (i + j) = W.testBit (31 - j)) → stepsN k (regB r0 m i ^^^ W) = regB r0 m (i + k) ^^^ (W <<< k) % 4294967296 ∨ 4294967296 ≤ W
  | 0, _, _ => by
    rcases Nat.lt_or_ge W 4294967296 with h | h
    · left
      simp [stepsN, Nat.mod_eq_of_lt h]
    · exact .inr h
  | k + 1, hk, h => by
    rcases regB_win (r0 := r0) (k := k) (by omega) (fun j hj => h j (by omega)) with ih | ih
    · left
      have e : W <<< (k + 1) = 2 * W <<< k := by rw [Nat.shiftLeft_eq, Nat.shiftLeft_eq, Nat.pow_succ]; rw [Nat.mul_comm 2, ← Nat.mul_assoc, Nat.mul_assoc W, Nat.mul_comm (2 ^ k) 2, ← Nat.mul_assoc, Nat.mul_assoc W 2, Nat.mul_comm 2, ← Nat.mul_assoc]
      apply Nat.eq_of_testBit_eq
      intro b
      have hW : ∀ x, ((W <<< k) % 4294967296).testBit x = (decide (x < 32) && (decide (k ≤ x) && W.testBit (x - k))) := fun x => by
        have h32 : (4294967296 : Nat) = 2 ^ 32 := by decide
        rw [h32, Nat.testBit_mod_two_pow, Nat.testBit_shiftLeft]
      have hW' : ∀ x, ((W <<< (k + 1)) % 4294967296).testBit x = (decide (x < 32) && (decide (k + 1 ≤ x) && W.testBit (x - (k + 1)))) := fun x => by
        have h32 : (4294967296 : Nat) = 2 ^ 32 := by decide
        rw [h32, Nat.testBit_mod_two_pow, Nat.testBit_shiftLeft]
      rw [stepsN, ih, stepN_bit, Nat.testBit_xor, Nat.testBit_xor, Nat.testBit_xor, hW, hW, hW', show i + (k + 1) = i + k + 1 by omega, regB_bit, h k (by omega)]
      have e1 : decide (31 < 32) = true := by decide
      have e2 : decide (k ≤ 31) = true := by simp; omega
      rw [e1, e2]
      have e3 : b - 1 - k = b - (k + 1) := by omega
      rw [e3]
      by_cases hb : 1 ≤ b
      · have f1 : decide (1 ≤ b) = true := by simp [hb]
        have f2 : decide (b - 1 < 32) = (decide (b < 33)) := by congr 1; simp; omega
        have f3 : decide (k ≤ b - 1) = decide (k + 1 ≤ b) := by congr 1; simp; omega
        rw [f1, f3]
        by_cases hb2 : b < 32
        · have f4 : decide (b < 32) = true := by simp [hb2]
          have f5 : decide (b - 1 < 32) = true := by simp; omega
          rw [f4, f5]
          generalize decide (k + 1 ≤ b) = x
          generalize W.testBit (b - (k + 1)) = y
          generalize (regB r0 m (i + k)).testBit (b - 1) = z
          generalize (regB r0 m (i + k)).testBit 31 = u
          generalize W.testBit (31 - k) = v
          generalize (79764919 : Nat).testBit b = t
          cases x <;> cases y <;> cases z <;> cases u <;> cases v <;> cases t <;> rfl
        · have f4 : decide (b < 32) = false := by simp; omega
          rw [f4]
          generalize (regB r0 m (i + k)).testBit 31 = u
          generalize W.testBit (31 - k) = v
          generalize (79764919 : Nat).testBit b = t
          cases u <;> cases v <;> cases t <;> rfl
      · have f1 : decide (1 ≤ b) = false := by simp; omega
        have f3 : decide (k + 1 ≤ b) = false := by simp; omega
        rw [f1, f3]
        generalize (regB r0 m (i + k)).testBit 31 = u
        generalize W.testBit (31 - k) = v
        generalize (79764919 : Nat).testBit b = t
        generalize decide (b < 32) = s
        cases u <;> cases v <;> cases t <;> cases s <;> rfl
    · exact .inr ih
/-- A number's bits. -/
def bitU (L : Nat → Int) (j : Nat) : Bool := (L (j / 8)).toNat.testBit (7 - j % 8)
/-- A byte is put on at once. -/
theorem regB_byte (r0 : Nat) (L : Nat → Int) (i : Nat) (h : 0 ≤ L i ∧ L i < 256) : stepsN 8 (regB r0 (bitU L) (8 * i) ^^^ (L i).toNat * 16777216) = regB r0 (bitU L) (8 * (i + 1)) := by
  have hx : (L i).toNat < 256 := by omega
  have h2 := regB_win (r0 := r0) (m := bitU L) (W := (L i).toNat * 16777216) (i := 8 * i) (k := 8) (by decide) (fun j hj => by
    have e1 : (8 * i + j) / 8 = i := by omega
    have e2 : (8 * i + j) % 8 = j := by omega
    have e3 : (L i).toNat * 16777216 = (L i).toNat <<< 24 := by rw [Nat.shiftLeft_eq]
    rw [bitU, e1, e2, e3, Nat.testBit_shiftLeft]
    have e4 : 31 - j - 24 = 7 - j := by omega
    have e5 : decide (31 - j ≥ 24) = true := by simp; omega
    rw [e4, e5, Bool.true_and])
  rcases h2 with h2 | h2
  · have e : ((L i).toNat * 16777216) <<< 8 % 4294967296 = 0 := by
      rw [Nat.shiftLeft_eq]
      omega
    rw [h2, e, Nat.xor_zero]
    rfl
  · omega
/-- The sum of n bytes L. -/
def sumN (L : Nat → Int) (n : Nat) : Nat := 4294967295 - regB 4294967295 (bitU L) (8 * n)
theorem sumN_lt (L : Nat → Int) (n : Nat) : sumN L n < 4294967296 := by unfold sumN; omega
theorem sub_xor {a : Nat} (h : a < 4294967296) : 4294967295 - a = 4294967295 ^^^ a := by
  apply Nat.eq_of_testBit_eq
  intro i
  have h1 := Nat.testBit_two_pow_sub_succ (x := a) (n := 32) (by omega) i
  have h2 : (4294967295 : Nat).testBit i = decide (i < 32) := by
    have := Nat.testBit_two_pow_sub_one 32 i
    simpa using this
  have e : 2 ^ 32 - (a + 1) = 4294967295 - a := by omega
  rw [e] at h1
  rw [h1, Nat.testBit_xor, h2]
  by_cases hi : i < 32
  · simp [hi]
  · have : a.testBit i = false := Nat.testBit_lt_two_pow (Nat.lt_of_lt_of_le h (by have := Nat.pow_le_pow_right (n := 2) (by decide) (show 32 ≤ i by omega); omega))
    simp [hi, this]
theorem sumN_xor (L : Nat → Int) (n : Nat) : sumN L n = 4294967295 ^^^ regB 4294967295 (bitU L) (8 * n) := sub_xor (regB_lt (by decide) _)
theorem sumN_congr {L L' : Nat → Int} {n : Nat} (h : ∀ i, i < n → L i = L' i) : sumN L n = sumN L' n := by
  unfold sumN
  rw [regB_congr (m := bitU L) (m' := bitU L') fun j hj => by unfold bitU; rw [h (j / 8) (by omega)]]
/-- What is put behind. -/
def tailB (s k : Nat) : Int := (s / 2 ^ (8 * (3 - k)) % 256 : Nat)
def putS (L : Nat → Int) (n i : Nat) : Int := if i < n then L i else tailB (sumN L n) (i - n)
end Go.Proofs.Ytbfbpagfmhdblaa
