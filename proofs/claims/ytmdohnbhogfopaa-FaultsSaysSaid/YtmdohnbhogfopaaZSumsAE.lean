/- Several texts, one behind the other: Spec02 SumsA Join Parts SumsB HelpBytes EqBytes SumsC SumsD SumsE. -/
import Derived.Test.YtmdohnbhogfopaaZLowA
import Derived.Test.YtmdohnbhogfopaaProg
import Derived.Laws.BitsAllLaws
import Derived.Lib.AppendZeros
/- Sums: what the functions answer, in plain numbers: a register of 32 bits, bit by bit. -/
namespace Go.Proofs.Ytmdohnbhogfopaa
set_option linter.unusedSimpArgs false
set_option linter.unusedVariables false
theorem dbl_bit (r i : Nat) : ((2 * r) % 4294967296).testBit i = (decide (i < 32) && (decide (1 ≤ i) && r.testBit (i - 1))) := by
  have e : 2 * r = r <<< 1 := by rw [Nat.shiftLeft_eq]; omega
  have h : (4294967296 : Nat) = 2 ^ 32 := by decide
  rw [e, h, Nat.testBit_mod_two_pow, Nat.testBit_shiftLeft]
def polyIf (b : Bool) : Nat := if b then 79764919 else 0
theorem polyIf_bit (b : Bool) (i : Nat) : (polyIf b).testBit i = (b && (79764919 : Nat).testBit i) := by
  cases b <;> simp [polyIf]
theorem polyIf_lt (b : Bool) : polyIf b < 4294967296 := by cases b <;> simp [polyIf]
/-- One bit more, of noughts. -/
def stepN (r : Nat) : Nat := (2 * r) % 4294967296 ^^^ polyIf (r.testBit 31)
def stepsN : Nat → Nat → Nat
  | 0, r => r
  | k + 1, r => stepN (stepsN k r)
theorem xor_lt32 {a b : Nat} (ha : a < 4294967296) (hb : b < 4294967296) : a ^^^ b < 4294967296 := Nat.xor_lt_two_pow (n := 32) (by omega) (by omega)
theorem stepN_lt (r : Nat) : stepN r < 4294967296 := xor_lt32 (Nat.mod_lt _ (by decide)) (polyIf_lt _)
theorem stepsN_lt {r : Nat} (h : r < 4294967296) : ∀ k, stepsN k r < 4294967296
  | 0 => h
  | _ + 1 => stepN_lt _
theorem stepN_bit (r i : Nat) : (stepN r).testBit i = ((decide (i < 32) && (decide (1 ≤ i) && r.testBit (i - 1))) ^^ (r.testBit 31 && (79764919 : Nat).testBit i)) := by
  rw [stepN, Nat.testBit_xor, dbl_bit, polyIf_bit]
theorem stepN_xor (a b : Nat) : stepN (a ^^^ b) = stepN a ^^^ stepN b := by
  apply Nat.eq_of_testBit_eq
  intro i
  rw [Nat.testBit_xor, stepN_bit, stepN_bit, stepN_bit, Nat.testBit_xor, Nat.testBit_xor]
  generalize (decide (i < 32)) = x
  generalize (decide (1 ≤ i)) = y
  generalize (79764919 : Nat).testBit i = z
  generalize a.testBit (i - 1) = p
  generalize b.testBit (i - 1) = q
  generalize a.testBit 31 = s
  generalize b.testBit 31 = t
  cases x <;> cases y <;> cases z <;> cases p <;> cases q <;> cases s <;> cases t <;> rfl
theorem stepsN_xor (a b : Nat) : ∀ k, stepsN k (a ^^^ b) = stepsN k a ^^^ stepsN k b
  | 0 => rfl
  | k + 1 => by rw [stepsN, stepsN_xor a b k, stepN_xor]; rfl
theorem stepN_none {r : Nat} (hr : r < 4294967296) (h : stepN r = 0) : r = 0 := by
  have h0 : (stepN r).testBit 0 = false := by rw [h]; simp
  rw [stepN_bit] at h0
  have h31 : r.testBit 31 = false := by
    have : (79764919 : Nat).testBit 0 = true := by decide
    simpa [this] using h0
  have hb : polyIf (r.testBit 31) = 0 := by rw [h31]; rfl
  have h2 : (2 * r) % 4294967296 = 0 := by simpa [stepN, hb] using h
  have h3 : r < 2147483648 := by
    rcases Nat.lt_or_ge r 2147483648 with h | h
    · exact h
    · have e : r / 2 ^ 31 % 2 = 1 := by omega
      rw [Nat.testBit_eq_decide_div_mod_eq] at h31
      simp [e] at h31
  omega
theorem stepN_zero : stepN 0 = 0 := by decide
theorem stepsN_zero : ∀ k, stepsN k 0 = 0
  | 0 => rfl
  | k + 1 => by rw [stepsN, stepsN_zero k, stepN_zero]
theorem stepsN_none {r : Nat} (hr : r < 4294967296) : ∀ {k : Nat}, stepsN k r = 0 → r = 0
  | 0, h => h
  | k + 1, h => stepsN_none hr (k := k) (stepN_none (stepsN_lt hr k) h)
theorem xor_none {a b : Nat} (h : a ^^^ b = 0) : a = b := by
  have e : a = a ^^^ b ^^^ b := by rw [Nat.xor_assoc, Nat.xor_self, Nat.xor_zero]
  rw [e, h, Nat.zero_xor]
theorem stepsN_inj {a b k : Nat} (ha : a < 4294967296) (hb : b < 4294967296) (h : stepsN k a = stepsN k b) : a = b := by
  refine xor_none (stepsN_none (xor_lt32 ha hb) (k := k) ?_)
  rw [stepsN_xor, h, Nat.xor_self]
/-- The register behind i bits m. -/
def regB (r0 : Nat) (m : Nat → Bool) : Nat → Nat
  | 0 => r0
  | i + 1 => (2 * regB r0 m i) % 4294967296 ^^^ polyIf ((regB r0 m i).testBit 31 ^^ m i)
theorem regB_lt {r0 : Nat} {m : Nat → Bool} (h : r0 < 4294967296) : ∀ i, regB r0 m i < 4294967296
  | 0 => h
  | _ + 1 => xor_lt32 (Nat.mod_lt _ (by decide)) (polyIf_lt _)
theorem regB_congr {r0 : Nat} {m m' : Nat → Bool} : ∀ {i : Nat}, (∀ j, j < i → m j = m' j) → regB r0 m i = regB r0 m' i
  | 0, _ => rfl
  | i + 1, h => by rw [regB, regB, regB_congr (i := i) fun j hj => h j (by omega), h i (by omega)]
theorem regB_bit (r0 : Nat) (m : Nat → Bool) (i k : Nat) : (regB r0 m (i + 1)).testBit k = ((decide (k < 32) && (decide (1 ≤ k) && (regB r0 m i).testBit (k - 1))) ^^ (((regB r0 m i).testBit 31 ^^ m i) && (79764919 : Nat).testBit k)) := by
  rw [regB, Nat.testBit_xor, dbl_bit, polyIf_bit]
theorem regB_xor (r s : Nat) (m m' : Nat → Bool) : ∀ i, regB (r ^^^ s) (fun j => m j ^^ m' j) i = regB r m i ^^^ regB s m' i
  | 0 => rfl
  | i + 1 => by
    apply Nat.eq_of_testBit_eq
    intro k
    rw [Nat.testBit_xor, regB_bit, regB_bit, regB_bit, regB_xor r s m m' i, Nat.testBit_xor, Nat.testBit_xor]
    generalize (decide (k < 32)) = x
    generalize (decide (1 ≤ k)) = y
    generalize (79764919 : Nat).testBit k = z
    generalize (regB r m i).testBit (k - 1) = p
    generalize (regB s m' i).testBit (k - 1) = q
    generalize (regB r m i).testBit 31 = s1
    generalize (regB s m' i).testBit 31 = t1
    generalize m i = u
    generalize m' i = v
    cases x <;> cases y <;> cases z <;> cases p <;> cases q <;> cases s1 <;> cases t1 <;> cases u <;> cases v <;> rfl
/-- A window W of 32 bits is put on at once: the first k of its bits are the next ones. -/
theorem regB_win {r0 : Nat} {m : Nat → Bool} {W i : Nat} : ∀ {k : Nat}, k ≤ 32 → (∀ j, j < k → m (i + j) = W.testBit (31 - j)) → stepsN k (regB r0 m i ^^^ W) = regB r0 m (i + k) ^^^ (W <<< k) % 4294967296 ∨ 4294967296 ≤ W
  | 0, _, _ => by
    rcases Nat.lt_or_ge W 4294967296 with h | h
    · left
      simp [stepsN, Nat.mod_eq_of_lt h]
    · exact .inr h
  | k + 1, hk, h => by
    rcases regB_win (r0 := r0) (k := k) (by omega) (fun j hj => h j (by omega)) with ih | ih
    · left
      have e : W <<< (k + 1) = 2 * W <<< k := by rw [Nat.shiftLeft_eq, Nat.shiftLeft_eq, Nat.pow_succ]; rw [Nat.mul_comm 2, ← Nat.mul_assoc, Nat.mul_assoc W, Nat.mul_comm (2 ^ k) 2, ← Nat.mul_assoc, Nat.mul_assoc W 2, Nat.mul_comm 2, ← Nat.mul_assoc]
      apply Nat.eq_of_testBit_eq
      intro b
      have hW : ∀ x, ((W <<< k) % 4294967296).testBit x = (decide (x < 32) && (decide (k ≤ x) && W.testBit (x - k))) := fun x => by
        have h32 : (4294967296 : Nat) = 2 ^ 32 := by decide
        rw [h32, Nat.testBit_mod_two_pow, Nat.testBit_shiftLeft]
      have hW' : ∀ x, ((W <<< (k + 1)) % 4294967296).testBit x = (decide (x < 32) && (decide (k + 1 ≤ x) && W.testBit (x - (k + 1)))) := fun x => by
        have h32 : (4294967296 : Nat) = 2 ^ 32 := by decide
        rw [h32, Nat.testBit_mod_two_pow, Nat.testBit_shiftLeft]
      rw [stepsN, ih, stepN_bit, Nat.testBit_xor, Nat.testBit_xor, Nat.testBit_xor, hW, hW, hW', show i + (k + 1) = i + k + 1 by omega, regB_bit, h k (by omega)]
      have e1 : decide (31 < 32) = true := by decide
      have e2 : decide (k ≤ 31) = true := by simp; omega
      rw [e1, e2]
      have e3 : b - 1 - k = b - (k + 1) := by omega
      rw [e3]
      by_cases hb : 1 ≤ b
      · have f1 : decide (1 ≤ b) = true := by simp [hb]
        have f2 : decide (b - 1 < 32) = (decide (b < 33)) := by congr 1; simp; omega
        have f3 : decide (k ≤ b - 1) = decide (k + 1 ≤ b) := by congr 1; simp; omega
        rw [f1, f3]
        by_cases hb2 : b < 32
        · have f4 : decide (b < 32) = true := by simp [hb2]
          have f5 : decide (b - 1 < 32) = true := by simp; omega
          rw [f4, f5]
          generalize decide (k + 1 ≤ b) = x
          generalize W.testBit (b - (k + 1)) = y
          generalize (regB r0 m (i + k)).testBit (b - 1) = z
          generalize (regB r0 m (i + k)).testBit 31 = u
          generalize W.testBit (31 - k) = v
          generalize (79764919 : Nat).testBit b = t
          cases x <;> cases y <;> cases z <;> cases u <;> cases v <;> cases t <;> rfl
        · have f4 : decide (b < 32) = false := by simp; omega
          rw [f4]
          generalize (regB r0 m (i + k)).testBit 31 = u
          generalize W.testBit (31 - k) = v
          generalize (79764919 : Nat).testBit b = t
          cases u <;> cases v <;> cases t <;> rfl
      · have f1 : decide (1 ≤ b) = false := by simp; omega
        have f3 : decide (k + 1 ≤ b) = false := by simp; omega
        rw [f1, f3]
        generalize (regB r0 m (i + k)).testBit 31 = u
        generalize W.testBit (31 - k) = v
        generalize (79764919 : Nat).testBit b = t
        generalize decide (b < 32) = s
        cases u <;> cases v <;> cases t <;> cases s <;> rfl
    · exact .inr ih
/-- A number's bits. -/
def bitU (L : Nat → Int) (j : Nat) : Bool := (L (j / 8)).toNat.testBit (7 - j % 8)
/-- A byte is put on at once. -/
theorem regB_byte (r0 : Nat) (L : Nat → Int) (i : Nat) (h : 0 ≤ L i ∧ L i < 256) : stepsN 8 (regB r0 (bitU L) (8 * i) ^^^ (L i).toNat * 16777216) = regB r0 (bitU L) (8 * (i + 1)) := by
  have hx : (L i).toNat < 256 := by omega
  have h2 := regB_win (r0 := r0) (m := bitU L) (W := (L i).toNat * 16777216) (i := 8 * i) (k := 8) (by decide) (fun j hj => by
    have e1 : (8 * i + j) / 8 = i := by omega
    have e2 : (8 * i + j) % 8 = j := by omega
    have e3 : (L i).toNat * 16777216 = (L i).toNat <<< 24 := by rw [Nat.shiftLeft_eq]
    rw [bitU, e1, e2, e3, Nat.testBit_shiftLeft]
    have e4 : 31 - j - 24 = 7 - j := by omega
    have e5 : decide (31 - j ≥ 24) = true := by simp; omega
    rw [e4, e5, Bool.true_and])
  rcases h2 with h2 | h2
  · have e : ((L i).toNat * 16777216) <<< 8 % 4294967296 = 0 := by
      rw [Nat.shiftLeft_eq]
      omega
    rw [h2, e, Nat.xor_zero]
    rfl
  · omega
/-- The sum of n bytes L. -/
def sumN (L : Nat → Int) (n : Nat) : Nat := 4294967295 - regB 4294967295 (bitU L) (8 * n)
theorem sumN_lt (L : Nat → Int) (n : Nat) : sumN L n < 4294967296 := by unfold sumN; omega
theorem sub_xor {a : Nat} (h : a < 4294967296) : 4294967295 - a = 4294967295 ^^^ a := by
  apply Nat.eq_of_testBit_eq
  intro i
  have h1 := Nat.testBit_two_pow_sub_succ (x := a) (n := 32) (by omega) i
  have h2 : (4294967295 : Nat).testBit i = decide (i < 32) := by
    have := Nat.testBit_two_pow_sub_one 32 i
    simpa using this
  have e : 2 ^ 32 - (a + 1) = 4294967295 - a := by omega
  rw [e] at h1
  rw [h1, Nat.testBit_xor, h2]
  by_cases hi : i < 32
  · simp [hi]
  · have : a.testBit i = false := Nat.testBit_lt_two_pow (Nat.lt_of_lt_of_le h (by have := Nat.pow_le_pow_right (n := 2) (by decide) (show 32 ≤ i by omega); omega))
    simp [hi, this]
theorem sumN_xor (L : Nat → Int) (n : Nat) : sumN L n = 4294967295 ^^^ regB 4294967295 (bitU L) (8 * n) := sub_xor (regB_lt (by decide) _)
theorem sumN_congr {L L' : Nat → Int} {n : Nat} (h : ∀ i, i < n → L i = L' i) : sumN L n = sumN L' n := by
  unfold sumN
  rw [regB_congr (m := bitU L) (m' := bitU L') fun j hj => by unfold bitU; rw [h (j / 8) (by omega)]]
/-- What is put behind. -/
def tailB (s k : Nat) : Int := (s / 2 ^ (8 * (3 - k)) % 256 : Nat)
def putS (L : Nat → Int) (n i : Nat) : Int := if i < n then L i else tailB (sumN L n) (i - n)
end Go.Proofs.Ytmdohnbhogfopaa
/- Sums: add, Of. -/
namespace Go.Proofs.Ytmdohnbhogfopaa
open Go.RowKit
set_option linter.unusedSimpArgs false
set_option linter.unusedVariables false
set_option maxRecDepth 100000
theorem bit31 (r : Nat) (h : r < 4294967296) : (bits .and .u32 (r : Int) 2147483648 != 0) = r.testBit 31 := by
  have e := u32_and_nat r 2147483648 h (by decide)
  rw [show ((2147483648 : Nat) : Int) = 2147483648 from rfl] at e
  rw [e]
  have e2 : r &&& 2147483648 = if r.testBit 31 then 2147483648 else 0 := by
    apply Nat.eq_of_testBit_eq
    intro i
    have h2 : (2147483648 : Nat).testBit i = decide (31 = i) := by
      have := Nat.testBit_two_pow (n := 31) (m := i)
      simpa using this
    rw [Nat.testBit_and, h2]
    by_cases hi : 31 = i
    · subst hi
      cases r.testBit 31 <;> decide
    · cases hb : r.testBit 31
      · simp [hi]
      · simp only [hi, decide_false, Bool.and_false, if_true]
        rw [h2]
        simp [hi]
  rw [e2]
  cases r.testBit 31 <;> decide
theorem shl1 (r : Nat) : IntKind.u32.wrap ((r : Int) * 2) = (((2 * r) % 4294967296 : Nat) : Int) := by
  rw [IntKind.wrap_u32]
  omega
def InvAdd (w : World) (g : Nat) (r : Nat) (k : Nat) (a : Act) (wr : World) : Prop :=
  ∃ j : Nat, j + k = 8 ∧ Touch [g] w wr ∧ Blk wr g #[.int .u32 (stepsN j r : Nat)] 225 ∧ a.tmps.size = 32 ∧ a.defers = [] ∧ slot a 0 = .pointer (some ⟨g, 0, none⟩) ∧ slot a 13 = .int .i64 j
/-- A byte more. -/
theorem sumsAdd (w : World) (g : Nat) (r : Nat) (x : Int) (hr : r < 4294967296) (hx : 0 ≤ x ∧ x < 256) (hB : Blk w g #[.int .u32 r] 225) :
    Calls Try.prog 139 #[.pointer (some ⟨g, 0, none⟩), .int .u8 x] w fun e w' => e = .returned (.tuple #[]) ∧
      Blk w' g #[.int .u32 (stepsN 8 (r ^^^ x.toNat * 16777216) : Nat)] 225 ∧ Touch [g] w w' := by
  obtain ⟨X, rfl⟩ : ∃ X : Nat, x = X := ⟨x.toNat, by omega⟩
  have u1 : IntKind.u32.wrap (X : Int) = X := by rw [IntKind.wrap_u32]; omega
  have u2 : IntKind.u32.wrap ((X : Int) * 16777216) = (X : Int) * 16777216 := by rw [IntKind.wrap_u32]; omega
  have u3 : bits .xor .u32 (r : Int) ((X : Int) * 16777216) = ((r ^^^ X * 16777216 : Nat) : Int) := by have := u32_xor_nat r (X * 16777216) hr (by omega); simpa using this
  have c0 := hB.cell (i := 0) rfl
  have c1 := hB.free 0
  rw [Int.toNat_natCast]
  have hlt := xor_lt32 hr (show X * 16777216 < 4294967296 by omega)
  have hB2 := hB.set 0 (.int .u32 (r ^^^ X * 16777216 : Nat))
  have hT := (Touch.refl [g] w).setCell (p := ⟨g, 0, none⟩) (.inl (by simp)) (.int .u32 (r ^^^ X * 16777216 : Nat))
  generalize r ^^^ X * 16777216 = s at *
  replace hB2 := Lib.hid hB2
  replace hT := Lib.hid hT
  go_enter Try.func139, Try.ntmps139
  go_wp2
  generalize w.setCell ⟨g, 0, none⟩ (.int .u32 (s : Nat)) = w1 at *
  clear c0 c1 u1 u2 u3 hB
  refine wp_loop_k (InvAdd w g s) 8 ?_ ?_
  · exact ⟨0, by omega, hT.out, hB2.out, by kernel_rfl, rfl, by kernel_rfl, by kernel_rfl⟩
  · intro gk a wr hI K hK
    clear hT hB2
    obtain ⟨j, hj, hT, hB, hs', hd', k0', k13'⟩ := hI
    rw [fr32 a hs' hd']; simp only [k0', k13']; clear hs' hd' k0' k13'
    by_cases hlj : j < 8
    · have g1 : decide ((j : Int) < 8) = true := by simp; omega
      have uj : IntKind.i64.wrap ((j : Int) + 1) = ((j + 1 : Nat) : Int) := wrap_i64_small _ (by omega) (by omega)
      have c0 := hB.cell (i := 0) rfl
      have c1 := hB.free 0
      have hs := stepsN_lt hlt j
      have e1 := bit31 _ hs
      have e2 := shl1 (stepsN j s)
      have hn : Hid (stepsN (j + 1) s = stepN (stepsN j s)) := rfl
      have hsl := stepN_lt (stepsN j s)
      cases hb : (stepsN j s).testBit 31 with
      | false =>
        have hst : stepN (stepsN j s) = (2 * stepsN j s) % 4294967296 := by simp [stepN, hb, polyIf]
        rw [hst] at hn
        rw [hb] at e1
        generalize stepsN j s = y at *
        generalize 2 * y % 4294967296 = z at *
        have hB3 := Lib.hid (hB.set 0 (.int .u32 (z : Nat)))
        have hT3 := Lib.hid (hT.setCell (p := ⟨g, 0, none⟩) (.inl (by simp)) (.int .u32 (z : Nat)))
        clear hb hst hB hT hs hsl
        go_wp2
        exact hK (8 - (j + 1)) _ _ (by omega) ⟨j + 1, by omega, hT3.out, by rw [hn.out]; exact hB3.out, by kernel_rfl, rfl, by kernel_rfl, by kernel_rfl⟩
      | true =>
        have hst : stepN (stepsN j s) = (2 * stepsN j s) % 4294967296 ^^^ 79764919 := by simp [stepN, hb, polyIf]
        have e3 := u32_xor_nat ((2 * stepsN j s) % 4294967296) 79764919 (Nat.mod_lt _ (by decide)) (by decide)
        rw [hst] at hn
        rw [hb] at e1
        generalize stepsN j s = y at *
        generalize 2 * y % 4294967296 = z at *
        rw [show ((79764919 : Nat) : Int) = 79764919 from rfl] at e3
        have hB3 := hB.set 0 (.int .u32 (z : Nat))
        have hT3 := hT.setCell (p := ⟨g, 0, none⟩) (.inl (by simp)) (.int .u32 (z : Nat))
        have hB4 := Lib.hid (hB3.set 0 (.int .u32 (z ^^^ 79764919 : Nat)))
        have hT4 := Lib.hid (hT3.setCell (p := ⟨g, 0, none⟩) (.inl (by simp)) (.int .u32 (z ^^^ 79764919 : Nat)))
        have c2 := hB3.cell (i := 0) rfl
        have c3 := hB3.free 0
        clear hb hst hB hT hs hsl hB3 hT3
        go_wp2
        exact hK (8 - (j + 1)) _ _ (by omega) ⟨j + 1, by omega, hT4.out, by rw [hn.out]; exact hB4.out, by kernel_rfl, rfl, by kernel_rfl, by kernel_rfl⟩
    · obtain rfl : j = 8 := by omega
      go_wp2
      go_end0
      exact ⟨rfl, hB, hT⟩
end Go.Proofs.Ytmdohnbhogfopaa
/- One list behind another one: 'append(x, y...)' where x has no room. -/
namespace Go.Proofs.Ytmdohnbhogfopaa
open Go.RowKit
set_option linter.unusedVariables false
/-- One list behind another one. -/
def appL (L : Nat → Int) (n : Nat) (M : Nat → Int) (i : Nat) : Int := if i < n then L i else M (i - n)
theorem nums_app (k : IntKind) (L : Nat → Int) (n : Nat) (M : Nat → Int) (m : Nat) : nums k L n ++ nums k M m = nums k (appL L n M) (n + m) := by
  apply List.ext_getElem?
  intro i
  by_cases h : i < n
  · rw [List.getElem?_append_left (by rw [nums_len]; exact h), nums_get h, nums_get (by omega)]
    simp [appL, h]
  · rw [List.getElem?_append_right (by rw [nums_len]; omega), nums_len]
    by_cases h2 : i - n < m
    · rw [nums_get h2, nums_get (by omega)]
      simp [appL, h]
    · rw [List.getElem?_eq_none (by rw [nums_len]; omega), List.getElem?_eq_none (by rw [nums_len]; omega)]
theorem run_append_zero {P : Program} (w : World) (t ty e : TypeId) (i : TypeInfo) (ht : P.underlying t = some (.slice e)) (hi : P.info? e = some i) (b ax : Option Addr) (n c cx : Nat) (hnc : n ≤ c) :
    (Builtin.append_ #[t, t] ty #[.slice b n c, .slice ax 0 cx]).run P w = .ok (.slice b n c) w := by
  cases ax <;> cases b <;> simp [Builtin.append_, run_underlying ht, sizeOf, typeInfo, hi, Builtin.lenOf, Builtin.firstCells, loadCells, loadCellsFrom, storeCells, hnc]
theorem wpList_append_zero {P : Program} {w : World} {ops : Array Oper} {rest : List Oper} {o : Oper} {a : Act} {Q : Exit → Act → World → Prop} (hgd : o.guard = none) (s x : Operand) (t : TypeId)
    (ho : o.op = .call { callee := .builtin .append, args := #[s, x], argTypes := #[t, t] })
    (e : TypeId) (i : TypeInfo) (ht : P.underlying t = some (.slice e)) (hi : P.info? e = some i)
    (b ax : Option Addr) (n c cx : Nat) (hs : a.eval s = .slice b n c) (hx : a.eval x = .slice ax 0 cx) (hnc : n ≤ c)
    (h : wpList P ops Q rest (a.put o.dst (.slice b n c)) w) : wpList P ops Q (o :: rest) a w := by
  refine wpList_plain hgd fun K hK => ?_
  have hrun := run_append_zero (P := P) w t o.type e i ht hi b ax n c cx hnc
  unfold Oper.wp
  simp [execOp, ho, resolve, invoke, builtin, hs, hx, hrun, Result.andThen]
  exact hK _ _ h
theorem append_clip {P : Program} {w : World} {ops : Array Oper} {rest : List Oper} {o : Oper} {a : Act} {Q : Exit → Act → World → Prop} (hgd : o.guard = none) (s x : Operand) (t : TypeId)
    (ho : o.op = .call { callee := .builtin .append, args := #[s, x], argTypes := #[t, t] })
    (e : TypeId) (i : TypeInfo) (z : Value) (bytes : Nat) (ht : P.underlying t = some (.slice e)) (hi : P.info? e = some i) (hz : i.zero = some z)
    (hsize : i.size = 1) (hby : i.bytes = bytes) (hzs : z.cells.size = 1)
    (k : IntKind) (ao : Option Addr) (n : Nat) (L : Nat → Int) (hs : a.eval s = .slice ao n n) (hL : Rd k w ao n L) (hnil : ao = none → n = 0 ∧ n = 0)
    (ax : Option Addr) (m c : Nat) (M : Nat → Int) (hx : a.eval x = .slice ax m c) (hM : Rd k w ax m M) (hn : n + m ≤ 1000000000) (hbytes : bytes ≤ 1000)
    (h : ∀ a' c' w', Rd k w' a' (n + m) (appL L n M) → n + m ≤ c' → c' ≤ 9223372036854775807 → (a' = none → n + m = 0) → Below w.heap.size w w' → wpList P ops Q rest (a.put o.dst (.slice a' (n + m) c')) w') : wpList P ops Q (o :: rest) a w := by
  rcases Nat.eq_zero_or_pos m with rfl | hm
  · refine wpList_append_zero hgd s x t ho e i ht hi ao ax n n c hs hx (Nat.le_refl _) (h ao n w ?_ (Nat.le_refl _) (by omega) (fun e => by have := (hnil e).1; omega) (Below.refl _ _))
    exact fun j hj => by
      have := hL j hj
      simpa [appL, show j < n from hj] using this
  · obtain ⟨b0, o0, had, _⟩ := hM 0 hm
    have hb : (n + m) * bytes ≤ 1000000000 * 1000 := Nat.mul_le_mul hn hbytes
    refine wpList_append_grows w hgd s x t ho e i z 1 bytes ht hi hz hsize hby hzs (by decide) ao n n (nums k L n) hs hnil (by simp [nums_len]) (fun b hb => nums_news hL b hb) ⟨b0, o0, none⟩ m c (nums k M m) (by rw [hx, had]) (by simp [nums_len]) (nums_news hM _ had) (nums_one _ _ _) (by omega) (by unfold maxLen; omega) (by omega) ?_
    intro v' w' hown hg
    rw [nums_app] at hown
    obtain ⟨a', c', rfl, h1, h2, h3, h4⟩ := own_mine hown
    exact h a' c' w' h4.rd h1 h2 (fun e => (h3 e).1) (Below.grown (Below.refl _ _) hg (Nat.le_refl _) (by simp))
end Go.Proofs.Ytmdohnbhogfopaa
/- Lists of lists of bytes: what they read as, one behind the other. -/
namespace Go.Proofs.Ytmdohnbhogfopaa
open Go.RowKit
set_option linter.unusedVariables false
def Parts (w : World) (ap : Option Addr) (K : Nat) (PA : Nat → Option Addr) (PN PC : Nat → Nat) (PL : Nat → Nat → Int) : Prop :=
  ∀ i, i < K → ∃ b o, ap = some ⟨b, o, none⟩ ∧ w.cell? ⟨b, o + i, none⟩ = some (.slice (PA i) (PN i) (PC i)) ∧ Rd .u8 w (PA i) (PN i) (PL i) ∧ NilOk (PA i) (PN i) (PC i) ∧ ∀ j, j < PN i → 0 ≤ PL i j ∧ PL i j < 256
theorem Parts.below {w w' : World} {ap : Option Addr} {K : Nat} {PA : Nat → Option Addr} {PN PC : Nat → Nat} {PL : Nat → Nat → Int} {B : Nat} (h : Parts w ap K PA PN PC PL) (hb : Below B w w') (hB : w.heap.size ≤ B) : Parts w' ap K PA PN PC PL := fun i hi => by
  obtain ⟨b, o, h1, h2, h3, h4⟩ := h i hi
  exact ⟨b, o, h1, below_cell h2 hb (Nat.lt_of_lt_of_le (World.block_lt_of_cell? w _ h2) hB), h3.below hb hB, h4⟩
def catN (PN : Nat → Nat) : Nat → Nat
  | 0 => 0
  | k + 1 => catN PN k + PN k
def catL (PN : Nat → Nat) (PL : Nat → Nat → Int) : Nat → Nat → Int
  | 0 => fun _ => 0
  | k + 1 => appL (catL PN PL k) (catN PN k) (PL k)
theorem catN_mono {PN : Nat → Nat} {i : Nat} : ∀ {k : Nat}, i ≤ k → catN PN i ≤ catN PN k
  | 0, h => by simp at h; subst h; exact Nat.le_refl _
  | k + 1, h => by
    rcases Nat.lt_or_ge i (k + 1) with h1 | h1
    · exact Nat.le_trans (catN_mono (k := k) (by omega)) (Nat.le_add_right _ _)
    · obtain rfl : i = k + 1 := by omega
      exact Nat.le_refl _
theorem catL_at {PN : Nat → Nat} {PL : Nat → Nat → Int} {i j : Nat} (hj : j < PN i) : ∀ {k : Nat}, i < k → catL PN PL k (catN PN i + j) = PL i j
  | 0, h => by omega
  | k + 1, h => by
    rcases Nat.lt_or_ge i k with h1 | h1
    · have h2 := catN_mono (PN := PN) (show i + 1 ≤ k by omega)
      simp only [catN] at h2
      rw [catL, appL, if_pos (by omega)]
      exact catL_at hj h1
    · obtain rfl : i = k := by omega
      rw [catL, appL, if_neg (by omega)]
      congr 1
      omega
theorem catL_byte {PN : Nat → Nat} {PL : Nat → Nat → Int} {k : Nat} (h : ∀ i, i < k → ∀ j, j < PN i → 0 ≤ PL i j ∧ PL i j < 256) : ∀ x, x < catN PN k → 0 ≤ catL PN PL k x ∧ catL PN PL k x < 256 := by
  induction k with
  | zero => intro x hx; simp [catN] at hx
  | succ k ih =>
    intro x hx
    simp only [catN] at hx
    rw [catL, appL]
    split
    · exact ih (fun i hi => h i (by omega)) x (by assumption)
    · exact h k (by omega) _ (by omega)
/-- One part alone. -/
theorem parts_one {w : World} {b o : Nat} {pa : Option Addr} {n c : Nat} {L : Nat → Int} (hc : w.cell? ⟨b, o, none⟩ = some (.slice pa n c)) (hr : Rd .u8 w pa n L) (hn : NilOk pa n c) (hL : ∀ j, j < n → 0 ≤ L j ∧ L j < 256) :
    Parts w (some ⟨b, o, none⟩) 1 (fun _ => pa) (fun _ => n) (fun _ => c) (fun _ => L) := fun i hi => by
  obtain rfl : i = 0 := by omega
  exact ⟨b, o, rfl, hc, hr, hn, hL⟩
theorem catL_one (n : Nat) (L : Nat → Int) (x : Nat) : catL (fun _ => n) (fun _ => L) 1 x = L x := by simp [catL, appL, catN]
theorem catN_one (n : Nat) : catN (fun _ => n) 1 = n := by simp [catN]
/-- A list of the call's own is one of these, too. -/
theorem NilOk.own {a : Option Addr} {n c : Nat} (h1 : n ≤ c) (h2 : c ≤ 9223372036854775807) (h3 : a = none → n = 0 ∧ c = 0) : NilOk a n c := ⟨h1, h2, h3⟩
end Go.Proofs.Ytmdohnbhogfopaa
/- Sums: Of. -/
namespace Go.Proofs.Ytmdohnbhogfopaa
open Go.RowKit
set_option linter.unusedSimpArgs false
set_option linter.unusedVariables false
set_option maxRecDepth 100000
def regAt (PN : Nat → Nat) (PL : Nat → Nat → Int) (K x : Nat) : Nat := regB 4294967295 (bitU (catL PN PL K)) (8 * x)
theorem regAt_lt (PN : Nat → Nat) (PL : Nat → Nat → Int) (K x : Nat) : regAt PN PL K x < 4294967296 := regB_lt (by decide) _
def InvOf1 (w : World) (ap : Option Addr) (K cp : Nat) (PN : Nat → Nat) (PL : Nat → Nat → Int) (g : Nat) (k : Nat) (a : Act) (wr : World) : Prop :=
  ∃ i : Nat, i + k = K ∧ Below w.heap.size w wr ∧ Blk wr g #[.int .u32 (regAt PN PL K (catN PN i) : Nat)] 225 ∧
    a.tmps.size = 29 ∧ a.defers = [] ∧ slot a 3 = .pointer (some ⟨g, 0, none⟩) ∧ slot a 4 = .func (.func 139) #[.pointer (some ⟨g, 0, none⟩)] #[] ∧ slot a 10 = .slice ap K cp ∧ slot a 11 = .int .i64 K ∧ slot a 12 = .int .i64 i
def InvOf2 (w : World) (ap : Option Addr) (K cp : Nat) (PN : Nat → Nat) (PL : Nat → Nat → Int) (g i : Nat) (pa : Option Addr) (pc : Nat) (k : Nat) (a : Act) (wr : World) : Prop :=
  ∃ j : Nat, j + k = PN i ∧ Below w.heap.size w wr ∧ Blk wr g #[.int .u32 (regAt PN PL K (catN PN i + j) : Nat)] 225 ∧
    a.tmps.size = 29 ∧ a.defers = [] ∧ slot a 3 = .pointer (some ⟨g, 0, none⟩) ∧ slot a 4 = .func (.func 139) #[.pointer (some ⟨g, 0, none⟩)] #[] ∧ slot a 10 = .slice ap K cp ∧ slot a 11 = .int .i64 K ∧ slot a 12 = .int .i64 i ∧ slot a 16 = .slice pa (PN i) pc ∧ slot a 17 = .int .i64 (PN i) ∧ slot a 18 = .int .i64 j
set_option maxHeartbeats 4000000 in
theorem sumsOf (w : World) (ap : Option Addr) (K cp : Nat) (PA : Nat → Option Addr) (PN PC : Nat → Nat) (PL : Nat → Nat → Int) (h : Parts w ap K PA PN PC PL) (hK : K ≤ 1000) (hN : catN PN K ≤ 1000000) :
    Calls Try.prog 122 #[.slice ap K cp] w fun e w' => e = .returned (.int .u32 (sumN (catL PN PL K) (catN PN K) : Nat)) ∧ Below w.heap.size w w' := by
  replace h := Lib.hid h
  go_enter Try.func122, Try.ntmps122
  go_wp2
  refine wp_loop_k (InvOf1 w ap K cp PN PL w.heap.size) K ?_ ?_
  · exact ⟨0, by omega, below_alloc _ _, Blk.new _ _ _, by kernel_rfl, rfl, by kernel_rfl, by kernel_rfl, by kernel_rfl, by kernel_rfl, by kernel_rfl⟩
  · generalize hgg : w.heap.size = g
    intro gk a wr hI K1 hK1
    obtain ⟨i, hi, hb, hB, hs', hd', k3', k4', k10', k11', k12'⟩ := hI
    rw [fr29 a hs' hd']; simp only [k3', k4', k10', k11', k12']; clear hs' hd' k3' k4' k10' k11' k12'
    by_cases hlt : i < K
    · have g1 : decide ((i : Int) < (K : Int)) = true := by simp; omega
      obtain ⟨b, o, rfl, hc, hr, hnl, hL⟩ := h.out i hlt
      have hc1 := below_cell hc hb (World.block_lt_of_cell? w _ hc)
      have hr1 := Lib.hid (hr.below hb (Nat.le_refl _))
      have hcat := catN_mono (PN := PN) (show i + 1 ≤ K by omega)
      have hPN : catN PN (i + 1) = catN PN i + PN i := rfl
      have hPN2 : PN i ≤ 1000000 := by omega
      have hcat' := Lib.hid hcat
      have hb' := Lib.hid hb
      have hB' := Lib.hid hB
      have ui : IntKind.i64.wrap ((i : Int) + 1) = ((i + 1 : Nat) : Int) := wrap_i64_small _ (by omega) (by omega)
      have hr0 := Lib.hid hr
      have hL' := Lib.hid hL
      have hnl' := Lib.hid hnl
      have hPN' := Lib.hid hPN
      clear hb hB hc hcat hr hL hnl hPN
      go_wp2
      refine wp_loop_k (InvOf2 w (some ⟨b, o, none⟩) K cp PN PL g i (PA i) (PC i)) (PN i) ?_ ?_
      · exact ⟨0, by omega, hb'.out, hB'.out, by kernel_rfl, rfl, by kernel_rfl, by kernel_rfl, by kernel_rfl, by kernel_rfl, by kernel_rfl, by kernel_rfl, by kernel_rfl, by kernel_rfl⟩
      · clear hb' hB' hc1 hr1 g1
        clear wr
        intro gk2 a wr hI K2 hK2
        obtain ⟨j, hj, hb, hB, hs', hd', k3', k4', k10', k11', k12', k16', k17', k18'⟩ := hI
        rw [fr29 a hs' hd']; simp only [k3', k4', k10', k11', k12', k16', k17', k18']; clear hs' hd' k3' k4' k10' k11' k12' k16' k17' k18'
        by_cases hlj : j < PN i
        · have g2 : decide ((j : Int) < (PN i : Int)) = true := by simp; omega
          have hx := hL'.out j hlj
          have hrB := (hr0.out.below hb (Nat.le_refl _)) j hlj
          obtain ⟨b2, o2, hpa, hc2⟩ := hrB
          have uj : IntKind.i64.wrap ((j : Int) + 1) = ((j + 1 : Nat) : Int) := wrap_i64_small _ (by omega) (by omega)
          have hreg := regB_byte 4294967295 (catL PN PL K) (catN PN i + j) (by rw [catL_at hlj hlt]; exact hx)
          rw [catL_at hlj hlt] at hreg
          have hreg' := Lib.hid hreg
          have hxx := Lib.hid hx
          have hb' := Lib.hid hb
          have hB' := Lib.hid hB
          generalize hpl : PL i j = x at *
          rw [hpa]
          clear hb hB hx hreg hpl
          go_wp2_with fail
          refine (sumsAdd _ _ _ _ (regAt_lt _ _ _ _) hxx.out hB'.out).mono ?_
          rintro e w2 ⟨rfl, hB2, hT⟩
          have hgb : w.heap.size ≤ g := by omega
          have hb2 := Lib.hid (hT.below hb'.out hb'.out.size (by simpa using hgb))
          have hB2' := Lib.hid hB2
          clear hB2 hT hb' hB'
          go_wp2
          exact hK2 (PN i - (j + 1)) _ _ (by omega) ⟨j + 1, by omega, hb2.out, by rw [regAt, ← Nat.add_assoc, ← hreg'.out]; exact hB2'.out, by kernel_rfl, rfl, by kernel_rfl, by kernel_rfl, by kernel_rfl, by kernel_rfl, by kernel_rfl, by show Value.slice _ _ _ = Value.slice _ _ _; rw [hpa], by kernel_rfl, by kernel_rfl⟩
        · obtain hji : j = PN i := by omega
          have g2 : decide ((j : Int) < (PN i : Int)) = false := by simp; omega
          have hb' := Lib.hid hb
          have hB' := Lib.hid hB
          clear hb hB
          go_wp2
          exact hK1 (K - (i + 1)) _ _ (by omega) ⟨i + 1, by omega, hb'.out, by rw [hPN'.out, ← hji]; exact hB'.out, by kernel_rfl, rfl, by kernel_rfl, by kernel_rfl, by kernel_rfl, by kernel_rfl, by kernel_rfl⟩
    · obtain rfl : i = K := by omega
      have g1 : decide ((i : Int) < (i : Int)) = false := by simp
      have c0 := hB.cell (i := 0) rfl
      have hlr := regAt_lt PN PL i (catN PN i)
      have hs : Hid (sumN (catL PN PL i) (catN PN i) = 4294967295 - regAt PN PL i (catN PN i)) := rfl
      generalize regAt PN PL i (catN PN i) = R at *
      have ux : bits .xor .u32 IntKind.u32.max (R : Int) = ((4294967295 - R : Nat) : Int) := by
        rw [sub_xor hlr, ← u32_xor_nat 4294967295 R (by decide) hlr]
        rfl
      go_wp2
      go_ret
      exact ⟨by rw [hs.out]; rfl, hgg ▸ hb⟩
end Go.Proofs.Ytmdohnbhogfopaa
/- help.go: SameBytes, TwinBytes, LeftBytes, where they answer yes. -/
namespace Go.Proofs.Ytmdohnbhogfopaa
open Go.RowKit
set_option linter.unusedSimpArgs false
set_option linter.unusedVariables false
theorem elemHBytes : (Try.prog.info? 5).map (fun i => (i.zero, i.size, i.bytes)) = some (some (.int .u8 0), 1, 1) := by kernel_rfl
set_option maxRecDepth 100000
/-- Bytes as a text. -/
def bytesStr (L : Nat → Int) (n : Nat) : ByteArray := ((List.range n).map L).foldl (fun r n => r.push (UInt8.ofNat n.toNat)) ByteArray.empty
theorem run_bytesStr (W : World) (ao : Option Addr) (n c : Nat) (L : Nat → Int) (h : Rd .u8 W ao n L) : (convert 22 9 (.slice ao n c)).run Try.prog W = .ok (.string (bytesStr L n)) W := by
  rw [run_convert_bytes_string W _ _ 5 ao n c Try.underlying22 Try.underlying5 Try.underlying9]
  cases ao with
  | none =>
    have : n = 0 := by
      rcases Nat.eq_zero_or_pos n with h0 | h0
      · exact h0
      · obtain ⟨b, o, h1, _⟩ := h 0 h0
        simp at h1
    subst this
    simp [Conv.bytesToString, bytesStr]
  | some ad =>
    refine run_bytesToString W ad n c ((List.range n).map L) ?_
    have hl := run_loadCells_list (P := Try.prog) W ad (nums .u8 L n) (nums_news h ad rfl)
    rw [nums_len] at hl
    rw [hl]
    simp [nums, Function.comp_def]
theorem sameBytes (w : World) (aa ab : Option Addr) (n ca cb : Nat) (L : Nat → Int) (ha : Rd .u8 w aa n L) (hb : Rd .u8 w ab n L) (hn : n ≤ 9223372036854775807) :
    Calls Try.prog 45 #[.slice aa n ca, .slice ab n cb] w fun e w' => e = .returned (.bool true) ∧ ∃ q, w' = w.drewN q := by
  have e1 := run_bytesStr w aa n ca L ha
  have e2 := run_bytesStr w ab n cb L hb
  clear ha hb
  generalize bytesStr L n = S at *
  go_enter Try.func45, Try.ntmps45
  go_wp2
  go_ret
  exact ⟨rfl, 0, rfl⟩
/-- What a twin is: its block, how many cells it has, and two marks behind the numbers. -/
def TwinBytesAt (w : World) (g n c : Nat) (L : Nat → Int) : Prop :=
  ∃ cur, Blk w g cur 5 ∧ cur.size = c ∧ n + 2 ≤ c ∧ c ≤ 9223372036854775807 ∧ (∀ i, i < n → cur[i]? = some (.int .u8 (L i))) ∧ cur[n]? = some (.int .u8 77) ∧ cur[n + 1]? = some (.int .u8 77)
set_option maxHeartbeats 400000 in
theorem twinBytes (w : World) (aa : Option Addr) (n ca : Nat) (L : Nat → Int) (ha : Rd .u8 w aa n L) (hnil : aa = none → ca = 0) (hn : n ≤ 1000000) :
    Calls Try.prog 53 #[.slice aa n ca] w fun e w' => ∃ g c, e = .returned (.slice (some ⟨g, 0, none⟩) n c) ∧ w.heap.size ≤ g ∧ Below w.heap.size w w' ∧ TwinBytesAt w' g n c L := by
  have hnil' : aa = none → n = 0 ∧ ca = 0 := fun h => ⟨by
    rcases Nat.eq_zero_or_pos n with h0 | h0
    · exact h0
    · obtain ⟨b, o, h1, _⟩ := ha 0 h0
      rw [h] at h1
      exact absurd h1 (by simp), hnil h⟩
  replace ha := Lib.hid ha
  replace hnil' := Lib.hid hnil'
  clear hnil
  obtain ⟨i0, hi, hz0, hz1, hz2⟩ := info_parts elemHBytes
  go_enter Try.func53, Try.ntmps53
  go_wp2_with (at_builtin; refine append_src rfl _ _ 22 rfl w.heap.size 5 i0 (.int .u8 0) 1 Try.underlying22 hi hz0 hz1 hz2 rfl _ _ _ rfl (World.ownsRow_nil _ _ _ _) aa n ca (nums .u8 L n) rfl hnil'.out (nums_len _ _ _) (nums_news ha.out) (nums_one _ _ _) (by omega) (by omega) (Nat.le_refl _) ?_)
  intro v1 w1 hown1 hg1 _
  have hb1 : Below w.heap.size w w1 := Below.grown (Below.refl _ _) hg1 (Nat.le_refl _) (by simp [Value.ownBlock])
  have hs1 := hb1.size
  clear hg1 ha hnil'
  go_wp2_with (at_builtin; refine append_src rfl _ _ 22 rfl w.heap.size 5 i0 (.int .u8 0) 1 Try.underlying22 hi hz0 hz1 hz2 rfl _ _ _ rfl (hown1.alloc _) (some ⟨w1.heap.size, 0, none⟩) 2 2 [.int .u8 77, .int .u8 77] rfl (by simp) rfl ?q1 ?q2 (by omega) (by omega) (by simp; omega) ?q3)
  case q1 =>
    intro ad had j u hj
    simp only [Option.some.injEq] at had
    subst had
    match j, hj with
    | 0, hj => simp at hj; subst hj; simp [Addr.add, go_sem]
    | 1, hj => simp at hj; subst hj; simp [Addr.add, go_sem]
  case q2 => intro u hu; simp at hu; subst hu; rfl
  case q3 =>
    intro v2 w2 hown2 hg2 hiff
    have hb2 : Below w.heap.size w w2 := Below.grown (hb1.alloc hs1 _) hg2 (by simp; omega) (fun k hk => (hown1.lt k hk).1)
    have hex : ∃ g cap cur, v2 = .slice (some ⟨g, 0, none⟩) (n + 2) cap ∧ w.heap.size ≤ g ∧ Blk w2 g cur 5 ∧ n + 2 ≤ cap ∧ cap ≤ 9223372036854775807 ∧ cur.size = cap ∧ cur.toList.take (n + 2) = nums .u8 L n ++ [.int .u8 77, .int .u8 77] := by
      rcases hown2.2 with ⟨_, h2⟩ | ⟨g, cap, cur, h1, h2, h3, h4, h5, h6, h7⟩
      · exact absurd h2 (by omega)
      · exact ⟨g, cap, cur, h1, h2, h3, h4, by unfold maxLen at h5; omega, by simpa using h6, by simpa using h7⟩
    obtain ⟨g, cap, cur, rfl, hg, hblk, hcap, hmax, hsz, htake⟩ := hex
    have hget : ∀ j u, (nums .u8 L n ++ [.int .u8 77, .int .u8 77])[j]? = some u → cur[j]? = some u := fun j u hj => by
      rw [← htake, List.getElem?_take] at hj
      split at hj
      · simpa using hj
      · simp at hj
    have k1 : ∀ i, i < n → cur[i]? = some (.int .u8 (L i)) := fun i hi => hget i _ (by rw [List.getElem?_append_left (by rw [nums_len]; exact hi)]; exact nums_get hi)
    have k2 : cur[n]? = some (.int .u8 77) := hget n _ (by rw [List.getElem?_append_right (by rw [nums_len]; exact Nat.le_refl _)]; simp [nums_len])
    have k3 : cur[n + 1]? = some (.int .u8 77) := hget (n + 1) _ (by rw [List.getElem?_append_right (by rw [nums_len]; omega)]; simp [nums_len])
    have hfin : TwinBytesAt w2 g n cap L := ⟨cur, hblk, hsz, hcap, hmax, k1, k2, k3⟩
    clear hown1 hown2 hg2 hiff hblk hsz htake hget k1 k2 k3 hb1
    go_wp2
    go_ret
    exact ⟨g, cap, rfl, hg, hb2, hfin⟩
set_option maxHeartbeats 400000 in
theorem leftBytes (w : World) (g n c : Nat) (ab : Option Addr) (cb : Nat) (L : Nat → Int) (ht : TwinBytesAt w g n c L) (hb : Rd .u8 w ab n L) :
    Calls Try.prog 57 #[.slice (some ⟨g, 0, none⟩) n c, .slice ab n cb] w fun e w' => e = .returned (.bool true) ∧ ∃ q, w' = w.drewN q := by
  obtain ⟨cur, hblk, hsz, hcap, hmax, k1, k2, k3⟩ := ht
  have hr := Lib.hid (Rd.of_blk hblk k1)
  have e2 := hblk.cell k2
  have e3 := hblk.cell k3
  replace hb := Lib.hid hb
  clear k1 k2 k3 hblk hsz
  go_enter Try.func57, Try.ntmps57
  go_wp2_with fail
  refine (sameBytes _ _ _ _ _ _ L hr.out hb.out (by omega)).mono ?_
  rintro e wx ⟨rfl, q, rfl⟩
  go_wp2_with fail
  go_ret
  exact ⟨rfl, _, rfl⟩
end Go.Proofs.Ytmdohnbhogfopaa
/- slices.Equal of bytes; texts of bytes: whatever they answer. -/
namespace Go.Proofs.Ytmdohnbhogfopaa
open Go.RowKit
set_option linter.unusedSimpArgs false
set_option linter.unusedVariables false
set_option maxRecDepth 100000
def alikeB (A B : Nat → Int) : Nat → Bool
  | 0 => true
  | i + 1 => alikeB A B i && decide (A i = B i)
theorem alikeB_true {A B : Nat → Int} : ∀ {n : Nat}, alikeB A B n = true ↔ ∀ i, i < n → A i = B i
  | 0 => by simp [alikeB]
  | n + 1 => by
    simp only [alikeB, Bool.and_eq_true, alikeB_true, decide_eq_true_eq]
    constructor
    · rintro ⟨h, e⟩ i hi
      rcases Nat.lt_succ_iff_lt_or_eq.1 hi with h1 | rfl
      · exact h i h1
      · exact e
    · exact fun h => ⟨fun i hi => h i (by omega), h n (by omega)⟩
theorem alikeB_false {A B : Nat → Int} {n i : Nat} (hi : i < n) (h : A i ≠ B i) : alikeB A B n = false := by
  cases h2 : alikeB A B n with
  | false => rfl
  | true => exact absurd (alikeB_true.1 h2 i hi) h
theorem bytesStr_data (L : Nat → Int) : ∀ n, (bytesStr L n).data.toList = (List.range n).map fun i => UInt8.ofNat (L i).toNat
  | 0 => rfl
  | n + 1 => by
    have ih := bytesStr_data L n
    have e : bytesStr L (n + 1) = (bytesStr L n).push (UInt8.ofNat (L n).toNat) := by
      simp [bytesStr, List.range_succ, List.foldl_append]
    rw [e, List.range_succ, List.map_append, ← ih]
    simp [ByteArray.push]
theorem byte_inj {x y : Int} (hx : 0 ≤ x ∧ x < 256) (hy : 0 ≤ y ∧ y < 256) (h : UInt8.ofNat x.toNat = UInt8.ofNat y.toNat) : x = y := by
  have := congrArg UInt8.toNat h
  simp at this
  omega
/-- Bytes as texts are the same just if they are the same. -/
theorem bytesStr_eq {A B : Nat → Int} {n m : Nat} (hA : ∀ i, i < n → 0 ≤ A i ∧ A i < 256) (hB : ∀ i, i < m → 0 ≤ B i ∧ B i < 256) : (bytesStr A n = bytesStr B m) ↔ (decide (n = m) && alikeB A B n) = true := by
  constructor
  · intro h
    have h2 : (List.range n).map (fun i => UInt8.ofNat (A i).toNat) = (List.range m).map fun i => UInt8.ofNat (B i).toNat := by rw [← bytesStr_data, ← bytesStr_data, h]
    have h3 : n = m := by simpa using congrArg List.length h2
    subst h3
    simp only [decide_true, Bool.true_and]
    refine alikeB_true.2 fun i hi => byte_inj (hA i hi) (hB i hi) ?_
    have := congrArg (·[i]?) h2
    simpa [hi] using this
  · intro h
    simp only [Bool.and_eq_true, decide_eq_true_eq] at h
    obtain ⟨rfl, h⟩ := h
    have h2 := alikeB_true.1 h
    unfold bytesStr
    have e : (List.range n).map A = (List.range n).map B := List.map_congr_left fun i hi => h2 i (by simpa using hi)
    rw [e]
def InvEqB (w : World) (aa ab : Option Addr) (n ca cb : Nat) (A B : Nat → Int) (k : Nat) (a : Act) (wr : World) : Prop :=
  ∃ i q : Nat, i + k = n ∧ wr = w.drewN q ∧ alikeB A B i = true ∧ a.tmps.size = 26 ∧ a.defers = [] ∧ slot a 0 = .slice aa n ca ∧ slot a 1 = .slice ab n cb ∧ slot a 12 = .int .i64 n ∧ slot a 13 = .int .i64 i
set_option maxHeartbeats 400000 in
theorem equalBytes (w : World) (aa ab : Option Addr) (n m ca cb : Nat) (A B : Nat → Int) (ha : Rd .u8 w aa n A) (hb : Rd .u8 w ab m B) (hn : n ≤ 1000000000) :
    Calls Try.prog 127 #[.slice aa n ca, .slice ab m cb] w fun e w' => e = .returned (.bool (decide (n = m) && alikeB A B n)) ∧ ∃ q, w' = w.drewN q := by
  replace ha := Lib.hid ha
  replace hb := Lib.hid hb
  by_cases hnm : n = m
  · subst hnm
    have er : (decide (n = n) && alikeB A B n) = alikeB A B n := by simp
    rw [er]
    clear er
    go_enter Try.func127, Try.ntmps127
    go_wp2
    refine wp_loop_k (InvEqB w aa ab n ca cb A B) n ?_ ?_
    · exact ⟨0, 0, by omega, rfl, rfl, by kernel_rfl, rfl, by kernel_rfl, by kernel_rfl, by kernel_rfl, by kernel_rfl⟩
    · intro gk a wr hI K hK
      obtain ⟨i, q, hi, rfl, hal, hs', hd', k0', k1', k12', k13'⟩ := hI
      rw [fr26 a hs' hd']; simp only [k0', k1', k12', k13']; clear hs' hd' k0' k1' k12' k13'
      replace hal := Lib.hid hal
      by_cases hlt : i < n
      · obtain ⟨b, o, rfl, hc⟩ := ha.out i hlt
        obtain ⟨b', o', rfl, hc'⟩ := hb.out i hlt
        have hin : (i : Int) < n := by omega
        have hwi : IntKind.i64.wrap (i : Int) = i := by rw [IntKind.wrap_i64]; omega
        by_cases hab : A i = B i
        · have hne : (A i != B i) = false := by simp [hab]
          replace hal := Lib.hid (show alikeB A B (i + 1) = true by simp [alikeB, hal.out, hab])
          clear hab
          go_wp2_with fail
          go_quiet (fail)
          go_wp2
          refine hK (n - (i + 1)) _ _ (by omega) ⟨i + 1, _, by omega, rfl, hal.out, by kernel_rfl, rfl, by kernel_rfl, by kernel_rfl, by kernel_rfl, ?_⟩
          show Value.int _ _ = Value.int _ _
          simp
        · have hne : (A i != B i) = true := by simp [hab]
          have hal2 := Lib.hid (alikeB_false hlt hab)
          clear hab
          go_wp2_with fail
          go_quiet (fail)
          go_wp2
          go_ret
          exact ⟨by rw [hal2.out]; rfl, _, World.drewN_drewN _ _ _⟩
      · obtain rfl : i = n := by omega
        go_wp2
        go_ret
        exact ⟨by rw [hal.out]; rfl, _, rfl⟩
  · have er : (decide (n = m) && alikeB A B n) = false := by simp [hnm]
    rw [er]
    have hne : ((n : Int) != (m : Int)) = true := by simp; omega
    clear er
    go_enter Try.func127, Try.ntmps127
    go_wp2
    go_ret
    exact ⟨rfl, 0, rfl⟩
end Go.Proofs.Ytmdohnbhogfopaa
/- Sums: Put; Concat, Grow, Clip, Clone off the shelf's own text. -/
namespace Go.Proofs.Ytmdohnbhogfopaa
open Go.RowKit
set_option linter.unusedSimpArgs false
set_option linter.unusedVariables false
set_option maxRecDepth 100000
theorem clipB (w : World) (a : Option Addr) (n c : Nat) (hn : n ≤ c) (hc : c ≤ 9223372036854775807) :
    Calls Try.prog 118 #[.slice a n c] w fun e w' => e = .returned (.slice a n n) ∧ w = w' := by
  go_enter Try.func118, Try.ntmps118
  go_wp2
  go_ret
  exact ⟨rfl, rfl⟩
/-- slices.Clone of bytes: nil of nil, else a list of its own. -/
theorem cloneB (w : World) (ao : Option Addr) (n c : Nat) (L : Nat → Int) (ha : Rd .u8 w ao n L) (hnil : ao = none → n = 0 ∧ c = 0) (hn : n ≤ 1000000000) :
    Calls Try.prog 126 #[.slice ao n c] w fun e w' => ∃ v, e = .returned v ∧ w'.ownsRow w.heap.size 5 1 v n (nums .u8 L n) ∧ Below w.heap.size w w' := by
  obtain ⟨i0, hi, hz0, hz1, hz2⟩ := info_parts elemHBytes
  replace ha := Lib.hid ha
  have hq := fun (W : World) => Lib.run_eql_slice_nil (P := Try.prog) W 22 5 ao n c 0 0 Try.underlying22
  cases ao with
  | none =>
    obtain ⟨rfl, rfl⟩ := hnil rfl
    go_enter Try.func126, Try.ntmps126
    go_wp2
    go_ret
    exact ⟨_, rfl, World.ownsRow_nil _ _ _ _, Below.refl _ _⟩
  | some ad =>
    clear hnil
    go_enter Try.func126, Try.ntmps126
    go_wp2_with (at_builtin; refine append_src rfl _ _ 22 rfl w.heap.size 5 i0 (.int .u8 0) 1 Try.underlying22 hi hz0 hz1 hz2 rfl _ 0 [] rfl (World.ownsRow_made _ _ 0 (Nat.le_refl _) (by unfold maxLen; omega) rfl) (some ad) n c (nums .u8 L n) rfl (by simp) (nums_len _ _ _) (nums_news (ha.out.below ((Below.refl _ _).alloc (Nat.le_refl _) _) (Nat.le_refl _))) (nums_one _ _ _) (by omega) (by omega) (by simp) ?_)
    intro v1 w1 hown1 hg1 _
    have hb1 : Below w.heap.size w w1 := Below.grown ((Below.refl _ _).alloc (Nat.le_refl _) _) hg1 (by simp) (by simp [Value.ownBlock])
    try simp only [Nat.zero_add, List.nil_append] at hown1
    clear hg1 ha
    go_wp2
    go_ret
    exact ⟨_, rfl, hown1, hb1⟩
/-- slices.Grow of nil. -/
theorem growB (w : World) (n : Nat) (hn : n ≤ 1000000) :
    Calls Try.prog 138 #[.slice none 0 0, .int .i64 n] w fun e w' => ∃ v, e = .returned v ∧ w'.ownsRow w.heap.size 5 1 v 0 [] ∧ Below w.heap.size w w' := by
  obtain ⟨i0, hi, hz0, hz1, hz2⟩ := info_parts elemHBytes
  have u1 : IntKind.i64.wrap (n : Int) = n := wrap_i64_small _ (by omega) (by omega)
  have g1 : decide ((n : Int) < 0) = false := by simp <;> omega
  rcases Nat.eq_zero_or_pos n with rfl | hp
  · go_enter Try.func138, Try.ntmps138
    go_wp2
    go_ret
    exact ⟨_, rfl, World.ownsRow_nil _ _ _ _, Below.refl _ _⟩
  · have g2 : decide (0 < (n : Int)) = true := by simp; omega
    have hu := Try.underlying22
    have happ := Lib.run_append_nil_zeros (P := Try.prog) w 22 3 22 5 i0 (.int .u8 0) .i64 .i64 Try.underlying22 Try.underlying3 hi hz0 n hp (by omega) (by omega) (by rw [hz2]; omega)
    have hcg : n ≤ grownCap w n 0 5 := grownCap_ge w _ 0 _
    have hcl : grownCap w n 0 5 ≤ maxLen := grownCap_le_maxLen w _ 0 _ (by unfold maxLen; omega)
    generalize grownCap w n 0 5 = cap at *
    generalize hZ : Builtin.zeroCells (Value.int .u8 0).cells n ++ Builtin.zeroCells (Value.int .u8 0).cells (cap - n) = Z at *
    have hZs : Z.size = cap := by rw [← hZ]; simp [size_zeroCells, Value.cells]; omega
    have hown := Lib.hid (World.ownsRow_made (base := w.heap.size) (e := 5) (size := 1) w.drew Z cap (Nat.le_refl _) hcl (by omega))
    have hbel := Lib.hid (show Below w.heap.size w (w.drew.alloc (.cells Z 5)) from (bdrewN (Below.refl _ w) 1).alloc (Nat.le_refl _) _)
    have hmx : cap ≤ 9223372036854775807 := by unfold maxLen at hcl; omega
    have hsz : w.drew.heap.size = w.heap.size := rfl
    clear hZ hcl
    go_enter Try.func138, Try.ntmps138
    go_wp2_with (at_builtin; refine Lib.wpList_append_run _ rfl _ _ _ _ rfl _ _ rfl rfl _ _ happ ?_)
    go_wp2
    go_ret
    exact ⟨_, rfl, hown.out, hbel.out⟩
end Go.Proofs.Ytmdohnbhogfopaa
/- Sums: Concat, Put, Check. -/
namespace Go.Proofs.Ytmdohnbhogfopaa
open Go.RowKit
set_option linter.unusedSimpArgs false
set_option linter.unusedVariables false
set_option maxRecDepth 100000
theorem own_below {w w' : World} {B B' : Nat} {E : TypeId} {v : Value} {n : Nat} {xs : List Value} (h : w.ownsRow B E 1 v n xs) (hb : Below B' w w') (hB : w.heap.size ≤ B') : w'.ownsRow B E 1 v n xs := by
  refine ⟨h.1, ?_⟩
  rcases h.2 with h2 | ⟨g, cap, cur, h1, h2, h3, h4⟩
  · exact .inl h2
  · exact .inr ⟨g, cap, cur, h1, h2, (hb.block g (Nat.lt_of_lt_of_le (Array.getElem?_eq_some_iff.1 h3).1 hB)).trans h3, h4⟩
def InvCat1 (w : World) (ap : Option Addr) (K cp : Nat) (PN : Nat → Nat) (k : Nat) (a : Act) (wr : World) : Prop :=
  ∃ i : Nat, i + k = K ∧ wr = w ∧ a.tmps.size = 36 ∧ a.defers = [] ∧ slot a 0 = .slice ap K cp ∧ slot a 3 = .int .i64 (catN PN i : Nat) ∧ slot a 9 = .slice ap K cp ∧ slot a 10 = .int .i64 K ∧ slot a 11 = .int .i64 i
def InvCat2 (w : World) (ap : Option Addr) (K cp : Nat) (PN : Nat → Nat) (PL : Nat → Nat → Int) (k : Nat) (a : Act) (wr : World) : Prop :=
  ∃ (i : Nat) (v : Value), i + k = K ∧ Below w.heap.size w wr ∧ wr.ownsRow w.heap.size 5 1 v (catN PN i) (nums .u8 (catL PN PL i) (catN PN i)) ∧ a.tmps.size = 36 ∧ a.defers = [] ∧ slot a 6 = v ∧ slot a 25 = .slice ap K cp ∧ slot a 26 = .int .i64 K ∧ slot a 27 = .int .i64 i
set_option maxHeartbeats 1000000 in
/-- slices.Concat. -/
theorem concatB (w : World) (ap : Option Addr) (K cp : Nat) (PA : Nat → Option Addr) (PN PC : Nat → Nat) (PL : Nat → Nat → Int) (h : Parts w ap K PA PN PC PL) (hK : K ≤ 1000) (hN : catN PN K ≤ 1000000) :
    Calls Try.prog 121 #[.slice ap K cp] w fun e w' => ∃ v, e = .returned v ∧ w'.ownsRow w.heap.size 5 1 v (catN PN K) (nums .u8 (catL PN PL K) (catN PN K)) ∧ Below w.heap.size w w' := by
  obtain ⟨i0, hi0, hz0, hz1, hz2⟩ := info_parts elemHBytes
  replace h := Lib.hid h
  go_enter Try.func121, Try.ntmps121
  go_wp2
  refine wp_loop_k (InvCat1 w ap K cp PN) K ?_ ?_
  · exact ⟨0, by omega, rfl, by kernel_rfl, rfl, by kernel_rfl, by kernel_rfl, by kernel_rfl, by kernel_rfl, by kernel_rfl⟩
  · intro gk a wr hI K1 hK1
    obtain ⟨i, hi, rfl, hs', hd', k0', k3', k9', k10', k11'⟩ := hI
    rw [fr36 a hs' hd']; simp only [k0', k3', k9', k10', k11']; clear hs' hd' k0' k3' k9' k10' k11'
    by_cases hlt : i < K
    · have g1 : decide ((i : Int) < (K : Int)) = true := by simp; omega
      obtain ⟨b, o, rfl, hc, hr, hnl, hL⟩ := h.out i hlt
      have hcat := catN_mono (PN := PN) (show i + 1 ≤ K by omega)
      have hPN : catN PN (i + 1) = catN PN i + PN i := rfl
      have ui : IntKind.i64.wrap ((i : Int) + 1) = ((i + 1 : Nat) : Int) := wrap_i64_small _ (by omega) (by omega)
      have us : IntKind.i64.wrap ((catN PN i : Int) + (PN i : Int)) = ((catN PN (i + 1) : Nat) : Int) := by rw [wrap_i64_small _ (by omega) (by omega)]; omega
      have g2 : decide (((catN PN (i + 1) : Nat) : Int) < 0) = false := by simp <;> omega
      generalize catN PN (i + 1) = s1 at *
      have hs1 : Hid (s1 = catN PN (i + 1)) := hPN
      clear hr hL hnl hPN hcat
      go_wp2
      exact hK1 (K - (i + 1)) _ _ (by omega) ⟨i + 1, by omega, rfl, by kernel_rfl, rfl, by kernel_rfl, by show Value.int _ _ = Value.int _ _; rw [hs1.out], by kernel_rfl, by kernel_rfl, by kernel_rfl⟩
    · obtain rfl : K = i := by omega
      have g1 : decide ((K : Int) < (K : Int)) = false := by simp
      go_wp2_with fail
      refine (growB _ _ hN).mono ?_
      rintro e w1 ⟨v, rfl, hown, hb⟩
      have hown' := Lib.hid hown
      have hb' := Lib.hid hb
      clear hown hb
      go_wp2
      refine wp_loop_k (InvCat2 wr ap K cp PN PL) K ?_ ?_
      · exact ⟨0, v, by omega, hb'.out, hown'.out, by kernel_rfl, rfl, by kernel_rfl, by kernel_rfl, by kernel_rfl, by kernel_rfl⟩
      · clear hown' hb' g1
        clear v w1 hlt hi
        intro gk2 a w2 hI K2 hK2
        obtain ⟨i, v, hi, hb, hown, hs', hd', k6', k25', k26', k27'⟩ := hI
        rw [fr36 a hs' hd']; simp only [k6', k25', k26', k27']; clear hs' hd' k6' k25' k26' k27'
        by_cases hlt : i < K
        · have g1 : decide ((i : Int) < (K : Int)) = true := by simp; omega
          obtain ⟨b, o, rfl, hc, hr, hnl, hL⟩ := h.out i hlt
          have hcat := catN_mono (PN := PN) (show i + 1 ≤ K by omega)
          have hPN : catN PN (i + 1) = catN PN i + PN i := rfl
          have ui : IntKind.i64.wrap ((i : Int) + 1) = ((i + 1 : Nat) : Int) := wrap_i64_small _ (by omega) (by omega)
          have hc2 := below_cell hc hb (World.block_lt_of_cell? wr _ hc)
          have hr2 := hr.below hb (Nat.le_refl _)
          have hnews := nums_news hr2
          have hown' := Lib.hid hown
          have hb' := Lib.hid hb
          have hnews' := Lib.hid hnews
          have hnl' := Lib.hid hnl
          have hPN' := Lib.hid hPN
          have hcat' := Lib.hid hcat
          clear hr hL hnl hPN hcat hc hr2 hnews hb hown
          go_wp2_with (at_builtin; refine append_src rfl _ _ 22 rfl wr.heap.size 5 i0 (.int .u8 0) 1 Try.underlying22 hi0 hz0 hz1 hz2 rfl _ _ _ rfl hown'.out (PA i) (PN i) (PC i) (nums .u8 (PL i) (PN i)) rfl hnl'.out.2.2 (nums_len _ _ _) hnews'.out (nums_one _ _ _) (by have := hcat'.out; have := hPN'.out; omega) (by have := hcat'.out; have := hPN'.out; omega) hb'.out.size ?_)
          intro v1 w3 hown1 hg1 _
          have hb3 := hb'.out.trans (Below.grown (Below.refl _ _) hg1 hb'.out.size (fun k hk => (hown'.out.lt k hk).1))
          rw [nums_app] at hown1
          have hown2 := Lib.hid hown1
          have hb4 := Lib.hid hb3
          clear hown1 hg1 hb3 hown' hb'
          go_wp2
          exact hK2 (K - (i + 1)) _ _ (by omega) ⟨i + 1, v1, by omega, hb4.out, hown2.out, by kernel_rfl, rfl, by kernel_rfl, by kernel_rfl, by kernel_rfl, by kernel_rfl⟩
        · obtain rfl : i = K := by omega
          have g1 : decide ((i : Int) < (i : Int)) = false := by simp
          have hown' := Lib.hid hown
          have hb' := Lib.hid hb
          clear hown hb
          go_wp2
          go_ret
          exact ⟨_, rfl, hown'.out, hb'.out⟩
theorem tail_at (L : Nat → Int) (n : Nat) (s : Nat) (hs : sumN L n = s) : nums .u8 L n ++ [.int .u8 (tailB s 0), .int .u8 (tailB s 1), .int .u8 (tailB s 2), .int .u8 (tailB s 3)] = nums .u8 (putS L n) (n + 4) := by
  have e : nums .u8 L n = nums .u8 (putS L n) n := nums_congr fun i hi => by simp [putS, hi]
  rw [e, show n + 4 = n + 1 + 1 + 1 + 1 from rfl, nums_succ, nums_succ, nums_succ, nums_succ]
  have h0 : putS L n n = tailB s 0 := by simp [putS, hs]
  have h1 : putS L n (n + 1) = tailB s 1 := by rw [putS, if_neg (by omega), hs]; congr 1; omega
  have h2 : putS L n (n + 1 + 1) = tailB s 2 := by rw [putS, if_neg (by omega), hs]; congr 1; omega
  have h3 : putS L n (n + 1 + 1 + 1) = tailB s 3 := by rw [putS, if_neg (by omega), hs]; congr 1; omega
  rw [h0, h1, h2, h3]
  simp
theorem tail_u8 (s : Nat) (hs : s < 4294967296) : IntKind.u8.wrap ((s : Int) / 16777216) = tailB s 0 ∧ IntKind.u8.wrap ((s : Int) / 65536) = tailB s 1 ∧ IntKind.u8.wrap ((s : Int) / 256) = tailB s 2 ∧ IntKind.u8.wrap (s : Int) = tailB s 3 := by
  have e0 : (2 : Nat) ^ (8 * (3 - 0)) = 16777216 := by decide
  have e1 : (2 : Nat) ^ (8 * (3 - 1)) = 65536 := by decide
  have e2 : (2 : Nat) ^ (8 * (3 - 2)) = 256 := by decide
  have e3 : (2 : Nat) ^ (8 * (3 - 3)) = 1 := by decide
  refine ⟨?_, ?_, ?_, ?_⟩ <;> rw [IntKind.wrap_u8, tailB] <;> simp only [e0, e1, e2, e3] <;> omega
set_option maxHeartbeats 1000000 in
/-- Put. -/
theorem sumsPut (w : World) (ap : Option Addr) (K cp : Nat) (PA : Nat → Option Addr) (PN PC : Nat → Nat) (PL : Nat → Nat → Int) (h : Parts w ap K PA PN PC PL) (hK : K ≤ 1000) (hN : catN PN K ≤ 900000) :
    Calls Try.prog 86 #[.slice ap K cp] w fun e w' => ∃ a, e = .returned (.slice a (catN PN K + 4) (catN PN K + 4)) ∧ Mine .u8 5 w.heap.size w' a (catN PN K + 4) (putS (catL PN PL K) (catN PN K)) ∧ Below w.heap.size w w' := by
  obtain ⟨i0, hi0, hz0, hz1, hz2⟩ := info_parts elemHBytes
  have hL := catL_byte (PN := PN) (PL := PL) (k := K) fun i hi => by
    obtain ⟨_, _, _, _, _, _, h4⟩ := h i hi
    exact h4
  replace h := Lib.hid h
  replace hL := Lib.hid hL
  have P1 := Lib.hid (concatB w ap K cp PA PN PC PL h.out hK (by omega))
  generalize catN PN K = n at *
  generalize catL PN PL K = L at *
  clear h hK
  go_enter Try.func86, Try.ntmps86
  go_wp2_with fail
  refine P1.out.mono ?_
  rintro e w1 ⟨v, rfl, hown, hb⟩
  obtain ⟨a1, c1, rfl, hc1, hcm, hnil, hm⟩ := own_mine hown
  have hown' := Lib.hid hown
  have hm' := Lib.hid hm
  have hb' := Lib.hid hb
  have hnl : Hid (NilOk a1 n c1) := ⟨hc1, hcm, hnil⟩
  clear hown hm hb hnil P1
  go_wp2_with fail
  refine calls_abs (fun W => Below w1.heap.size w1 W ∧ W.cell? ⟨w1.heap.size, 0, none⟩ = some (.slice a1 n c1)) ⟨below_alloc _ _, (Blk.new _ _ _).cell rfl⟩ ?_
  rintro w2 ⟨hb2, hcell⟩
  have hP := parts_one hcell (hm'.out.rd.below hb2 (Nat.le_refl _)) hnl.out hL.out
  have P2 := sumsOf w2 _ _ 1 _ _ _ _ hP (by omega) (by rw [catN_one]; omega)
  rw [catN_one, sumN_congr (fun i _ => catL_one n L i)] at P2
  replace P2 := Lib.hid P2
  clear hP hcell
  refine P2.out.mono ?_
  rintro e w3 ⟨rfl, hb3⟩
  have hown3 := Lib.hid (own_below hown'.out (hb2.trans (hb3.mono hb2.size)) (Nat.le_refl _))
  have hb4 := Lib.hid (bthen hb'.out (bthen hb2 hb3))
  have hsn := sumN_lt L n
  have hs0 : Hid (sumN L n = sumN L n) := rfl
  generalize hsn' : sumN L n = s at *
  replace hsn' := Lib.hid hsn'
  obtain ⟨k0, k1, k2, k3⟩ := tail_u8 s hsn
  clear P2 hb3 hb2 hs0 hown' hm' hb'
  go_wp2_with (at_builtin; refine append_src rfl _ _ 22 rfl w.heap.size 5 i0 (.int .u8 0) 1 Try.underlying22 hi0 hz0 hz1 hz2 rfl _ _ _ rfl (hown3.out.alloc _) (some ⟨w3.heap.size, 0, none⟩) 4 4 [.int .u8 (tailB s 0), .int .u8 (tailB s 1), .int .u8 (tailB s 2), .int .u8 (tailB s 3)] rfl (by simp) rfl ?q1 ?q2 (by omega) (by omega) (by have := hb4.out.size; simp; omega) ?q3)
  case q1 =>
    intro ad had j u hj
    simp only [Option.some.injEq] at had
    subst had
    match j, hj with
    | 0, hj => simp at hj; subst hj; simp [Addr.add, go_sem]
    | 1, hj => simp at hj; subst hj; simp [Addr.add, go_sem]
    | 2, hj => simp at hj; subst hj; simp [Addr.add, go_sem]
    | 3, hj => simp at hj; subst hj; simp [Addr.add, go_sem]
  case q2 =>
    intro u hu
    simp at hu
    rcases hu with rfl | rfl | rfl | rfl <;> rfl
  case q3 =>
    intro v4 w4 hown4 hg4 _
    rw [tail_at L n s hsn'.out] at hown4
    have hb5 := (hb4.out.alloc hb4.out.size _).trans (Below.grown (Below.refl _ _) hg4 (by have := hb4.out.size; simp; omega) (fun k hk => (hown3.out.lt k hk).1))
    obtain ⟨a4, c4, rfl, hc4, hcm4, hnil4, hm4⟩ := own_mine hown4
    have hm4' := Lib.hid hm4
    clear hown4 hg4 hm4
    go_wp2_with fail
    refine (clipB _ _ _ _ hc4 hcm4).mono ?_
    rintro e _ ⟨rfl, rfl⟩
    go_wp2
    go_ret
    exact ⟨_, rfl, hm4'.out, hb5⟩
end Go.Proofs.Ytmdohnbhogfopaa
/- Sums: Check. -/
namespace Go.Proofs.Ytmdohnbhogfopaa
open Go.RowKit
set_option linter.unusedSimpArgs false
set_option linter.unusedVariables false
set_option maxRecDepth 100000
/-- Whether n bytes L are summed, and how many there are ahead of the sum. -/
def okS (L : Nat → Int) (n : Nat) : Bool := decide (4 ≤ n) && alikeB (putS L (n - 4)) L n
def cntS (L : Nat → Int) (n : Nat) : Nat := if okS L n then n - 4 else 0
theorem putS_congr {L L' : Nat → Int} {n : Nat} (h : ∀ i, i < n → L i = L' i) (i : Nat) : putS L n i = putS L' n i := by
  unfold putS
  split
  · exact h i (by assumption)
  · rw [sumN_congr h]
set_option maxHeartbeats 1000000 in
theorem sumsCheck (w : World) (ao : Option Addr) (n c : Nat) (L : Nat → Int) (ha : Rd .u8 w ao n L) (hnil : NilOk ao n c) (hL : ∀ i, i < n → 0 ≤ L i ∧ L i < 256) (hn : n ≤ 900000) :
    Calls Try.prog 97 #[.slice ao n c] w fun e w' => ∃ a, e = .returned (.tuple #[.slice a (cntS L n) (cntS L n), .bool (okS L n)]) ∧ Mine .u8 5 w.heap.size w' a (cntS L n) L ∧ Below w.heap.size w w' := by
  replace ha := Lib.hid ha
  replace hL := Lib.hid hL
  by_cases h4 : 4 ≤ n
  · have g1 : decide ((n : Int) < 4) = false := by simp; omega
    obtain ⟨m, rfl⟩ : ∃ m, n = m + 4 := ⟨n - 4, by omega⟩
    have u1 : IntKind.i64.wrap (((m + 4 : Nat) : Int) - 4) = (m : Int) := by rw [wrap_i64_small _ (by omega) (by omega)]; omega
    have hmc : m ≤ c := by have := hnil.1; omega
    have hmm : (m : Int) ≤ (c : Int) := by omega
    have hcx := hnil.2.1
    have hm9 : m ≤ 900000 := by omega
    have hn0 : ao = none → m = 0 ∧ c = 0 := fun e => by have := hnil.2.2 e; omega
    have hn0' := Lib.hid hn0
    have hok : Hid (okS L (m + 4) = alikeB (putS L m) L (m + 4)) := by show okS L (m + 4) = _; simp [okS]
    have hcn : Hid (cntS L (m + 4) = if alikeB (putS L m) L (m + 4) then m else 0) := by show cntS L (m + 4) = _; rw [cntS, hok.out]; simp
    have ham := Lib.hid (show Rd .u8 w ao m L from fun i hi => ha.out i (by omega))
    clear hnil hn0
    rw [hok.out, hcn.out]
    generalize hK4 : m + 4 = n4 at *
    replace hK4 := Lib.hid hK4
    go_enter Try.func97, Try.ntmps97
    go_wp2_with fail
    refine (cloneB w ao m c L ham.out hn0'.out (by omega)).mono ?_
    rintro e w1 ⟨v, rfl, hown, hb⟩
    obtain ⟨a1, c1, rfl, hc1, hcm, hnil, hm⟩ := own_mine hown
    have hm' := Lib.hid hm
    have hb' := Lib.hid hb
    clear hown hm hb
    go_wp2_with fail
    refine (clipB _ _ _ _ hc1 hcm).mono ?_
    rintro e _ ⟨rfl, rfl⟩
    go_wp2_with fail
    refine calls_abs (fun W => Below w1.heap.size w1 W ∧ W.cell? ⟨w1.heap.size, 0, none⟩ = some (.slice a1 m m)) ⟨below_alloc _ _, (Blk.new _ _ _).cell rfl⟩ ?_
    rintro w2 ⟨hb2, hcell⟩
    have hP := parts_one hcell (hm'.out.rd.below hb2 (Nat.le_refl _)) ⟨Nat.le_refl _, by omega, hm'.out.none⟩ (fun i hi => hL.out i (by have := hK4.out; omega))
    have P2 := sumsPut w2 _ _ 1 _ _ _ _ hP (by omega) (by rw [catN_one]; omega)
    rw [catN_one] at P2
    refine P2.mono ?_
    clear P2 hP hcell
    rintro e w3 ⟨a3, rfl, hm3, hb3⟩
    have hm3' := Lib.hid (hm3.congr (L' := putS L m) fun i _ => putS_congr (fun i _ => catL_one m L i) i)
    have hb4 := Lib.hid (hb2.trans (hb3.mono hb2.size))
    have hbA := Lib.hid (bthen hb'.out hb4.out)
    clear hm3 hb3 hb2
    have e4 := hK4.out
    rw [e4]
    go_wp2_with fail
    refine (equalBytes w3 a3 ao n4 n4 n4 c (putS L m) L (e4 ▸ hm3'.out.rd) (ha.out.below hbA.out (Nat.le_refl _)) (by omega)).mono ?_
    rintro e w4 ⟨rfl, q4, rfl⟩
    have hnn : (decide (n4 = n4) && alikeB (putS L m) L n4) = alikeB (putS L m) L n4 := by simp
    rw [hnn]
    have hm5 := Lib.hid ((hm'.out.below hb4.out (Nat.le_refl _)).below (bdrewN (Below.refl _ w3) q4) (Nat.le_refl _))
    have hb5 := Lib.hid (bdrewN hbA.out q4)
    generalize w3.drewN q4 = w5 at *
    cases hb : alikeB (putS L m) L n4 with
    | true =>
      go_wp2
      refine bodyPost_ret (v := .tuple #[.slice a1 m m, .bool true]) (by simp [results, Try.results97, go_sem]) rfl ⟨a1, rfl, hm5.out, hb5.out⟩
    | false =>
      go_wp2
      all_goals refine bodyPost_ret (v := .tuple #[.slice none 0 0, .bool false]) (by simp [results, Try.results97, go_sem]) rfl ⟨none, rfl, Mine.nil _ _ _ _ _ _, hb5.out⟩
  · have g1 : decide ((n : Int) < 4) = true := by simp; omega
    have hok : okS L n = false := by simp [okS, h4]
    have hcn : cntS L n = 0 := by simp [cntS, hok]
    rw [hok, hcn]
    clear h4 hnil hok hcn
    go_enter Try.func97, Try.ntmps97
    go_wp2
    refine bodyPost_ret (v := .tuple #[.slice none 0 0, .bool false]) (by simp [results, Try.results97, go_sem]) rfl ⟨none, rfl, Mine.nil _ _ _ _ _ _, Below.refl _ _⟩
end Go.Proofs.Ytmdohnbhogfopaa
