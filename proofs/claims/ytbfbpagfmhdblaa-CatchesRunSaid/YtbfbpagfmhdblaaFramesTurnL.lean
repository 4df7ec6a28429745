/- FramesTurned: the plain law. -/
import Derived.Test.YtbfbpagfmhdblaaFramesBackL
import Derived.Test.YtbfbpagfmhdblaaBurst02
namespace Go.Proofs.Ytbfbpagfmhdblaa
open Go.RowKit
set_option linter.unusedSimpArgs false
set_option linter.unusedVariables false
set_option maxRecDepth 100000
/-- k bits read backwards. -/
def revN (z : Nat) : Nat → Nat
  | 0 => 0
  | k + 1 => 2 * revN z k + (z.testBit k).toNat
theorem revN_lt (z : Nat) : ∀ k, revN z k < 2 ^ k
  | 0 => by simp [revN]
  | k + 1 => by
    have := revN_lt z k
    have hb : (z.testBit k).toNat ≤ 1 := by cases z.testBit k <;> simp
    rw [revN, Nat.pow_succ]
    omega
theorem revN_bit (z : Nat) : ∀ k j, j < k → (revN z k).testBit (k - 1 - j) = z.testBit j
  | 0, j, h => by omega
  | k + 1, j, h => by
    have hb : (z.testBit k).toNat ≤ 1 := by cases z.testBit k <;> simp
    rcases Nat.lt_or_ge j k with h1 | h1
    · obtain ⟨e, he⟩ : ∃ e, k + 1 - 1 - j = e + 1 := ⟨k - 1 - j, by omega⟩
      have hk := revN_bit z k j h1
      have : (2 * revN z k + (z.testBit k).toNat) / 2 = revN z k := by omega
      rw [he, revN, Nat.testBit_succ, this, show e = k - 1 - j by omega, hk]
    · obtain rfl : j = k := by omega
      rw [show j + 1 - 1 - j = 0 by omega, revN, Nat.testBit_zero]
      cases z.testBit j <;> simp <;> omega
theorem revN_pos {z : Nat} (h : 0 < z) (hz : z < 4294967296) : 0 < revN z 32 := by
  rcases Nat.eq_zero_or_pos (revN z 32) with h0 | h0
  · exfalso
    have : z = 0 := by
      apply Nat.eq_of_testBit_eq
      intro j
      rw [Nat.zero_testBit]
      rcases Nat.lt_or_ge j 32 with h1 | h1
      · rw [← revN_bit z 32 j h1, h0, Nat.zero_testBit]
      · exact Nat.testBit_lt_two_pow (Nat.lt_of_lt_of_le hz (Nat.pow_le_pow_right (n := 2) (by decide) h1))
    omega
  · exact h0
/-- The places that are turned. -/
def errT (first z i p : Nat) : Bool := decide (first ≤ p) && (decide (p < first + i) && z.testBit (p - first))
theorem errT_rev {first z p : Nat} : errB first (revN z 32) 32 p = errT first z 32 p := by
  unfold errB errT
  by_cases h1 : first ≤ p
  · by_cases h2 : p < first + 32
    · have := revN_bit z 32 (p - first) (by omega)
      rw [show 32 - 1 - (p - first) = 31 - (p - first) by omega] at this
      rw [this]
    · simp [h2]
  · simp [h1]
theorem errT_more {first z i p : Nat} : errT first z (i + 1) p = (errT first z i p || (decide (p = first + i) && z.testBit i)) := by
  unfold errT
  by_cases h1 : p = first + i
  · subst h1
    simp
  · by_cases h2 : p < first + i
    · simp [h1, h2, show p < first + (i + 1) by omega]
    · have h3 : ¬ p < first + (i + 1) := by omega
      simp [h1, h2, h3]
theorem cntL_congr {A B : Nat → Int} {p : Nat} : ∀ {k : Nat}, (∀ j, j < k → A j = B j) → cntL A p k = cntL B p k
  | 0, _ => rfl
  | k + 1, h => by simp only [cntL]; rw [cntL_congr (k := k) fun j hj => h j (by omega), h k (by omega)]
theorem numL_bit {G : Nat → Int} : ∀ n, wholeL G n = true → ∀ i, i < n → (((numL G n).toNat / 2 ^ (n - 1 - i) % 2 : Nat) : Int) = G i - 1
  | 0, _, i, hi => by omega
  | n + 1, h, i, hi => by
    have hn : wholeL G n = true := wholeL_iff.2 fun j hj => wholeL_iff.1 h j (by omega)
    have hg := wholeL_iff.1 h n (by omega)
    have hb := numL_bd hn
    have e1 : (numL G (n + 1)).toNat = 2 * (numL G n).toNat + (G n - 1).toNat := by simp only [numL]; omega
    rcases Nat.lt_or_ge i n with h1 | h1
    · obtain ⟨e, he⟩ : ∃ e, n + 1 - 1 - i = e + 1 := ⟨n - 1 - i, by omega⟩
      have ih := numL_bit n hn i h1
      rw [he, e1, Nat.pow_succ, Nat.mul_comm (2 ^ e) 2, ← Nat.div_div_eq_div_mul, show (2 * (numL G n).toNat + (G n - 1).toNat) / 2 = (numL G n).toNat by omega, show e = n - 1 - i by omega]
      exact ih
    · obtain rfl : i = n := by omega
      rw [show i + 1 - 1 - i = 0 by omega, e1, Nat.pow_zero, Nat.div_one]
      omega
theorem bitU_bytes {L : Nat → Int} {q p : Nat} (h : wholeL L (8 * q) = true) (hp : p < 8 * q) : bitU (bytesL L) p = decide (L p = 2) := by
  have hw : wholeL (fun j => L (8 * (p / 8) + j)) 8 = true := wholeL_iff.2 fun j hj => wholeL_iff.1 h _ (by omega)
  have h1 := numL_bit 8 hw (p % 8) (Nat.mod_lt _ (by decide))
  rw [show 8 * (p / 8) + p % 8 = p by omega] at h1
  unfold bitU bytesL
  rw [Nat.testBit_eq_decide_div_mod_eq, decide_eq_decide]
  have := wholeL_iff.1 h p hp
  rw [show 8 - 1 - p % 8 = 7 - p % 8 by omega] at h1
  omega
/-- What is read of a frame's symbols, turned at m places. -/
theorem turned_read {o k st sq v : Int} {A : Nat → Int} {m first z : Nat} (hm : mayB o k = true) (hst : 0 ≤ st ∧ st < 256) (hsq : 0 ≤ sq ∧ sq < 4294967296) (hv : 0 ≤ v ∧ v < 4294967296) (hf : first ≤ 80) (hz : z < 4294967296)
    (hc : ∀ p, cntL A p m = if errT first z 32 p then 1 else 0) :
    readT (turnL (frSL o k st sq v true false) A m) 114 = tailV true false ∧ (0 < z → readE (turnL (frSL o k st sq v true false) A m) 114 = 5 ∧ readV (turnL (frSL o k st sq v true false) A m) 114 = frV 0 0 0 0 0) := by
  have hSw : ∀ p, p < 114 → frSL o k st sq v true false p = 1 ∨ frSL o k st sq v true false p = 2 := fun i hi => by
    rw [frSL, appL]
    split
    · unfold ofL bitN; omega
    · obtain rfl | rfl : i = 112 ∨ i = 113 := by omega
      · simp [tailSL, at2, symI]
      · simp [tailSL, at2, symI]
  have hT : ∀ p, p < 114 → turnL (frSL o k st sq v true false) A m p = if errT first z 32 p then 3 - frSL o k st sq v true false p else frSL o k st sq v true false p := fun p hp => by
    have h1 := hSw p hp
    unfold turnL
    rw [hc p]
    cases errT first z 32 p <;> simp [h1]
  have hw : wholeL (turnL (frSL o k st sq v true false) A m) 114 = true := wholeL_iff.2 fun i hi => (turnL_whole _ _ _ _).2 (hSw i hi)
  have hr : readOk (turnL (frSL o k st sq v true false) A m) 114 = true := by simp [readOk, hw]
  have hq : ∀ p, 112 ≤ p → errT first z 32 p = false := fun p hp => by
    have : ¬ p < first + 32 := by omega
    simp [errT, this]
  have t0 : turnL (frSL o k st sq v true false) A m 112 = 2 := by
    rw [hT 112 (by omega), hq 112 (by omega)]
    simp only [Bool.false_eq_true, if_false]
    rw [frSL, appL, if_neg (by omega)]; rfl
  have t1 : turnL (frSL o k st sq v true false) A m 113 = 1 := by
    rw [hT 113 (by omega), hq 113 (by omega)]
    simp only [Bool.false_eq_true, if_false]
    rw [frSL, appL, if_neg (by omega)]; rfl
  refine ⟨by rw [readT, if_pos hr, t0, t1]; rfl, fun hz0 => ?_⟩
  have hw2 : wholeL (turnL (frSL o k st sq v true false) A m) (8 * 14) = true := wholeL_iff.2 fun i hi => wholeL_iff.1 hw i (by omega)
  have hok : okS (bytesL (turnL (frSL o k st sq v true false) A m)) 14 = false := by
    refine burst (n := 10) (S := frL o k st sq v) (first := first) (bits := revN z 32) (fun i _ => putS_put _ 10 i) (by omega) (revN_pos hz0 hz) (revN_lt z 32) fun p hp => ?_
    have hb := frL_byte (sq := sq) (v := v) hm hst (p / 8) (by omega)
    have hS : frSL o k st sq v true false p = ofL (frL o k st sq v) p := by rw [frSL, appL, if_pos (by omega)]
    have hF : bitU (frL o k st sq v) p = decide (frSL o k st sq v true false p = 2) := by
      rw [hS]
      unfold bitU ofL bitN
      rw [Nat.testBit_eq_decide_div_mod_eq, decide_eq_decide]
      omega
    rw [bitU_bytes hw2 hp, hT p (by omega), errT_rev, hF]
    have h1 := hSw p (by omega)
    cases errT first z 32 p with
    | false => simp
    | true =>
      rcases h1 with h1 | h1 <;> simp [h1]
  have hE : getE (bytesL (turnL (frSL o k st sq v true false) A m)) 14 = 5 := by simp [getE, hok]
  exact ⟨by rw [readE, if_pos hr, hE], by rw [readV, if_pos hr, getV, hE]; rfl⟩
end Go.Proofs.Ytbfbpagfmhdblaa
