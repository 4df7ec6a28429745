/- Lists of lists of bytes: what they read as, one behind the other. -/
import Derived.Test.YtbfbpagfmhdblaaJoin
namespace Go.Proofs.Ytbfbpagfmhdblaa
open Go.RowKit
set_option linter.unusedVariables false
def Parts (w : World) (ap : Option Addr) (K : Nat) (PA : Nat → Option Addr) (PN PC : Nat → Nat) (PL : Nat → Nat → Int) : Prop :=
  ∀ i, i < K → ∃ b o, ap = some ⟨b, o, none⟩ ∧ w.cell? ⟨b, o + i, none⟩ = some (.slice (PA i) (PN i) (PC i)) ∧ Rd .u8 w (PA i) (PN i) (PL i) ∧ NilOk (PA i) (PN i) (PC i) ∧ ∀ j, j < PN i → 0 ≤ PL i j ∧ PL i j < 256
theorem Parts.below {w w' : World} {ap : Option Addr} {K : Nat} {PA : Nat → Option Addr} {PN PC : Nat → Nat} {PL : Nat → Nat → Int} {B : Nat} (h : Parts w ap K PA PN PC PL) (hb : Below B w w') (hB : w.heap.size ≤ B) : Parts w' ap K PA PN PC PL := fun i hi => by
  obtain ⟨b, o, h1, h2, h3, h4⟩ := h i hi
  exact ⟨b, o, h1, below_cell h2 hb (Nat.lt_of_lt_of_le (World.block_lt_of_cell? w _ h2) hB), h3.below hb hB, h4⟩
def catN (PN : Nat → Nat) : Nat → Nat
  | 0 => 0
  | k + 1 => catN PN k + PN k
def catL (PN : Nat → Nat) (PL : Nat → Nat → Int) : Nat → Nat → Int
  | 0 => fun _ => 0
  | k + 1 => appL (catL PN PL k) (catN PN k) (PL k)
theorem catN_mono {PN : Nat → Nat} {i : Nat} : ∀ {k : Nat}, i ≤ k → catN PN i ≤ catN PN k
  | 0, h => by simp at h; subst h; exact Nat.le_refl _
  | k + 1, h => by
    rcases Nat.lt_or_ge i (k + 1) with h1 | h1
    · exact Nat.le_trans (catN_mono (k := k) (by omega)) (Nat.le_add_right _ _)
    · obtain rfl : i = k + 1 := by omega
      exact Nat.le_refl _
theorem catL_at {PN : Nat → Nat} {PL : Nat → Nat → Int} {i j : Nat} (hj : j < PN i) : ∀ {k : Nat}, i < k → catL PN PL k (catN PN i + j) = PL i j
  | 0, h => by omega
  | k + 1, h => by
    rcases Nat.lt_or_ge i k with h1 | h1
    · have h2 := catN_mono (PN := PN) (show i + 1 ≤ k by omega)
      simp only [catN] at h2
      rw [catL, appL, if_pos (by omega)]
      exact catL_at hj h1
    · obtain rfl : i = k := by omega
      rw [catL, appL, if_neg (by omega)]
      congr 1
      omega
theorem catL_byte {PN : Nat → Nat} {PL : Nat → Nat → Int} {k : Nat} (h : ∀ i, i < k → ∀ j, j < PN i → 0 ≤ PL i j ∧ PL i j < 256) : ∀ x, x < catN PN k → 0 ≤ catL PN PL k x ∧ catL PN PL k x < 256 := by
  induction k with
  | zero => intro x hx; simp [catN] at hx
  | succ k ih =>
    intro x hx
    simp only [catN] at hx
    rw [catL, appL]
    split
    · exact ih (fun i hi => h i (by omega)) x (by assumption)
    · exact h k (by omega) _ (by omega)
/-- One part alone. -/
theorem parts_one {w : World} {b o : Nat} {pa : Option Addr} {n c : Nat} {L : Nat → Int} (hc : w.cell? ⟨b, o, none⟩ = some (.slice pa n c)) (hr : Rd .u8 w pa n L) (hn : NilOk pa n c) (hL : ∀ j, j < n → 0 ≤ L j ∧ L j < 256) :
    Parts w (some ⟨b, o, none⟩) 1 (fun _ => pa) (fun _ => n) (fun _ => c) (fun _ => L) := fun i hi => by
  obtain rfl : i = 0 := by omega
  exact ⟨b, o, rfl, hc, hr, hn, hL⟩
theorem catL_one (n : Nat) (L : Nat → Int) (x : Nat) : catL (fun _ => n) (fun _ => L) 1 x = L x := by simp [catL, appL, catN]
theorem catN_one (n : Nat) : catN (fun _ => n) 1 = n := by simp [catN]
/-- A list of the call's own is one of these, too. -/
theorem NilOk.own {a : Option Addr} {n c : Nat} (h1 : n ≤ c) (h2 : c ≤ 9223372036854775807) (h3 : a = none → n = 0 ∧ c = 0) : NilOk a n c := ⟨h1, h2, h3⟩
end Go.Proofs.Ytbfbpagfmhdblaa
