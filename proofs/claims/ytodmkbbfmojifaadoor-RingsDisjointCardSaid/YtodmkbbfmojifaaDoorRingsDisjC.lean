/- RingsDisjoint: the count, and the words of the walk. -/
import Derived.Test.YtodmkbbfmojifaaDoorRingsDisjB
import Derived.Test.YtodmkbbfmojifaaDoorSlots2
namespace Go.Proofs.YtodmkbbfmojifaaDoor
open Go.RowKit
set_option linter.unusedSimpArgs false
set_option linter.unusedVariables false
def hasP (m a b : Int) (d q : Nat) : Int := if pathOk m d a b (q + 1) then 1 else 0
def cntD (m a b : Int) : Nat → Int
  | 0 => 0
  | d + 1 => cntD m a b d + hasP m a b d 0 + hasP m a b d 1
theorem many_all {m a b : Int} (hm : 4 ≤ m ∧ m ≤ 16) (ha : 0 ≤ a ∧ a < m) (hb : 0 ≤ b ∧ b < m) (hab : a ≠ b) :
    cntD m a b 2 = if distI m 0 a b = 1 ∨ distI m 1 a b = 1 then 3 else 4 := by
  have hD := dist_both hm ha hb hab
  have h1 : ∀ d : Nat, d < 2 → hasP m a b d 0 = 1 := fun d hd => by
    unfold hasP
    rw [if_pos]
    refine (pathOk_iff (.inl rfl)).2 ?_
    rcases show d = 0 ∨ d = 1 by omega with rfl | rfl <;> simp <;> omega
  have h2 : ∀ d : Nat, hasP m a b d 1 = if 2 ≤ distI m d a b then 1 else 0 := fun d => by
    unfold hasP
    congr 1
    have := pathOk_iff (m := m) (d := d) (a := a) (b := b) (h := 2) (.inr rfl)
    simp only [eq_iff_iff]
    constructor
    · intro h; exact (this.1 h).2
    · intro h; exact this.2 ⟨by omega, h⟩
  simp only [cntD, h1 0 (by decide), h1 1 (by decide), h2]
  simp
  split <;> split <;> split <;> omega
end Go.Proofs.YtodmkbbfmojifaaDoor
