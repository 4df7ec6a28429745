/- RingsDisjoint: the plain law, the steps. -/
import Derived.Test.YtodmkbbfmojifaaDoorRingsDisjA
namespace Go.Proofs.YtodmkbbfmojifaaDoor
set_option linter.unusedSimpArgs false
set_option linter.unusedVariables false
theorem step_back {m d b e e' : Int} (h : 4 ≤ m ∧ m ≤ 16) (hd : d = 0 ∨ d = 1) (he : 0 ≤ e' ∧ e' ≤ e ∧ e < m) : distI m d ((b - sgn d * e) % m) ((b - sgn d * e') % m) = e - e' := by
  rw [dist_ok h (by omega) (emod_in h.1) (emod_in h.1)]
  rcases sizes h.1 h.2 with rfl | rfl | rfl | rfl | rfl | rfl | rfl | rfl | rfl | rfl | rfl | rfl | rfl <;> rcases hd with rfl | rfl <;> simp only [sgn] <;> simp <;> omega
theorem dist_in {m d a b : Int} (h : 4 ≤ m ∧ m ≤ 16) (hd : d = 0 ∨ d = 1) (ha : 0 ≤ a ∧ a < m) (hb : 0 ≤ b ∧ b < m) (hab : a ≠ b) : 1 ≤ distI m d a b ∧ distI m d a b < m ∧ a = (b - sgn d * distI m d a b) % m := by
  rw [dist_ok h (by omega) ha hb]
  rcases sizes h.1 h.2 with rfl | rfl | rfl | rfl | rfl | rfl | rfl | rfl | rfl | rfl | rfl | rfl | rfl <;> rcases hd with rfl | rfl <;> simp only [sgn] <;> simp <;> omega
/-- Where the way stands ahead of node i: at the one end, or at the node before. -/
def stand (m d a b h : Int) (i : Nat) : Int := if i = 0 then a else pathL m d a b h (i - 1)
theorem step_first {m d a b h : Int} {i : Nat} (hm : 4 ≤ m ∧ m ≤ 16) (hd : d = 0 ∨ d = 1) (ha : 0 ≤ a ∧ a < m) (hb : 0 ≤ b ∧ b < m) (hab : a ≠ b) (hh : h = 1 ∨ h = 2) (hi : i < pathN m d a b h) :
    (distI m d (stand m d a b h i) (pathL m d a b h i) = 1 ∨ distI m d (stand m d a b h i) (pathL m d a b h i) = 2) ∧ (0 < i → distI m d (stand m d a b h i) (pathL m d a b h i) = 2) := by
  have hD := dist_in hm hd ha hb hab
  have hB := backE_in hh hi
  have hN := pathN_eq hB.1
  by_cases h0 : i = 0
  · subst h0
    have e : distI m d (stand m d a b h 0) (pathL m d a b h 0) = distI m d a b - backE m d a b h 0 := by
      have e1 : stand m d a b h 0 = (b - sgn d * distI m d a b) % m := by simpa [stand] using hD.2.2
      rw [e1, node_at, step_back hm hd (by omega)]
    rw [e]
    unfold backE at hB ⊢
    exact ⟨by omega, by omega⟩
  · have hB1 := backE_in hh (show i - 1 < pathN m d a b h by omega)
    have e : distI m d (stand m d a b h i) (pathL m d a b h i) = backE m d a b h (i - 1) - backE m d a b h i := by
      have e1 : stand m d a b h i = pathL m d a b h (i - 1) := by simp [stand, h0]
      have hle : backE m d a b h i ≤ backE m d a b h (i - 1) := by unfold backE; omega
      rw [e1, node_at, node_at, step_back hm hd (by omega)]
    rw [e]
    have e2 : backE m d a b h (i - 1) - backE m d a b h i = 2 := by unfold backE; omega
    rw [e2]
    exact ⟨.inr rfl, fun _ => rfl⟩
/-- Where the way stands behind its last node, the last hop goes from. -/
theorem step_last {m d a b h : Int} (hm : 4 ≤ m ∧ m ≤ 16) (hd : d = 0 ∨ d = 1) (ha : 0 ≤ a ∧ a < m) (hb : 0 ≤ b ∧ b < m) (hab : a ≠ b) (hh : h = 1 ∨ h = 2) (hok : pathOk m d a b h = true) :
    srcI m d b h = stand m d a b h (pathN m d a b h) := by
  have hD := dist_in hm hd ha hb hab
  have hN := pathN_eq hok
  have hp := (pathOk_iff hh).1 hok
  have e : srcI m d b h = (b + sgn d * -h) % m := srcI_val (by simp [okR_ok hm (show d ≤ 1 by omega), inR_ok hb, okH]; omega)
  rw [e]
  by_cases h0 : pathN m d a b h = 0
  · have e1 : stand m d a b h (pathN m d a b h) = a := by simp [stand, h0]
    have e2 : distI m d a b = h := by omega
    rw [e1]
    conv => rhs; rw [hD.2.2, e2]
    rw [Int.mul_neg, Int.sub_eq_add_neg]
  · have e1 : stand m d a b h (pathN m d a b h) = pathL m d a b h (pathN m d a b h - 1) := by simp [stand, h0]
    rw [e1, node_at]
    have e2 : backE m d a b h (pathN m d a b h - 1) = h := by unfold backE; omega
    rw [e2, Int.mul_neg, Int.sub_eq_add_neg]
end Go.Proofs.YtodmkbbfmojifaaDoor
