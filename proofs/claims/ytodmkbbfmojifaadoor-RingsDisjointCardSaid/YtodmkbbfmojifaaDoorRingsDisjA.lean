/- RingsDisjoint: the plain law. -/
import Derived.Test.YtodmkbbfmojifaaDoorRingsPlacesW
namespace Go.Proofs.YtodmkbbfmojifaaDoor
set_option linter.unusedSimpArgs false
set_option linter.unusedVariables false
/-- How far back from b node i lies, along d. -/
def backE (m d a b h : Int) (i : Nat) : Int := h + 2 * ((pathN m d a b h - 1 - i : Nat) : Int)
theorem pathN_eq {m d a b h : Int} (hok : pathOk m d a b h = true) : pathN m d a b h = ((distI m d a b - h + 1) / 2).toNat := by rw [pathN, if_pos hok]
theorem pathOk_iff {m d a b h : Int} (hh : h = 1 ∨ h = 2) : pathOk m d a b h = true ↔ 0 < distI m d a b ∧ h ≤ distI m d a b := by
  simp [pathOk, okH]
  omega
theorem backE_in {m d a b h : Int} {i : Nat} (hh : h = 1 ∨ h = 2) (hi : i < pathN m d a b h) : pathOk m d a b h = true ∧ 1 ≤ backE m d a b h i ∧ backE m d a b h i ≤ distI m d a b - 1 ∧ backE m d a b h i % 2 = h % 2 := by
  have hok : pathOk m d a b h = true := by
    cases h2 : pathOk m d a b h with
    | true => rfl
    | false => simp [pathN, h2] at hi
  have hp := (pathOk_iff hh).1 hok
  have hN := pathN_eq hok
  refine ⟨hok, ?_, ?_, ?_⟩ <;> unfold backE <;> omega
theorem node_at {m d a b h : Int} {i : Nat} : pathL m d a b h i = (b - sgn d * backE m d a b h i) % m := by
  unfold pathL fwdL backE
  congr 1
  rw [Int.mul_neg, Int.sub_eq_add_neg]
theorem dist_both {m a b : Int} (h : 4 ≤ m ∧ m ≤ 16) (ha : 0 ≤ a ∧ a < m) (hb : 0 ≤ b ∧ b < m) (hab : a ≠ b) : 1 ≤ distI m 0 a b ∧ 1 ≤ distI m 1 a b ∧ distI m 0 a b + distI m 1 a b = m ∧ a = (b - distI m 0 a b) % m := by
  rw [dist_ok (d := 0) h (by decide) ha hb, dist_ok (d := 1) h (by decide) ha hb]
  simp only [sgn]
  rcases sizes h.1 h.2 with rfl | rfl | rfl | rfl | rfl | rfl | rfl | rfl | rfl | rfl | rfl | rfl | rfl <;> simp <;> omega
theorem node_differs {m b e e' : Int} (h : 4 ≤ m ∧ m ≤ 16) (he : 0 ≤ e ∧ e < m) (he' : 0 ≤ e' ∧ e' < m) (hne : e ≠ e') : (b - e) % m ≠ (b - e') % m := by
  rcases sizes h.1 h.2 with rfl | rfl | rfl | rfl | rfl | rfl | rfl | rfl | rfl | rfl | rfl | rfl | rfl <;> omega
/-- How far back from b, along 0. -/
def wayE (m d a b h : Int) (i : Nat) : Int := if d = 0 then backE m d a b h i else m - backE m d a b h i
theorem node_way {m d a b h : Int} {i : Nat} (hd : d = 0 ∨ d = 1) : pathL m d a b h i = (b - wayE m d a b h i) % m := by
  rw [node_at]
  rcases hd with rfl | rfl
  · simp [wayE, sgn]
  · have e : b - wayE m 1 a b h i = b - sgn 1 * backE m 1 a b h i - m := by simp [wayE, sgn]; omega
    rw [e, Int.sub_emod_right]
theorem way_in {m d a b h : Int} {i : Nat} (hm : 4 ≤ m ∧ m ≤ 16) (ha : 0 ≤ a ∧ a < m) (hb : 0 ≤ b ∧ b < m) (hab : a ≠ b) (hd : d = 0 ∨ d = 1) (hh : h = 1 ∨ h = 2) (hi : i < pathN m d a b h) :
    0 < wayE m d a b h i ∧ wayE m d a b h i < m ∧ wayE m d a b h i ≠ distI m 0 a b ∧ (wayE m d a b h i < distI m 0 a b ↔ d = 0) := by
  have hB := backE_in hh hi
  have hD := dist_both hm ha hb hab
  rcases hd with rfl | rfl
  · simp only [wayE, if_true]
    refine ⟨?_, ?_, ?_, ?_⟩ <;> first | omega | (constructor <;> intros <;> first | trivial | rfl | omega)
  · have e : wayE m 1 a b h i = m - backE m 1 a b h i := by simp [wayE]
    rw [e]
    refine ⟨?_, ?_, ?_, ?_⟩ <;> first | omega | (constructor <;> intros <;> omega)
/-- Nodes of paths are neither end. -/
theorem node_free {m d a b h : Int} {i : Nat} (hm : 4 ≤ m ∧ m ≤ 16) (ha : 0 ≤ a ∧ a < m) (hb : 0 ≤ b ∧ b < m) (hab : a ≠ b) (hd : d = 0 ∨ d = 1) (hh : h = 1 ∨ h = 2) (hi : i < pathN m d a b h) :
    0 ≤ pathL m d a b h i ∧ pathL m d a b h i < m ∧ pathL m d a b h i ≠ a ∧ pathL m d a b h i ≠ b := by
  have hw := way_in hm ha hb hab hd hh hi
  have hD := dist_both hm ha hb hab
  rw [node_way hd]
  have hE := emod_in (x := b - wayE m d a b h i) hm.1
  refine ⟨hE.1, hE.2, ?_, ?_⟩
  · conv => rhs; rw [hD.2.2.2]
    exact node_differs hm (by omega) (by omega) hw.2.2.1
  · have e : b = (b - 0) % m := by rw [Int.sub_zero, Int.emod_eq_of_lt hb.1 hb.2]
    conv => rhs; rw [e]
    exact node_differs hm (by omega) (by omega) (by omega)
/-- No node is on two paths, nor twice on one. -/
theorem node_once {m d a b h d' h' : Int} {i i' : Nat} (hm : 4 ≤ m ∧ m ≤ 16) (ha : 0 ≤ a ∧ a < m) (hb : 0 ≤ b ∧ b < m) (hab : a ≠ b) (hd : d = 0 ∨ d = 1) (hh : h = 1 ∨ h = 2) (hi : i < pathN m d a b h)
    (hd' : d' = 0 ∨ d' = 1) (hh' : h' = 1 ∨ h' = 2) (hi' : i' < pathN m d' a b h') (hne : ¬(d = d' ∧ h = h' ∧ i = i')) : pathL m d a b h i ≠ pathL m d' a b h' i' := by
  have hw := way_in hm ha hb hab hd hh hi
  have hw' := way_in hm ha hb hab hd' hh' hi'
  have hB := backE_in hh hi
  have hB' := backE_in hh' hi'
  rw [node_way hd, node_way hd']
  refine node_differs hm (by omega) (by omega) fun e => ?_
  have hdd : d = d' := by
    rcases hd with rfl | rfl <;> rcases hd' with rfl | rfl <;> first | rfl | (exfalso; omega)
  subst hdd
  have hbe : backE m d a b h i = backE m d a b h' i' := by
    unfold wayE at e
    split at e <;> omega
  have hhh : h = h' := by omega
  subst hhh
  refine hne ⟨rfl, rfl, ?_⟩
  unfold backE at hbe
  omega
end Go.Proofs.YtodmkbbfmojifaaDoor
