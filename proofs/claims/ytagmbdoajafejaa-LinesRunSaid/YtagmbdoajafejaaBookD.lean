/- The book as a list of lists; what Apart wants, out of that. -/
import Derived.Test.YtagmbdoajafejaaBookC
import Derived.Test.YtagmbdoajafejaaApp
namespace Go.Proofs.Ytagmbdoajafejaa
open Go.RowKit
set_option linter.unusedSimpArgs false
set_option linter.unusedVariables false
/-- A list in a book: where it begins, and how long it is. -/
abbrev Item := Option Addr × Nat
def vals (l : List Item) : List Value := l.map fun x => .slice x.1 x.2 x.2
def itG (l : List Item) (i : Nat) : Nat := match l[i]? with
  | some (some a, _) => a.block
  | _ => 0
def itM (l : List Item) (i : Nat) : Nat := match l[i]? with
  | some (_, m) => m
  | none => 0
/-- A book whose lists are these; its own rows lie from block B on. -/
structure BookL (B : Nat) (w : World) (bK : Nat) (vb vn vs : Value) (lb ln ls : List Item) : Prop where
  blk : Blk w bK #[vb, vn, vs, .bool false] 49
  le : B ≤ bK
  bytes : w.ownsRow B 22 1 vb lb.length (vals lb)
  nums : w.ownsRow B 41 1 vn ln.length (vals ln)
  syms : w.ownsRow B 88 1 vs ls.length (vals ls)
/-- Each list that has something begins a block of its own. -/
def Good (w : World) (E : TypeId) (l : List Item) : Prop :=
  l.length ≤ 1000 ∧ ∀ (i : Nat) (a : Option Addr) (m : Nat), l[i]? = some (a, m) → m ≤ 1000000000 ∧ (0 < m → ∃ g : Nat, a = some ⟨g, 0, none⟩ ∧ (∃ cur, Blk w g cur E ∧ m ≤ cur.size) ∧ ∀ (j : Nat) (a' : Option Addr) (m' : Nat), l[j]? = some (a', m') → 0 < m' → i ≠ j → a' ≠ some ⟨g, 0, none⟩)
theorem rows_of {w : World} {E TS : TypeId} {B : Nat} {v : Value} {l : List Item} (h : w.ownsRow B TS 1 v l.length (vals l)) (hg : Good w E l) :
    ∃ ao cap, v = .slice ao l.length cap ∧ Rows w E TS ao l.length (itG l) (itM l) := by
  have hv : ∀ (i : Nat) (a : Option Addr) (m : Nat), l[i]? = some (a, m) → itM l i = m ∧ ∀ g : Nat, a = some ⟨g, 0, none⟩ → itG l i = g := fun i a m hi => by
    refine ⟨by simp [itM, hi], fun g hga => ?_⟩
    subst hga
    simp [itG, hi]
  have hdis : ∀ i j, i < l.length → j < l.length → i ≠ j → 0 < itM l i → 0 < itM l j → itG l i ≠ itG l j := fun i j hi hj hne pi pj => by
    obtain ⟨a, m, hai⟩ : ∃ a m, l[i]? = some (a, m) := ⟨_, _, List.getElem?_eq_getElem hi⟩
    obtain ⟨a', m', haj⟩ : ∃ a m, l[j]? = some (a, m) := ⟨_, _, List.getElem?_eq_getElem hj⟩
    obtain ⟨e1, e2⟩ := hv i a m hai
    obtain ⟨e3, e4⟩ := hv j a' m' haj
    rw [e1] at pi
    rw [e3] at pj
    obtain ⟨g, rfl, _, hd⟩ := (hg.2 i a m hai).2 pi
    obtain ⟨g', rfl, _, _⟩ := (hg.2 j a' m' haj).2 pj
    rw [e2 g rfl, e4 g' rfl]
    intro e
    subst e
    exact hd j _ _ haj pj hne rfl
  rcases h.2 with ⟨rfl, h0⟩ | ⟨g, cap, cur, rfl, h2, h3, h4, h5, h6, h7⟩
  · refine ⟨none, 0, by rw [h0], by have := hg.1; omega, fun i hi => absurd hi (by omega), hdis⟩
  · refine ⟨_, cap, rfl, by have := hg.1; omega, fun i hi => ?_, hdis⟩
    obtain ⟨a, m, hai⟩ : ∃ a m, l[i]? = some (a, m) := ⟨_, _, List.getElem?_eq_getElem hi⟩
    obtain ⟨e1, e2⟩ := hv i a m hai
    obtain ⟨hm, hp⟩ := hg.2 i a m hai
    refine ⟨by rw [e1]; exact hm, g, 0, a, m, cur, rfl, h3, ?_, fun p => ?_⟩
    · have hx : (vals l)[i]? = some (.slice a m m) := by simp [vals, hai]
      rw [← h7, List.getElem?_take] at hx
      split at hx
      · rw [e1]; simpa using hx
      · simp at hx
    · rw [e1] at p
      obtain ⟨g', rfl, ⟨cur', hb, hs⟩, _⟩ := hp p
      exact ⟨by rw [e2 g' rfl], cur', by rw [e2 g' rfl]; exact hb, by rw [e1]; exact hs⟩
/-- The blocks of some lists. -/
def itB (l : List Item) : List Nat := blks l.length (itG l) (itM l)
theorem apartL {B : Nat} {w : World} {bK : Nat} {vb vn vs : Value} {lb ln ls : List Item} (h : BookL B w bK vb vn vs lb ln ls) (g1 : Good w 5 lb) (g2 : Good w 3 ln) (g3 : Good w 89 ls) :
    Calls Try.prog 21 #[.pointer (some ⟨bK, 0, none⟩)] w fun e w' => e = .returned (.bool true) ∧ Touch (itB lb ++ (itB ln ++ itB ls)) w w' := by
  obtain ⟨a1, c1, rfl, r1⟩ := rows_of h.bytes g1
  obtain ⟨a2, c2, rfl, r2⟩ := rows_of h.nums g2
  obtain ⟨a3, c3, rfl, r3⟩ := rows_of h.syms g3
  exact apart_any w bK _ _ _ _ _ _ _ _ _ _ _ _ _ _ _ ⟨h.blk, r1, r2, r3⟩
theorem mem_itB {w : World} {E : TypeId} {l : List Item} (hg : Good w E l) {b : Nat} (hb : b ∈ itB l) : ∃ (i : Nat) (a : Option Addr) (m : Nat) (cur : Array Value), l[i]? = some (a, m) ∧ 0 < m ∧ a = some ⟨b, 0, none⟩ ∧ Blk w b cur E := by
  simp only [itB, blks, List.mem_map, List.mem_filter, List.mem_range, decide_eq_true_eq] at hb
  obtain ⟨i, ⟨hi, hm⟩, rfl⟩ := hb
  obtain ⟨a, m, hai⟩ : ∃ a m, l[i]? = some (a, m) := ⟨_, _, List.getElem?_eq_getElem hi⟩
  have e1 : itM l i = m := by simp [itM, hai]
  rw [e1] at hm
  obtain ⟨g, rfl, ⟨cur, hb, _⟩, _⟩ := (hg.2 i a m hai).2 hm
  have e2 : itG l i = g := by simp [itG, hai]
  rw [e2]
  exact ⟨i, _, m, cur, hai, hm, rfl, hb⟩
theorem BookL.below {B : Nat} {w w' : World} {bK : Nat} {vb vn vs : Value} {lb ln ls : List Item} (h : BookL B w bK vb vn vs lb ln ls) (hb : Below w.heap.size w w') : BookL B w' bK vb vn vs lb ln ls := by
  have own : ∀ {E : TypeId} {v : Value} {n : Nat} {xs : List Value}, w.ownsRow B E 1 v n xs → w'.ownsRow B E 1 v n xs := fun {E v n xs} h => by
    refine ⟨h.1, ?_⟩
    rcases h.2 with h2 | ⟨g, cap, cur, rfl, h2, h3, r⟩
    · exact .inl h2
    · have hgb : Blk w g cur E := h3
      exact .inr ⟨g, cap, cur, rfl, h2, hgb.below hb hgb.lt, r⟩
  exact ⟨h.blk.below hb h.blk.lt, h.le, own h.bytes, own h.nums, own h.syms⟩
end Go.Proofs.Ytagmbdoajafejaa
