/- The book, as a law uses it: lists that lie apart are told so. -/
import Derived.Test.YtlhiamgaobbdnaaBookD
import Derived.Test.YtlhiamgaobbdnaaFresh
import Derived.Test.YtlhiamgaobbdnaaBookESyms
import Derived.Test.YtlhiamgaobbdnaaBookEBytes
namespace Go.Proofs.Ytlhiamgaobbdnaa
open Go.RowKit
set_option linter.unusedSimpArgs false
set_option linter.unusedVariables false
/-- The list at a, n long, lies at the beginning of a block of its own between B and C. -/
def Held (E : TypeId) (B C : Nat) (w : World) (a : Option Addr) (n : Nat) : Prop :=
  0 < n → ∃ g cur, a = some ⟨g, 0, none⟩ ∧ B ≤ g ∧ g < C ∧ Blk w g cur E ∧ n ≤ cur.size
theorem Mine.held {k : IntKind} {E : TypeId} {B : Nat} {w : World} {a : Option Addr} {n : Nat} {L : Nat → Int} (h : Mine k E B w a n L) : Held E B w.heap.size w a n := fun hn => by
  obtain ⟨g, cur, h1, h2, h3, h4, h5⟩ := h hn
  exact ⟨g, cur, h1, h2, h3.lt, h3, h4⟩
theorem Held.to {E : TypeId} {B C : Nat} {w w' : World} {a : Option Addr} {n : Nat} (h : Held E B C w a n) (hk : ∀ g cur, Blk w g cur E → Blk w' g cur E) : Held E B C w' a n := fun hn => by
  obtain ⟨g, cur, h1, h2, h3, h4, h5⟩ := h hn
  exact ⟨g, cur, h1, h2, h3, hk g cur h4, h5⟩
theorem Held.below {E : TypeId} {B C : Nat} {w w' : World} {a : Option Addr} {n : Nat} (h : Held E B C w a n) {B' : Nat} (hb : Below B' w w') (hB : w.heap.size ≤ B') : Held E B C w' a n := h.to fun g cur hc => hc.below hb (Nat.lt_of_lt_of_le hc.lt hB)
theorem Held.mono {E : TypeId} {B C B' C' : Nat} {w : World} {a : Option Addr} {n : Nat} (h : Held E B C w a n) (hB : B' ≤ B) (hC : C ≤ C') : Held E B' C' w a n := fun hn => by
  obtain ⟨g, cur, h1, h2, h3, h4, h5⟩ := h hn
  exact ⟨g, cur, h1, Nat.le_trans hB h2, Nat.lt_of_lt_of_le h3 hC, h4, h5⟩
/-- Lists that lie in blocks of their own between B and C, each in another one. -/
def Apt (w : World) (E : TypeId) (B C : Nat) (l : List Item) : Prop :=
  l.length ≤ 500 ∧ ∀ (i : Nat) (a : Option Addr) (m : Nat), l[i]? = some (a, m) → m ≤ 1000000000 ∧ (0 < m → ∃ g cur, a = some ⟨g, 0, none⟩ ∧ B ≤ g ∧ g < C ∧ Blk w g cur E ∧ m ≤ cur.size ∧ ∀ (j : Nat) (a' : Option Addr) (m' : Nat), l[j]? = some (a', m') → 0 < m' → i ≠ j → a' ≠ some ⟨g, 0, none⟩)
theorem Apt.nil (w : World) (E : TypeId) (B C : Nat) : Apt w E B C [] := ⟨by simp, fun i a m h => by simp at h⟩
theorem Apt.to {w w' : World} {E : TypeId} {B C : Nat} {l : List Item} (h : Apt w E B C l) (hk : ∀ g cur, Blk w g cur E → Blk w' g cur E) : Apt w' E B C l := ⟨h.1, fun i a m hi => by
  obtain ⟨h1, h2⟩ := h.2 i a m hi
  refine ⟨h1, fun hm => ?_⟩
  obtain ⟨g, cur, e1, e2, e3, e4, e5⟩ := h2 hm
  exact ⟨g, cur, e1, e2, e3, hk g cur e4, e5⟩⟩
theorem Apt.add {w : World} {E : TypeId} {B C C' D : Nat} {l : List Item} {a : Option Addr} {n : Nat} (h : Apt w E B C l) (hh : Held E C' D w a n) (hB : B ≤ C) (hC : C ≤ C') (hD : C' ≤ D) (hn : n ≤ 1000000000) (hl : l.length ≤ 499) : Apt w E B D (l ++ [(a, n)]) := by
  refine ⟨by simp; omega, fun i x m hi => ?_⟩
  rw [List.getElem?_append] at hi
  split at hi
  · rename_i hil
    obtain ⟨h1, h2⟩ := h.2 i x m hi
    refine ⟨h1, fun hm => ?_⟩
    obtain ⟨g, cur, e1, e2, e3, e4, e5, e6⟩ := h2 hm
    refine ⟨g, cur, e1, e2, by omega, e4, e5, fun j x' m' hj hm' hij => ?_⟩
    rw [List.getElem?_append] at hj
    split at hj
    · exact e6 j x' m' hj hm' hij
    · have hj0 : j - l.length = 0 := by
        have := (List.getElem?_eq_some_iff.1 hj).1
        simp at this
        omega
      rw [hj0] at hj
      simp at hj
      obtain ⟨rfl, rfl⟩ := hj
      obtain ⟨g', cur', q1, q2, _⟩ := hh hm'
      rw [q1]
      intro e
      simp at e <;> omega
  · rename_i hil
    have hi0 : i - l.length = 0 := by
      have := (List.getElem?_eq_some_iff.1 hi).1
      simp at this
      omega
    rw [hi0] at hi
    simp at hi
    obtain ⟨rfl, rfl⟩ := hi
    refine ⟨hn, fun hm => ?_⟩
    obtain ⟨g, cur, e1, e2, e3, e4, e5⟩ := hh hm
    refine ⟨g, cur, e1, by omega, e3, e4, e5, fun j x' m' hj hm' hij => ?_⟩
    rw [List.getElem?_append] at hj
    split at hj
    · obtain ⟨g', cur', q1, q2, q3, _⟩ := (h.2 j x' m' hj).2 hm'
      rw [q1]
      intro e
      simp at e <;> omega
    · have := (List.getElem?_eq_some_iff.1 hj).1
      simp at this
      omega
theorem Apt.good {w : World} {E : TypeId} {B C : Nat} {l : List Item} (h : Apt w E B C l) : Good w E l := ⟨by have := h.1; omega, fun i a m hi => by
  obtain ⟨h1, h2⟩ := h.2 i a m hi
  refine ⟨h1, fun hm => ?_⟩
  obtain ⟨g, cur, e1, e2, e3, e4, e5, e6⟩ := h2 hm
  exact ⟨g, e1, ⟨cur, e4, e5⟩, e6⟩⟩
theorem Apt.itB {w : World} {E : TypeId} {B C : Nat} {l : List Item} (h : Apt w E B C l) {b : Nat} (hb : b ∈ itB l) : B ≤ b := by
  obtain ⟨i, a, m, cur, hi, hm, rfl, hc⟩ := mem_itB h.good hb
  obtain ⟨g, cur', e1, e2, _⟩ := (h.2 i _ m hi).2 hm
  simp at e1
  omega
/-- A book with its lists. -/
def Shelf (B : Nat) (w : World) (bK : Nat) (lb ln ls : List Item) (Cb Cn Cs : Nat) : Prop :=
  ∃ vb vn vs, BookL B w bK vb vn vs lb ln ls ∧ (B ≤ Cb ∧ B ≤ Cn ∧ B ≤ Cs) ∧ Apt w 5 B Cb lb ∧ Apt w 3 B Cn ln ∧ Apt w 77 B Cs ls
/-- What a book's calls leave as it was. -/
def Books (w w' : World) : Prop := ∀ b c T, Blk w b c T → T ≠ 54 → T ≠ 29 → T ≠ 75 → T ≠ 40 → Blk w' b c T
theorem shelfNew {B : Nat} {w : World} (hB : B ≤ w.heap.size) : Shelf B (w.alloc (.cells #[.slice none 0 0, .slice none 0 0, .slice none 0 0, .bool false] 54)) w.heap.size [] [] [] B B B :=
  ⟨.slice none 0 0, .slice none 0 0, .slice none 0 0, ⟨Blk.new _ _ _, hB, World.ownsRow_nil _ _ _ _, World.ownsRow_nil _ _ _ _, World.ownsRow_nil _ _ _ _⟩, ⟨Nat.le_refl _, Nat.le_refl _, Nat.le_refl _⟩, Apt.nil _ _ _ _, Apt.nil _ _ _ _, Apt.nil _ _ _ _⟩
theorem Shelf.below {B : Nat} {w w' : World} {bK : Nat} {lb ln ls : List Item} {Cb Cn Cs : Nat} (h : Shelf B w bK lb ln ls Cb Cn Cs) (hb : Below w.heap.size w w') : Shelf B w' bK lb ln ls Cb Cn Cs := by
  obtain ⟨vb, vn, vs, h1, h2, h3, h4, h5⟩ := h
  have hk : ∀ E g cur, Blk w g cur E → Blk w' g cur E := fun E g cur hc => hc.below hb hc.lt
  exact ⟨vb, vn, vs, h1.below hb, h2, h3.to (hk _), h4.to (hk _), h5.to (hk _)⟩
theorem shelfApart {B : Nat} {w : World} {bK : Nat} {lb ln ls : List Item} {Cb Cn Cs : Nat} (h : Shelf B w bK lb ln ls Cb Cn Cs) (hB : B ≤ w.heap.size) :
    Calls Try.prog 22 #[.pointer (some ⟨bK, 0, none⟩)] w fun e w' => e = .returned (.bool true) ∧ Below B w w' := by
  obtain ⟨vb, vn, vs, h1, h2, h3, h4, h5⟩ := h
  refine (apartL h1 h3.good h4.good h5.good).mono ?_
  rintro e w' ⟨rfl, ht⟩
  refine ⟨rfl, ht.below (Below.refl B w) hB fun k hk => ?_⟩
  simp only [List.mem_append] at hk
  rcases hk with hk | hk | hk
  · exact h3.itB hk
  · exact h4.itB hk
  · exact h5.itB hk
theorem shelfSyms {B : Nat} {w : World} {bK : Nat} {lb ln ls : List Item} {Cb Cn Cs C' D : Nat} (h : Shelf B w bK lb ln ls Cb Cn Cs) {a : Option Addr} {m : Nat} (hh : Held 77 C' D w a m) (hC : Cs ≤ C') (hD : C' ≤ D) (hm : m ≤ 1000000000) (hl : ls.length ≤ 499) :
    Calls Try.prog 21 #[.pointer (some ⟨bK, 0, none⟩), .slice a m m] w fun e w' => e = .returned (.tuple #[]) ∧ Shelf B w' bK lb ln (ls ++ [(a, m)]) Cb Cn D ∧ Below B w w' ∧ Books w w' := by
  obtain ⟨vb, vn, vs, h1, h2, h3, h4, h5⟩ := h
  refine (addSyms h1 a m (by omega)).mono ?_
  rintro e w' ⟨rfl, ⟨v', h6⟩, h7, h8, h9⟩
  refine ⟨rfl, ⟨_, _, _, h6, ?_, ?_⟩, h7, fun b c T hc n1 n2 n3 n4 => h9 b c T hc n1 (by assumption)⟩
  · obtain ⟨x1, x2, x3⟩ := h2
    exact ⟨by omega, by omega, by omega⟩
  · have k1 := h3.to (w' := w') fun g cur hc => h9 g cur _ hc (by decide) (by decide)
    have k2 := h4.to (w' := w') fun g cur hc => h9 g cur _ hc (by decide) (by decide)
    have k3 := h5.to (w' := w') fun g cur hc => h9 g cur _ hc (by decide) (by decide)
    have kh := hh.to (w' := w') fun g cur hc => h9 g cur _ hc (by decide) (by decide)
    exact ⟨k1, k2, k3.add kh h2.2.2 hC hD hm hl⟩
theorem shelfBytes {B : Nat} {w : World} {bK : Nat} {lb ln ls : List Item} {Cb Cn Cs C' D : Nat} (h : Shelf B w bK lb ln ls Cb Cn Cs) {a : Option Addr} {m : Nat} (hh : Held 5 C' D w a m) (hC : Cb ≤ C') (hD : C' ≤ D) (hm : m ≤ 1000000000) (hl : lb.length ≤ 499) :
    Calls Try.prog 20 #[.pointer (some ⟨bK, 0, none⟩), .slice a m m] w fun e w' => e = .returned (.tuple #[]) ∧ Shelf B w' bK (lb ++ [(a, m)]) ln ls D Cn Cs ∧ Below B w w' ∧ Books w w' := by
  obtain ⟨vb, vn, vs, h1, h2, h3, h4, h5⟩ := h
  refine (addBytes h1 a m (by omega)).mono ?_
  rintro e w' ⟨rfl, ⟨v', h6⟩, h7, h8, h9⟩
  refine ⟨rfl, ⟨_, _, _, h6, ?_, ?_⟩, h7, fun b c T hc n1 n2 n3 n4 => h9 b c T hc n1 (by assumption)⟩
  · obtain ⟨x1, x2, x3⟩ := h2
    exact ⟨by omega, by omega, by omega⟩
  · have k1 := h3.to (w' := w') fun g cur hc => h9 g cur _ hc (by decide) (by decide)
    have k2 := h4.to (w' := w') fun g cur hc => h9 g cur _ hc (by decide) (by decide)
    have k3 := h5.to (w' := w') fun g cur hc => h9 g cur _ hc (by decide) (by decide)
    have kh := hh.to (w' := w') fun g cur hc => h9 g cur _ hc (by decide) (by decide)
    exact ⟨k1.add kh h2.1 hC hD hm hl, k2, k3⟩
end Go.Proofs.Ytlhiamgaobbdnaa
