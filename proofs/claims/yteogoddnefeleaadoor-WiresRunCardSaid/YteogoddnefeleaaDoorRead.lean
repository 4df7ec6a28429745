/- What a slice reads as. -/
import Derived.Test.YteogoddnefeleaaDoorBase
import Derived.Test.YteogoddnefeleaaDoorSlots
namespace Go.Proofs.YteogoddnefeleaaDoor
open Go.RowKit
/-- Where ways meet again, at the end of a block. -/
theorem wp_cutQ {P : Program} {c : Code} {Q : Exit → Act → World → Prop} {a : Act} {w : World} (R : Act → World → Prop)
    (first : ∀ K' : Act → World → Prop, (∀ a' w', True → R a' w' → K' a' w') → c.wp P (Exit.then K' Q) a w) (rest : ∀ a' w', R a' w' → Q .normal a' w') : c.wp P Q a w :=
  Code.wp_mono (fun e a w q => by cases e <;> first | exact rest _ _ q | exact q) (first R fun _ _ _ h => h)
/-- A slice (its address, its length) reads as the numbers L. -/
def Rd (k : IntKind) (w : World) (ao : Option Addr) (n : Nat) (L : Nat → Int) : Prop :=
  ∀ i, i < n → ∃ b o, ao = some ⟨b, o, none⟩ ∧ w.cell? ⟨b, o + i, none⟩ = some (.int k (L i))
theorem Rd.below {k : IntKind} {w w' : World} {ao : Option Addr} {n : Nat} {L : Nat → Int} {B : Nat} (h : Rd k w ao n L) (hb : Below B w w') (hB : w.heap.size ≤ B) : Rd k w' ao n L := fun i hi => by
  obtain ⟨b, o, h1, h2⟩ := h i hi
  exact ⟨b, o, h1, below_cell h2 hb (Nat.lt_of_lt_of_le (World.block_lt_of_cell? w _ h2) hB)⟩
theorem Rd.drewN {k : IntKind} {w : World} {ao : Option Addr} {n : Nat} {L : Nat → Int} (h : Rd k w ao n L) (q : Nat) : Rd k (w.drewN q) ao n L := h
theorem Rd.drew {k : IntKind} {w : World} {ao : Option Addr} {n : Nat} {L : Nat → Int} (h : Rd k w ao n L) : Rd k w.drew ao n L := h
theorem Rd.of_blk {k : IntKind} {w : World} {g n : Nat} {cur : Array Value} {t : TypeId} {L : Nat → Int} (h : Blk w g cur t) (hc : ∀ i, i < n → cur[i]? = some (.int k (L i))) : Rd k w (some ⟨g, 0, none⟩) n L :=
  fun i hi => ⟨g, 0, rfl, by simpa using h.cell (hc i hi)⟩
theorem Rd.congr {k : IntKind} {w : World} {ao : Option Addr} {n : Nat} {L L' : Nat → Int} (h : Rd k w ao n L) (e : ∀ i, i < n → L i = L' i) : Rd k w ao n L' := fun i hi => by rw [← e i hi]; exact h i hi
theorem Rd.touch {k : IntKind} {w w' : World} {ao : Option Addr} {n : Nat} {L : Nat → Int} {S : List Nat} (h : Rd k w ao n L) (ht : Touch S w w') (hn : ∀ a, ao = some a → a.block ∉ S) : Rd k w' ao n L := fun i hi => by
  obtain ⟨b, o, h1, h2⟩ := h i hi
  exact ⟨b, o, h1, touch_cell h2 ht (by simpa using hn _ h1)⟩
end Go.Proofs.YteogoddnefeleaaDoor
