/- What a law's arguments read as, said of cells: the ground of each law's frame. -/
import Derived.Test.YtmdohnbhogfopaaRows
import Derived.Test.YtmdohnbhogfopaaZBase
import Derived.ProofKit
import Derived.OpenShut
import Derived.ShutString
import Derived.ChangeOld
import Derived.Below
import Derived.Deep.Slices
import Derived.Deep.Strs
import Derived.Deep.Grids
import Derived.Deep.Matrix
namespace Go.Proofs.Ytmdohnbhogfopaa
open Go.ChangeShapes Go.WideShapes Go.ChangeAt Go.RowKit
open Go.ChangeMaps (open_string shut_string)

theorem own : ownKnob Try.prog.godebug = none := by kernel_rfl
theorem laidOut : laidOutB Try.prog = true := by kernel_rfl

/-- A slice that came in: of integers L. -/
def SlI (k : IntKind) (w : World) (a : Option Addr) (n cap : Nat) (L : Nat → Int) : Prop :=
  n ≤ cap ∧ cap ≤ 9223372036854775807 ∧ ∀ i, i < n → ∃ b o, a = some ⟨b, o, none⟩ ∧ w.cell? ⟨b, o + i, none⟩ = some (.int k (L i)) ∧ (Lit.int k (L i)).wf = true
/-- Of bools. -/
def SlB (w : World) (a : Option Addr) (n cap : Nat) (L : Nat → Bool) : Prop :=
  n ≤ cap ∧ cap ≤ 9223372036854775807 ∧ ∀ i, i < n → ∃ b o, a = some ⟨b, o, none⟩ ∧ w.cell? ⟨b, o + i, none⟩ = some (.bool (L i))
/-- Of texts. -/
def SlS (w : World) (a : Option Addr) (n cap : Nat) (L : Nat → ByteArray) : Prop :=
  n ≤ cap ∧ cap ≤ 9223372036854775807 ∧ ∀ i, i < n → ∃ b o, a = some ⟨b, o, none⟩ ∧ w.cell? ⟨b, o + i, none⟩ = some (.string (L i)) ∧ (L i).size ≤ 9223372036854775807

theorem addr_at {w : World} {a : Addr} {i : Nat} {u v : Value} (h0 : w.cell? (a.add 0) = some u) (h : w.cell? (a.add i) = some v) : ∃ b o, a = ⟨b, o, none⟩ ∧ w.cell? ⟨b, o + i, none⟩ = some v := by
  obtain ⟨b, o, s⟩ := a
  simp [Addr.add] at h0
  have hs : s = none := World.cell?_spot h0
  subst hs
  refine ⟨b, o, rfl, ?_⟩
  by_cases hi : i = 0
  · subst hi
    simpa [Addr.add] using h
  · simpa [Addr.add, hi] using h

theorem rd_ints {H : Type} {enc : TypeId × Value → H} {P : Program} {W : World} {t e : TypeId} {k : IntKind} {a : Option Addr} {n cap : Nat} {d : DataW H} {p : List MemPlace}
    (ht : P.underlying t = some (.slice e)) (he : P.underlying e = some (.int k)) (hc : P.cellsOf e = 1) (h : DataW.Trod enc P W 0 (fun _ => true) true t (.slice a n cap) d p) : ∃ L : Nat → Int, SlI k W a n cap L := by
  obtain ⟨fuel, hf⟩ := h
  rcases open_ints ht he hc hf with ⟨hcs, _⟩ | ⟨x, l, c, zs, hcs, _, hl, hm, hz, _, hcell, hwz⟩
  · simp [Value.cells] at hcs
    obtain ⟨rfl, rfl, rfl⟩ := hcs
    exact ⟨fun _ => 0, Nat.le_refl _, by omega, fun i hi => absurd hi (by omega)⟩
  · simp [Value.cells] at hcs
    obtain ⟨rfl, rfl, rfl⟩ := hcs
    refine ⟨fun i => zs.getD i 0, hl, by unfold maxLen at hm; omega, fun i hi => ?_⟩
    have hi' : i < zs.length := by simp at hz; omega
    obtain ⟨b, o, rfl, hb⟩ := addr_at (hcell 0 (by omega)) (hcell i hi')
    exact ⟨b, o, rfl, hb, hwz _ (by simp [List.getD_eq_getElem?_getD, hi'])⟩

open Go.Deep in
theorem rd_bools {H : Type} {enc : TypeId × Value → H} {P : Program} {W : World} {t e : TypeId} {a : Option Addr} {n cap : Nat} {d : DataW H} {p : List MemPlace}
    (ht : P.underlying t = some (.slice e)) (he : P.underlying e = some .bool) (hc : P.cellsOf e = 1) (h : DataW.Trod enc P W 0 (fun _ => true) true t (.slice a n cap) d p) : ∃ L : Nat → Bool, SlB W a n cap L := by
  obtain ⟨fuel, hf⟩ := h
  rcases open_bools ht he hc hf with ⟨hcs, _⟩ | ⟨x, l, c, B, hcs, _, hl, hm, _, hcell⟩
  · simp [Value.cells] at hcs
    obtain ⟨rfl, rfl, rfl⟩ := hcs
    exact ⟨fun _ => false, Nat.le_refl _, by omega, fun i hi => absurd hi (by omega)⟩
  · simp [Value.cells] at hcs
    obtain ⟨rfl, rfl, rfl⟩ := hcs
    refine ⟨B, hl, by unfold maxLen at hm; omega, fun i hi => ?_⟩
    obtain ⟨b, o, rfl, hb⟩ := addr_at (hcell 0 (by omega)) (hcell i (by omega))
    exact ⟨b, o, rfl, hb⟩

open Go.Deep in
theorem rd_strs {H : Type} {enc : TypeId × Value → H} {P : Program} {W : World} {t e : TypeId} {a : Option Addr} {n cap : Nat} {d : DataW H} {p : List MemPlace}
    (ht : P.underlying t = some (.slice e)) (he : P.underlying e = some .string) (hc : P.cellsOf e = 1) (h : DataW.Trod enc P W 0 (fun _ => true) true t (.slice a n cap) d p) : ∃ L : Nat → ByteArray, SlS W a n cap L := by
  obtain ⟨fuel, hf⟩ := h
  rcases open_strs ht he hc hf with ⟨hcs, _⟩ | ⟨x, l, c, m, B, hcs, _, hl, hm, hmm, _, hcell⟩
  · simp [Value.cells] at hcs
    obtain ⟨rfl, rfl, rfl⟩ := hcs
    exact ⟨fun _ => ByteArray.empty, Nat.le_refl _, by omega, fun i hi => absurd hi (by omega)⟩
  · simp [Value.cells] at hcs
    obtain ⟨rfl, rfl, rfl⟩ := hcs
    simp at hmm
    refine ⟨B, hl, by unfold maxLen at hm; omega, fun i hi => ?_⟩
    have hc := hcell i (by omega)
    obtain ⟨b, o, rfl, hb⟩ := addr_at (hcell 0 (by omega)).1 hc.1
    exact ⟨b, o, rfl, hb, by have := hc.2; unfold maxLen at this; omega⟩
end Go.Proofs.Ytmdohnbhogfopaa
