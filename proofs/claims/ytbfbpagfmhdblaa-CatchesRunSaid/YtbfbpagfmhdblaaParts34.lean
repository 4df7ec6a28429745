/- Sums: two, three, four parts that a text writes out. -/
import Derived.Test.YtbfbpagfmhdblaaSumsU
namespace Go.Proofs.Ytbfbpagfmhdblaa
open Go.RowKit
set_option linter.unusedSimpArgs false
set_option linter.unusedVariables false
/-- A part: its bytes, readable. -/
def Prt (w : World) (a : Option Addr) (n c : Nat) (L : Nat → Int) : Prop := Rd .u8 w a n L ∧ NilOk a n c ∧ ∀ j, j < n → 0 ≤ L j ∧ L j < 256
def at2 {α : Type} (x y : α) : Nat → α | 0 => x | _ => y
def at3 {α : Type} (x y z : α) : Nat → α | 0 => x | 1 => y | _ => z
def at4 {α : Type} (x y z u : α) : Nat → α | 0 => x | 1 => y | 2 => z | _ => u
theorem Prt.below {w w' : World} {a : Option Addr} {n c : Nat} {L : Nat → Int} {B : Nat} (h : Prt w a n c L) (hb : Below B w w') (hB : w.heap.size ≤ B) : Prt w' a n c L := ⟨h.1.below hb hB, h.2⟩
theorem prt_none (w : World) : Prt w none 0 0 (fun _ => 0) := ⟨fun i hi => by omega, ⟨Nat.le_refl _, by omega, fun _ => ⟨rfl, rfl⟩⟩, fun i hi => by omega⟩
theorem parts2 {w : World} {B : Nat} {t : TypeId} {a0 a1 : Option Addr} {n0 n1 c0 c1 : Nat} {L0 L1 : Nat → Int} (hB : Blk w B #[.slice a0 n0 c0, .slice a1 n1 c1] t) (p0 : Prt w a0 n0 c0 L0) (p1 : Prt w a1 n1 c1 L1) :
    Parts w (some ⟨B, 0, none⟩) 2 (at2 a0 a1) (at2 n0 n1) (at2 c0 c1) (at2 L0 L1) := fun i hi => by
  refine ⟨B, 0, rfl, ?_⟩
  rcases i with _ | _ | i
  · exact ⟨by simpa [at2] using hB.cell (i := 0) rfl, p0⟩
  · exact ⟨by simpa [at2] using hB.cell (i := 1) rfl, p1⟩
  · omega
theorem parts3 {w : World} {B : Nat} {t : TypeId} {a0 a1 a2 : Option Addr} {n0 n1 n2 c0 c1 c2 : Nat} {L0 L1 L2 : Nat → Int} (hB : Blk w B #[.slice a0 n0 c0, .slice a1 n1 c1, .slice a2 n2 c2] t) (p0 : Prt w a0 n0 c0 L0) (p1 : Prt w a1 n1 c1 L1) (p2 : Prt w a2 n2 c2 L2) :
    Parts w (some ⟨B, 0, none⟩) 3 (at3 a0 a1 a2) (at3 n0 n1 n2) (at3 c0 c1 c2) (at3 L0 L1 L2) := fun i hi => by
  refine ⟨B, 0, rfl, ?_⟩
  rcases i with _ | _ | _ | i
  · exact ⟨by simpa [at3] using hB.cell (i := 0) rfl, p0⟩
  · exact ⟨by simpa [at3] using hB.cell (i := 1) rfl, p1⟩
  · exact ⟨by simpa [at3] using hB.cell (i := 2) rfl, p2⟩
  · omega
theorem parts4 {w : World} {B : Nat} {t : TypeId} {a0 a1 a2 a3 : Option Addr} {n0 n1 n2 n3 c0 c1 c2 c3 : Nat} {L0 L1 L2 L3 : Nat → Int} (hB : Blk w B #[.slice a0 n0 c0, .slice a1 n1 c1, .slice a2 n2 c2, .slice a3 n3 c3] t) (p0 : Prt w a0 n0 c0 L0) (p1 : Prt w a1 n1 c1 L1) (p2 : Prt w a2 n2 c2 L2) (p3 : Prt w a3 n3 c3 L3) :
    Parts w (some ⟨B, 0, none⟩) 4 (at4 a0 a1 a2 a3) (at4 n0 n1 n2 n3) (at4 c0 c1 c2 c3) (at4 L0 L1 L2 L3) := fun i hi => by
  refine ⟨B, 0, rfl, ?_⟩
  rcases i with _ | _ | _ | _ | i
  · exact ⟨by simpa [at4] using hB.cell (i := 0) rfl, p0⟩
  · exact ⟨by simpa [at4] using hB.cell (i := 1) rfl, p1⟩
  · exact ⟨by simpa [at4] using hB.cell (i := 2) rfl, p2⟩
  · exact ⟨by simpa [at4] using hB.cell (i := 3) rfl, p3⟩
  · omega
theorem catN2 (x y : Nat) : catN (at2 x y) 2 = x + y := by simp [catN, at2]
theorem catN3 (x y z : Nat) : catN (at3 x y z) 3 = x + y + z := by simp [catN, at3]
theorem catN4 (x y z u : Nat) : catN (at4 x y z u) 4 = x + y + z + u := by simp [catN, at4]
theorem appL_zero (L M : Nat → Int) : appL L 0 M = M := by funext i; simp [appL]
theorem catL2 (x y : Nat) (L M : Nat → Int) : catL (at2 x y) (at2 L M) 2 = appL L x M := by simp [catL, catN, at2, appL_zero]
theorem catL3 (x y z : Nat) (L M N : Nat → Int) : catL (at3 x y z) (at3 L M N) 3 = appL (appL L x M) (x + y) N := by simp [catL, catN, at3, appL_zero]
theorem catL4 (x y z u : Nat) (L M N O : Nat → Int) : catL (at4 x y z u) (at4 L M N O) 4 = appL (appL (appL L x M) (x + y) N) (x + y + z) O := by simp [catL, catN, at4, appL_zero]
theorem appL_byte {L M : Nat → Int} {n m : Nat} (h : ∀ j, j < n → 0 ≤ L j ∧ L j < 256) (g : ∀ j, j < m → 0 ≤ M j ∧ M j < 256) : ∀ j, j < n + m → 0 ≤ appL L n M j ∧ appL L n M j < 256 := fun j hj => by
  unfold appL
  split
  · exact h j (by assumption)
  · exact g _ (by omega)
end Go.Proofs.Ytbfbpagfmhdblaa
