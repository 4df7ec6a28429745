/- A twin: what it reads as, and as a list of a book. -/
import Derived.Test.YtlhiamgaobbdnaaHelpSyms
import Derived.Test.YtlhiamgaobbdnaaBookF
namespace Go.Proofs.Ytlhiamgaobbdnaa
open Go.RowKit
set_option linter.unusedVariables false
theorem twinSyms_rd {w : World} {g n c : Nat} {L : Nat → Int} (h : TwinSymsAt w g n c L) : Rd .u8 w (some ⟨g, 0, none⟩) n L := by
  obtain ⟨cur, h1, h2, h3, h4, h5, h6, h7⟩ := h
  exact Rd.of_blk h1 h5
theorem twinSyms_to {w w' : World} {g n c : Nat} {L : Nat → Int} (h : TwinSymsAt w g n c L) (hk : ∀ cur, Blk w g cur 77 → Blk w' g cur 77) : TwinSymsAt w' g n c L := by
  obtain ⟨cur, h1, r⟩ := h
  exact ⟨cur, hk cur h1, r⟩
theorem twinSyms_lt {w : World} {g n c : Nat} {L : Nat → Int} (h : TwinSymsAt w g n c L) : g < w.heap.size := by
  obtain ⟨cur, h1, r⟩ := h
  exact h1.lt
theorem twinSyms_below {w w' : World} {g n c : Nat} {L : Nat → Int} (h : TwinSymsAt w g n c L) (hb : Below w.heap.size w w') : TwinSymsAt w' g n c L := twinSyms_to h fun cur hc => hc.below hb hc.lt
theorem twinSyms_held {w : World} {B g n c : Nat} {L : Nat → Int} (h : TwinSymsAt w g n c L) (hB : B ≤ g) : Held 77 B w.heap.size w (some ⟨g, 0, none⟩) n := fun _ => by
  obtain ⟨cur, h1, h2, h3, h4, r⟩ := h
  exact ⟨g, cur, rfl, hB, h1.lt, h1, by omega⟩
theorem twinSyms_caps {w : World} {g n c : Nat} {L : Nat → Int} (h : TwinSymsAt w g n c L) : n + 2 ≤ c ∧ c ≤ 9223372036854775807 := by
  obtain ⟨cur, h1, h2, h3, h4, r⟩ := h
  exact ⟨h3, h4⟩
end Go.Proofs.Ytlhiamgaobbdnaa
