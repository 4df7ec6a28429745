/- Rings: ring, node, round, hops, Step, Distance, Source, Link, Place. -/
import Derived.Test.YteogoddnefeleaaDoorProg
import Derived.Test.YteogoddnefeleaaDoorFresh
import Derived.Test.YteogoddnefeleaaDoorSpec03
namespace Go.Proofs.YteogoddnefeleaaDoor
open Go.RowKit
set_option linter.unusedSimpArgs false
set_option linter.unusedVariables false
set_option maxRecDepth 100000
/-- The variable of signs. -/
def Signs (w : World) : Prop := w.cell? ⟨0, 0, none⟩ = some (.int .i64 1) ∧ w.cell? ⟨0, 1, none⟩ = some (.int .i64 (-1))
theorem Signs.below {B : Nat} {w w' : World} (h : Signs w) (hb : Below B w w') (hB : 0 < B) : Signs w' :=
  ⟨below_cell h.1 hb hB, below_cell h.2 hb hB⟩
theorem Signs.pos {w : World} (h : Signs w) : 0 < w.heap.size := World.block_lt_of_cell? w _ h.1
theorem Signs.to {w w' : World} (h : Signs w) (hb : Below w.heap.size w w') : Signs w' := h.below hb h.pos
theorem Signs.drew {w : World} (h : Signs w) (q : Nat) : Signs (w.drewN q) := h
theorem beq_dec (a b : Int) : (a == b) = decide (a = b) := by
  by_cases h : a = b <;> simp [h]
theorem ringsRing (w : World) (n d : Int) : Calls Tryd.prog 47 #[.int .i64 n, .int .u8 d] w fun e w' => e = .returned (.bool (okR n d)) ∧ w = w' := by
  unfold okR
  by_cases h1 : 4 ≤ n
  · by_cases h2 : n ≤ 16
    · go_enter Tryd.func47, Tryd.ntmps47
      go_wp2
      go_ret
      exact ⟨by simp [h1, h2], rfl⟩
    · go_enter Tryd.func47, Tryd.ntmps47
      go_wp2
      go_ret
      exact ⟨by simp [h1, h2]; omega, rfl⟩
  · go_enter Tryd.func47, Tryd.ntmps47
    go_wp2
    go_ret
    exact ⟨by simp [h1]; omega, rfl⟩
theorem ringsNode (w : World) (n i : Int) : Calls Tryd.prog 48 #[.int .i64 n, .int .i64 i] w fun e w' => e = .returned (.bool (inR n i)) ∧ w = w' := by
  unfold inR
  by_cases h1 : 0 ≤ i
  · go_enter Tryd.func48, Tryd.ntmps48
    go_wp2
    go_ret
    exact ⟨by simp [h1], rfl⟩
  · go_enter Tryd.func48, Tryd.ntmps48
    go_wp2
    go_ret
    exact ⟨by simp [h1]; omega, rfl⟩
theorem ringsHops (w : World) (h : Int) : Calls Tryd.prog 53 #[.int .i64 h] w fun e w' => e = .returned (.bool (okH h)) ∧ w = w' := by
  unfold okH
  by_cases h1 : h = 1
  · subst h1
    go_enter Tryd.func53, Tryd.ntmps53
    go_wp2
    go_ret
    exact ⟨rfl, rfl⟩
  · have e1 : (h == 1) = false := by simp [h1]
    go_enter Tryd.func53, Tryd.ntmps53
    go_wp2
    go_ret
    exact ⟨by simp [h1, beq_dec], rfl⟩
theorem ringsRound (w : World) (n i : Int) (hn : 4 ≤ n) (hn' : n ≤ 16) : Calls Tryd.prog 49 #[.int .i64 n, .int .i64 i] w fun e w' => e = .returned (.int .i64 (i % n)) ∧ w = w' := by
  have h1 := Int.tmod_lt_of_pos i (show 0 < n by omega)
  have h2 : -n < Int.tmod i n := Int.lt_tmod_of_pos i (by omega)
  have hr := round_emod (n := n) (i := i) (by omega)
  have hne : n ≠ 0 := by omega
  have e1 : IntKind.i64.wrap (Int.tmod i n) = Int.tmod i n := by rw [IntKind.wrap_i64]; omega
  have e2 : IntKind.i64.wrap (Int.tmod i n + n) = Int.tmod i n + n := by rw [IntKind.wrap_i64]; omega
  have e3 : IntKind.i64.wrap (i % n) = i % n := by
    have := Int.emod_nonneg i hne
    have := Int.emod_lt_of_pos i (show 0 < n by omega)
    rw [IntKind.wrap_i64]; omega
  clear h1 h2
  go_enter Tryd.func49, Tryd.ntmps49
  go_wp2
  go_ret
  exact ⟨by simp [*], rfl⟩
end Go.Proofs.YteogoddnefeleaaDoor
