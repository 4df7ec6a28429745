/- Lines of four kinds of things: what New, Here, Ticks, Send and Way do, by what the line's blocks hold. -/
import Derived.Test.YteogoddnefeleaaDoorProg
import Derived.Test.YteogoddnefeleaaDoorBase
namespace Go.Proofs.YteogoddnefeleaaDoor
open Go.RowKit

/-- A line of int: its own two cells, and its way. -/
def LineInt (w : World) (bL bW hop : Nat) (cs : List Value) (t : Int) : Prop :=
  Blk w bL #[.slice (some ⟨bW, 0, none⟩) hop hop, .int .i64 t] 102 ∧ Blk w bW cs.toArray 105
theorem mkInt1 : ∀ w, (Instr.makeSlice 100 (.int .i64 1) (.int .i64 1)).run Tryd.prog w = .ok (.slice (some ⟨w.heap.size,0,none⟩) 1 1) (w.alloc (.cells #[.int .i64 0, .bool false] 105)) := fun _ => by kernel_rfl
theorem mkInt2 : ∀ w, (Instr.makeSlice 100 (.int .i64 2) (.int .i64 2)).run Tryd.prog w = .ok (.slice (some ⟨w.heap.size,0,none⟩) 2 2) (w.alloc (.cells #[.int .i64 0, .bool false, .int .i64 0, .bool false] 105)) := fun _ => by kernel_rfl
theorem newInt_1 (w : World) : Calls Tryd.prog 58 #[.int .i64 1] w fun e w' => e = .returned (.tuple #[.pointer (some ⟨w.heap.size + 1, 0, none⟩), .int .i64 0]) ∧
    LineInt w' (w.heap.size + 1) w.heap.size 1 [.int .i64 0, .bool false] 0 ∧ w'.heap.size = w.heap.size + 2 ∧ Below w.heap.size w w' := by
  have := mkInt1
  go_enter Tryd.func58, Tryd.ntmps58
  go_wp2
  go_ret2
  exact ⟨rfl, ⟨by simpa using Blk.new (w.alloc _) _ _, (Blk.new w _ _).alloc _⟩, by simp, ((Below.refl _ _).alloc (Nat.le_refl _) _).alloc (by simp) _⟩
theorem newInt_2 (w : World) : Calls Tryd.prog 58 #[.int .i64 2] w fun e w' => e = .returned (.tuple #[.pointer (some ⟨w.heap.size + 1, 0, none⟩), .int .i64 0]) ∧
    LineInt w' (w.heap.size + 1) w.heap.size 2 [.int .i64 0, .bool false, .int .i64 0, .bool false] 0 ∧ w'.heap.size = w.heap.size + 2 ∧ Below w.heap.size w w' := by
  have := mkInt2
  go_enter Tryd.func58, Tryd.ntmps58
  go_wp2
  go_ret2
  exact ⟨rfl, ⟨by simpa using Blk.new (w.alloc _) _ _, (Blk.new w _ _).alloc _⟩, by simp, ((Below.refl _ _).alloc (Nat.le_refl _) _).alloc (by simp) _⟩
theorem hereInt (w : World) (bL bW hop : Nat) (x is : Value) (cs : List Value) (t : Int) (hp : 0 < hop) (h : LineInt w bL bW hop (x :: is :: cs) t) :
    Calls Tryd.prog 62 #[.pointer (some ⟨bL, 0, none⟩)] w fun e w' => e = .returned (.tuple #[x, is]) ∧ ∃ n, w' = w.drewN n := by
  have : (0:Int) < hop := by omega
  have c0 := h.1.cell (i := 0) rfl
  have c1 := h.2.cell (i := 0) (v := x) (by simp)
  have c2 := h.2.cell (i := 1) (v := is) (by simp)
  clear h
  go_enter Tryd.func62, Tryd.ntmps62
  go_wp2
  go_quiet (fail)
  go_wp2
  go_ret2
  exact ⟨rfl, _, rfl⟩
theorem LineInt.alloc {w : World} {bL bW hop : Nat} {cs : List Value} {t : Int} (h : LineInt w bL bW hop cs t) (o : Obj) : LineInt (w.alloc o) bL bW hop cs t := ⟨h.1.alloc o, h.2.alloc o⟩
theorem LineInt.drewN {w : World} {bL bW hop : Nat} {cs : List Value} {t : Int} (h : LineInt w bL bW hop cs t) (n : Nat) : LineInt (w.drewN n) bL bW hop cs t := ⟨h.1.drewN n, h.2.drewN n⟩
theorem LineInt.touch {w w' : World} {bL bW hop : Nat} {cs : List Value} {t : Int} {S : List Nat} (h : LineInt w bL bW hop cs t) (ht : Touch S w w') (h1 : bL ∉ S) (h2 : bW ∉ S) : LineInt w' bL bW hop cs t := ⟨h.1.touch ht h1, h.2.touch ht h2⟩
theorem nwInt_1 (w : World) : Calls Tryd.prog 58 #[.int .i64 1] w fun e w' => ∃ bL bW, e = .returned (.tuple #[.pointer (some ⟨bL, 0, none⟩), .int .i64 0]) ∧
    LineInt w' bL bW 1 [.int .i64 0, .bool false] 0 ∧ w.heap.size ≤ bL ∧ w.heap.size ≤ bW ∧ Below w.heap.size w w' :=
  (newInt_1 w).mono fun _ _ ⟨h1, h2, _, h4⟩ => ⟨_, _, h1, h2, Nat.le_succ _, Nat.le_refl _, h4⟩
theorem LineInt.lt {w : World} {bL bW hop : Nat} {cs : List Value} {t : Int} (h : LineInt w bL bW hop cs t) : bL < w.heap.size ∧ bW < w.heap.size := ⟨h.1.lt, h.2.lt⟩
theorem nwInt_2 (w : World) : Calls Tryd.prog 58 #[.int .i64 2] w fun e w' => ∃ bL bW, e = .returned (.tuple #[.pointer (some ⟨bL, 0, none⟩), .int .i64 0]) ∧
    LineInt w' bL bW 2 [.int .i64 0, .bool false, .int .i64 0, .bool false] 0 ∧ w.heap.size ≤ bL ∧ w.heap.size ≤ bW ∧ Below w.heap.size w w' :=
  (newInt_2 w).mono fun _ _ ⟨h1, h2, _, h4⟩ => ⟨_, _, h1, h2, Nat.le_succ _, Nat.le_refl _, h4⟩
end Go.Proofs.YteogoddnefeleaaDoor
