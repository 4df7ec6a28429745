/- WiresVoid: the walk. -/
import Derived.Test.YteogoddnefeleaaDoorWiresF
namespace Go.Proofs.YteogoddnefeleaaDoor
open Go.RowKit Go.Maps
set_option linter.unusedSimpArgs false
set_option linter.unusedVariables false
set_option maxRecDepth 100000
def actV (kd lk x dr nd hp : Int) : Value := .agg #[.int .u8 kd, .int .i64 lk, .int .i64 x, .int .u8 dr, .int .i64 nd, .int .i64 hp]
theorem act_cells {W : World} {g : Nat} {t : TypeId} {a b c d e f : Value} (h : Blk W g #[a, b, c, d, e, f] t) :
    W.cell? ⟨g, 0, none⟩ = some a ∧ W.cell? ⟨g, 1, none⟩ = some b ∧ W.cell? ⟨g, 2, none⟩ = some c ∧ W.cell? ⟨g, 3, none⟩ = some d ∧ W.cell? ⟨g, 4, none⟩ = some e ∧ W.cell? ⟨g, 5, none⟩ = some f :=
  ⟨h.cell (i := 0) rfl, h.cell (i := 1) rfl, h.cell (i := 2) rfl, h.cell (i := 3) rfl, h.cell (i := 4) rfl, h.cell (i := 5) rfl⟩
def wpV (z i : Nat) : Option Addr := if i = 0 then none else some ⟨z, 0, none⟩
def InvWV (w2 : World) (g l : Nat) (k : Nat) (a : Act) (wr : World) : Prop :=
  ∃ i : Nat, i + k = 2 ∧ wr = w2 ∧ a.tmps.size = 77 ∧ a.defers = [] ∧ slot a 1 = .pointer (some ⟨g, 0, none⟩) ∧ slot a 4 = .slice (some ⟨l, 0, none⟩) 2 2 ∧ slot a 5 = .int .i64 i
set_option maxHeartbeats 4000000 in
theorem wiresVoid_any (w : World) (kd lk x dr nd hp : Int) (hs : Signs w) : Calls Tryd.prog 14 #[actV kd lk x dr nd hp] w fun e w' => e = .returned (.bool true) ∧ Below w.heap.size w w' := by
  unfold actV
  replace hs := Lib.hid hs
  go_enter Tryd.func14, Tryd.ntmps14
  go_wp2_with fail
  have hb2 : Below w.heap.size w (((w.alloc (.cells #[.int .u8 kd, .int .i64 lk, .int .i64 x, .int .u8 dr, .int .i64 nd, .int .i64 hp] 66)).alloc (.cells #[.map none, .int .i64 0, .map none, .int .i64 0] 80)).alloc (.cells #[.pointer none, .pointer (some ⟨w.heap.size + 1, 0, none⟩)] 49)) :=
    ((below_alloc _ _).trans ((below_alloc _ _).mono (by simp))).trans ((below_alloc _ _).mono (by simp; omega))
  have hA2 : Blk (((w.alloc (.cells #[.int .u8 kd, .int .i64 lk, .int .i64 x, .int .u8 dr, .int .i64 nd, .int .i64 hp] 66)).alloc (.cells #[.map none, .int .i64 0, .map none, .int .i64 0] 80)).alloc (.cells #[.pointer none, .pointer (some ⟨w.heap.size + 1, 0, none⟩)] 49)) w.heap.size #[.int .u8 kd, .int .i64 lk, .int .i64 x, .int .u8 dr, .int .i64 nd, .int .i64 hp] 66 := ((Blk.new w _ _).alloc _).alloc _
  have hZ2 : Blk (((w.alloc (.cells #[.int .u8 kd, .int .i64 lk, .int .i64 x, .int .u8 dr, .int .i64 nd, .int .i64 hp] 66)).alloc (.cells #[.map none, .int .i64 0, .map none, .int .i64 0] 80)).alloc (.cells #[.pointer none, .pointer (some ⟨w.heap.size + 1, 0, none⟩)] 49)) (w.heap.size + 1) #[.map none, .int .i64 0, .map none, .int .i64 0] 80 := by
    have := (Blk.new (w.alloc (.cells #[.int .u8 kd, .int .i64 lk, .int .i64 x, .int .u8 dr, .int .i64 nd, .int .i64 hp] 66)) #[.map none, .int .i64 0, .map none, .int .i64 0] 80).alloc (.cells #[.pointer none, .pointer (some ⟨w.heap.size + 1, 0, none⟩)] 49)
    simpa using this
  have hL2 : Blk (((w.alloc (.cells #[.int .u8 kd, .int .i64 lk, .int .i64 x, .int .u8 dr, .int .i64 nd, .int .i64 hp] 66)).alloc (.cells #[.map none, .int .i64 0, .map none, .int .i64 0] 80)).alloc (.cells #[.pointer none, .pointer (some ⟨w.heap.size + 1, 0, none⟩)] 49)) (w.heap.size + 2) #[.pointer none, .pointer (some ⟨w.heap.size + 1, 0, none⟩)] 49 := by
    have := Blk.new ((w.alloc (.cells #[.int .u8 kd, .int .i64 lk, .int .i64 x, .int .u8 dr, .int .i64 nd, .int .i64 hp] 66)).alloc (.cells #[.map none, .int .i64 0, .map none, .int .i64 0] 80)) #[.pointer none, .pointer (some ⟨w.heap.size + 1, 0, none⟩)] 49
    have e : ((w.alloc (.cells #[.int .u8 kd, .int .i64 lk, .int .i64 x, .int .u8 dr, .int .i64 nd, .int .i64 hp] 66)).alloc (.cells #[.map none, .int .i64 0, .map none, .int .i64 0] 80)).heap.size = w.heap.size + 2 := by simp
    rw [e] at this
    exact this
  generalize ((w.alloc (.cells #[.int .u8 kd, .int .i64 lk, .int .i64 x, .int .u8 dr, .int .i64 nd, .int .i64 hp] 66)).alloc (.cells #[.map none, .int .i64 0, .map none, .int .i64 0] 80)).alloc (.cells #[.pointer none, .pointer (some ⟨w.heap.size + 1, 0, none⟩)] 49) = w2 at *
  have hcl : Hid (∀ i, i < 2 → w2.cell? ⟨w.heap.size + 2, i, none⟩ = some (.pointer (wpV (w.heap.size + 1) i)) ∧ VoidW w2 (wpV (w.heap.size + 1) i)) := fun i hi => by
    obtain rfl | rfl : i = 0 ∨ i = 1 := by omega
    · exact ⟨hL2.cell (i := 0) rfl, .inl rfl⟩
    · exact ⟨hL2.cell (i := 1) rfl, .inr ⟨_, _, _, rfl, hZ2⟩⟩
  obtain ⟨a0, a1, a2, a3, a4, a5⟩ := act_cells hA2
  clear hL2 hZ2 hA2
  refine wp_loop_k (InvWV w2 w.heap.size (w.heap.size + 2)) 2 ?_ ?_
  · exact ⟨0, by omega, rfl, by kernel_rfl, rfl, by kernel_rfl, by kernel_rfl, by kernel_rfl⟩
  intro gk a wr hI K hK
  obtain ⟨i, hi, rfl, hs', hd', k1', k4', k5'⟩ := hI
  rw [fr77 a hs' hd']; simp only [k1', k4', k5']; clear hs' hd' k1' k4' k5'
  by_cases hil : i < 2
  · have g1 : decide ((i : Int) < 2) = true := by simp; omega
    have g2 : (i : Int) < 2 := by omega
    obtain ⟨hp', hv⟩ := hcl.out i hil
    generalize wpV (w.heap.size + 1) i = p at hp' hv
    replace hv := Lib.hid hv
    go_wp2_with fail
    refine (vHere _ _ _ _ _ hv.out).mono ?_
    rintro e _ ⟨rfl, rfl⟩
    go_wp2_with fail
    refine (vGiven _ _ _ hv.out).mono ?_
    rintro e _ ⟨rfl, rfl⟩
    go_wp2_with fail
    refine (vGive _ _ _ _ hv.out).mono ?_
    rintro e _ ⟨rfl, rfl⟩
    go_wp2_with fail
    refine (vTake _ _ _ hv.out).mono ?_
    rintro e _ ⟨rfl, rfl⟩
    go_wp2_with fail
    refine (vEnd _ _ hv.out).mono ?_
    rintro e _ ⟨rfl, rfl⟩
    go_wp2_with fail
    refine (vTicks _ _ hv.out).mono ?_
    rintro e _ ⟨rfl, rfl⟩
    go_wp2_with fail
    exact hK (2 - (i + 1)) _ _ (by omega) ⟨i + 1, by omega, rfl, by kernel_rfl, rfl, by kernel_rfl, by kernel_rfl, by kernel_rfl⟩
  · have g1 : decide ((i : Int) < 2) = false := by simp; omega
    go_wp2_with fail
    refine (lives08 _ (hs.out.to hb2)).mono ?_
    rintro e w9 ⟨rfl, hb9⟩
    go_wp2_with fail
    go_ret
    exact ⟨rfl, bthen hb2 hb9⟩
end Go.Proofs.YteogoddnefeleaaDoor
