/- CatchesVoid: the walk. -/
import Derived.Test.YtbfbpagfmhdblaaCatchG
import Derived.Laws.StructEq
namespace Go.Proofs.Ytbfbpagfmhdblaa
open Go.RowKit
set_option linter.unusedSimpArgs false
set_option linter.unusedVariables false
set_option maxRecDepth 100000
/-- A catch that is not there, or that no call made. -/
def VoidAt (w : World) (p : Option Addr) : Prop := p = none ∨ ∃ b, p = some ⟨b, 0, none⟩ ∧ Ct w b 0 .nilFunc (.slice none 0 0) 0 0 false false false
theorem voidHigh (w : World) (p : Option Addr) (h : VoidAt w p) : Calls Try.prog 48 #[.pointer p] w fun e w' => e = .returned (.tuple #[frV 0 0 0 0 0, .bool false]) ∧ Below w.heap.size w w' := by
  rcases h with rfl | ⟨b, rfl, h⟩
  · unfold frV
    go_enter Try.func48, Try.ntmps48
    go_wp2
    refine bodyPost_ret (v := .tuple #[.agg #[.int .i64 0, .int .u8 0, .int .u8 0, .int .u32 0, .int .u32 0], .bool false]) (by simp [results, Try.results48, go_sem]) rfl ⟨rfl, below_alloc _ _⟩
  · exact catchHighNo w b 0 .nilFunc _ 0 0 false false h
theorem voidStep (w : World) (p : Option Addr) (x y : Int) (h : VoidAt w p) : Calls Try.prog 45 #[.pointer p, .int .u8 x, .int .u8 y] w fun e w' => e = .returned (.int .u8 0) ∧ w = w' := by
  have q2 := eql_nilFunc
  rcases h with rfl | ⟨b, rfl, h⟩
  · go_enter Try.func45, Try.ntmps45
    go_wp2
    go_ret
    exact ⟨rfl, rfl⟩
  · obtain ⟨⟨c0, c1, c2, c3, c4, c5, c6, c7⟩, _, hlt⟩ := h.cells
    clear h
    go_enter Try.func45, Try.ntmps45
    go_wp2
    go_ret
    exact ⟨rfl, rfl⟩
theorem voidHad (w : World) (p : Option Addr) (h : VoidAt w p) : Calls Try.prog 47 #[.pointer p] w fun e w' => e = .returned (.int .i64 0) ∧ w = w' := by
  rcases h with rfl | ⟨b, rfl, h⟩
  · go_enter Try.func47, Try.ntmps47
    go_wp2
    go_ret
    exact ⟨rfl, rfl⟩
  · exact catchHad w b _ _ _ _ _ _ _ _ h
theorem voidUnlike (w : World) (p : Option Addr) (h : VoidAt w p) : Calls Try.prog 50 #[.pointer p] w fun e w' => e = .returned (.int .i64 (-1)) ∧ w = w' := by
  have q2 := eql_nilFunc
  rcases h with rfl | ⟨b, rfl, h⟩
  · go_enter Try.func50, Try.ntmps50
    go_wp2
    go_ret
    exact ⟨rfl, rfl⟩
  · obtain ⟨⟨c0, c1, c2, c3, c4, c5, c6, c7⟩, _, hlt⟩ := h.cells
    clear h
    go_enter Try.func50, Try.ntmps50
    go_wp2
    go_ret
    exact ⟨rfl, rfl⟩
def pV (z i : Nat) : Option Addr := if i = 0 then none else some ⟨z, 0, none⟩
def InvV (w2 : World) (l : Nat) (x y : Int) (k : Nat) (a : Act) (wr : World) : Prop :=
  ∃ i : Nat, i + k = 2 ∧ Below w2.heap.size w2 wr ∧ a.tmps.size = 61 ∧ a.defers = [] ∧ slot a 0 = .int .u8 x ∧ slot a 1 = .int .u8 y ∧ slot a 6 = .slice (some ⟨l, 0, none⟩) 2 2 ∧ slot a 7 = .int .i64 i
def InvV2 (w2 : World) (l : Nat) (x y : Int) (i : Nat) (k : Nat) (a : Act) (wr : World) : Prop :=
  ∃ j : Nat, j + k = 3 ∧ Below w2.heap.size w2 wr ∧ a.tmps.size = 61 ∧ a.defers = [] ∧ slot a 0 = .int .u8 x ∧ slot a 1 = .int .u8 y ∧ slot a 6 = .slice (some ⟨l, 0, none⟩) 2 2 ∧ slot a 7 = .int .i64 i ∧ slot a 8 = .int .i64 j
set_option maxHeartbeats 4000000 in
theorem catchesVoid_any (w : World) (x y : Int) : Calls Try.prog 12 #[.int .u8 x, .int .u8 y] w fun e w' => e = .returned (.bool true) ∧ Below w.heap.size w w' := by
  have hZ1 := Blk.new w #[.int .i64 0, .nilFunc, .slice none 0 0, .int .i64 0, .int .i64 0, .bool false, .bool false, .bool false] 102
  have hb1 := below_alloc w (.cells #[.int .i64 0, .nilFunc, .slice none 0 0, .int .i64 0, .int .i64 0, .bool false, .bool false, .bool false] 102)
  go_enter Try.func12, Try.ntmps12
  go_wp2_with fail
  have hZ2 := hZ1.alloc (.cells #[.pointer none, .pointer (some ⟨w.heap.size, 0, none⟩)] 85)
  have hL2 : Blk ((w.alloc (.cells #[.int .i64 0, .nilFunc, .slice none 0 0, .int .i64 0, .int .i64 0, .bool false, .bool false, .bool false] 102)).alloc (.cells #[.pointer none, .pointer (some ⟨w.heap.size, 0, none⟩)] 85)) (w.heap.size + 1) #[.pointer none, .pointer (some ⟨w.heap.size, 0, none⟩)] 85 := by
    have := Blk.new (w.alloc (.cells #[.int .i64 0, .nilFunc, .slice none 0 0, .int .i64 0, .int .i64 0, .bool false, .bool false, .bool false] 102)) #[.pointer none, .pointer (some ⟨w.heap.size, 0, none⟩)] 85
    simpa using this
  have hb2 := bthen hb1 (below_alloc (w.alloc (.cells #[.int .i64 0, .nilFunc, .slice none 0 0, .int .i64 0, .int .i64 0, .bool false, .bool false, .bool false] 102)) (.cells #[.pointer none, .pointer (some ⟨w.heap.size, 0, none⟩)] 85))
  generalize (w.alloc (.cells #[.int .i64 0, .nilFunc, .slice none 0 0, .int .i64 0, .int .i64 0, .bool false, .bool false, .bool false] 102)).alloc (.cells #[.pointer none, .pointer (some ⟨w.heap.size, 0, none⟩)] 85) = w2 at *
  have hcl : Hid (∀ W, Below w2.heap.size w2 W → ∀ i, i < 2 → W.cell? ⟨w.heap.size + 1, i, none⟩ = some (.pointer (pV w.heap.size i)) ∧ VoidAt W (pV w.heap.size i)) := fun W hb i hi => by
    have h1 := hL2.below hb hL2.lt
    obtain rfl | rfl : i = 0 ∨ i = 1 := by omega
    · exact ⟨h1.cell (i := 0) rfl, .inl rfl⟩
    · exact ⟨h1.cell (i := 1) rfl, .inr ⟨_, rfl, Blk.below hZ2 hb hZ2.lt⟩⟩
  clear hZ1 hb1 hL2 hZ2
  refine wp_loop_k (InvV w2 (w.heap.size + 1) x y) 2 ?_ ?_
  · exact ⟨0, by omega, Below.refl _ _, by kernel_rfl, rfl, by kernel_rfl, by kernel_rfl, by kernel_rfl, by kernel_rfl⟩
  intro gk a wr hI K hK
  obtain ⟨i, hi, hbw, hs', hd', k0', k1', k6', k7'⟩ := hI
  rw [fr61 a hs' hd']; simp only [k0', k1', k6', k7']; clear hs' hd' k0' k1' k6' k7'
  by_cases hil : i < 2
  · have g1 : decide ((i : Int) < 2) = true := by simp; omega
    have g2 : (i : Int) < 2 := by omega
    go_wp2_with fail
    refine wp_loop_k (InvV2 w2 (w.heap.size + 1) x y i) 3 ?_ ?_
    · exact ⟨0, by omega, hbw, by kernel_rfl, rfl, by kernel_rfl, by kernel_rfl, by kernel_rfl, by kernel_rfl, by kernel_rfl⟩
    clear hbw
    intro gk2 a wr2 hI2 K2 hK2
    obtain ⟨j, hj, hbw, hs', hd', k0', k1', k6', k7', k8'⟩ := hI2
    rw [fr61 a hs' hd']; simp only [k0', k1', k6', k7', k8']; clear hs' hd' k0' k1' k6' k7' k8'
    by_cases hjl : j < 3
    · have g3 : decide ((j : Int) < 3) = true := by simp; omega
      have hci := Lib.hid (fun W hb => hcl.out W hb i hil)
      generalize pV w.heap.size i = p at hci
      have hp := (hci.out _ hbw).1
      go_wp2_with fail
      refine (voidHigh _ _ (hci.out _ hbw).2).mono ?_
      rintro e w3 ⟨rfl, hb3⟩
      have hb23 := bthen hbw hb3
      have hF4 := Blk.new w3 #[.int .i64 0, .int .u8 0, .int .u8 0, .int .u32 0, .int .u32 0] 34
      have hb24 := bthen hb23 (below_alloc w3 (.cells #[.int .i64 0, .int .u8 0, .int .u8 0, .int .u32 0, .int .u32 0] 34))
      have hp4 := (hci.out _ hb24).1
      have hp3 := (hci.out _ hb23).1
      unfold frV
      clear hp
      obtain ⟨⟨c0, c1, c2, c3, c4⟩, _⟩ := fr_cells hF4
      go_wp2_with fail
      refine (voidStep _ _ _ _ (hci.out _ hb24).2).mono ?_
      rintro e _ ⟨rfl, rfl⟩
      go_wp2_with fail
      refine (voidHad _ _ (hci.out _ hb24).2).mono ?_
      rintro e _ ⟨rfl, rfl⟩
      go_wp2_with fail
      refine (voidUnlike _ _ (hci.out _ hb24).2).mono ?_
      rintro e _ ⟨rfl, rfl⟩
      go_wp2_with fail
      exact hK2 (3 - (j + 1)) _ _ (by omega) ⟨j + 1, by omega, hb24, by kernel_rfl, rfl, by kernel_rfl, by kernel_rfl, by kernel_rfl, by kernel_rfl, by kernel_rfl⟩
    · have g3 : decide ((j : Int) < 3) = false := by simp; omega
      go_wp2_with fail
      exact hK (2 - (i + 1)) _ _ (by omega) ⟨i + 1, by omega, hbw, by kernel_rfl, rfl, by kernel_rfl, by kernel_rfl, by kernel_rfl, by kernel_rfl⟩
  · have g1 : decide ((i : Int) < 2) = false := by simp; omega
    go_wp2_with fail
    refine (lives09 wr).mono ?_
    rintro e w9 ⟨rfl, hb9⟩
    go_wp2_with fail
    go_ret
    exact ⟨rfl, bthen (bthen hb2 hbw) hb9⟩
end Go.Proofs.Ytbfbpagfmhdblaa
