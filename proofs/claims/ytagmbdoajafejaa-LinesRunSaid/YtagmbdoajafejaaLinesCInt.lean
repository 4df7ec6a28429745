/- Lines: Way, and Ticks. -/
import Derived.Test.YtagmbdoajafejaaLinesAInt
namespace Go.Proofs.Ytagmbdoajafejaa
open Go.RowKit
set_option linter.unusedSimpArgs false
theorem elemInt : (Try.prog.info? 3).map (fun i => (i.zero, i.size, i.bytes)) = some (some (.int .i64 0), 1, 8) := by kernel_rfl
theorem ticksInt (w : World) (bL bW hop : Nat) (cs : List Value) (t : Int) (hp : 0 < hop) (h : LineInt w bL bW hop cs t) :
    Calls Try.prog 24 #[.pointer (some ⟨bL, 0, none⟩)] w fun e w' => e = .returned (.int .i64 t) ∧ w = w' := by
  have : (0:Int) < hop := by omega
  have c0 := h.1.cell (i := 0) rfl
  have c1 := h.1.cell (i := 1) rfl
  clear h
  go_enter Try.func24, Try.ntmps24
  go_wp2
  go_ret
  exact ⟨rfl, rfl⟩
theorem wayInt_1 (w : World) (bL bW : Nat) (c0 c1 : Value) (t : Int) (h : LineInt w bL bW 1 [c0, c1] t) :
    Calls Try.prog 17 #[.pointer (some ⟨bL, 0, none⟩)] w fun e w' => e = .returned (.slice none 0 0) ∧ w = w' := by
  have d1 := h.1.cell (i := 0) rfl
  clear h
  go_enter Try.func17, Try.ntmps17
  go_wp2
  go_rounds 1
  go_ret
  exact ⟨rfl, rfl⟩
set_option maxRecDepth 100000 in
theorem wayInt_2_no (w : World) (bL bW : Nat) (c0 c1 : Value) (y : Int) (t : Int) (h : LineInt w bL bW 2 [c0, c1, .int .i64 y, .bool false] t) :
    Calls Try.prog 17 #[.pointer (some ⟨bL, 0, none⟩)] w fun e w' => e = .returned (.slice none 0 0) ∧ Below w.heap.size w w' := by
  have d1 := h.1.cell (i := 0) rfl
  have c2' := h.2.cell (i := 2) (v := .int .i64 y) (by simp)
  have c3' := h.2.cell (i := 3) (v := .bool false) (by simp)
  have l1 := h.1.lt
  have l2 := h.2.lt
  clear h
  go_enter Try.func17, Try.ntmps17
  go_wp2
  go_rounds 2
  go_ret
  exact ⟨rfl, (Below.refl _ _).alloc (Nat.le_refl _) _⟩
set_option maxRecDepth 100000 in
set_option maxHeartbeats 400000 in
theorem wayInt_2_yes (w : World) (bL bW : Nat) (c0 c1 : Value) (y : Int) (t : Int) (h : LineInt w bL bW 2 [c0, c1, .int .i64 y, .bool true] t) :
    Calls Try.prog 17 #[.pointer (some ⟨bL, 0, none⟩)] w fun e w' => ∃ g, e = .returned (.slice (some ⟨g, 0, none⟩) 1 1) ∧ Below w.heap.size w w' ∧ w.heap.size ≤ g ∧
      ∃ cur, Blk w' g cur 3 ∧ cur[0]? = some (.int .i64 y) := by
  have d1 := h.1.cell (i := 0) rfl
  have c2' := h.2.cell (i := 2) (v := .int .i64 y) (by simp)
  have c3' := h.2.cell (i := 3) (v := .bool true) (by simp)
  have l1 := h.1.lt
  have l2 := h.2.lt
  obtain ⟨i0, hi, hz0, hz1, hz2⟩ := info_parts elemInt
  clear h
  go_enter Try.func17, Try.ntmps17
  go_wp2
  refine wp_loop_rounds 2 ?_
  rw [rounds_succ]
  go_wp2_with (at_builtin; refine wpList_append_own _ rfl _ _ 41 rfl (w.heap.size + 2) 3 i0 (.int .i64 0) 1 8 Try.underlying41 hi hz0 hz1 hz2 rfl (by decide) _ _ _ rfl (World.ownsRow_nil _ _ _ _) ⟨w.heap.size + 1, 0, none⟩ 1 1 [.int .i64 y] rfl rfl ?c1 ?c2 ?c3 ?c4 ?c5 ?_)
  case c1 =>
    intro j u hj
    match j, hj with
    | 0, hj =>
      simp at hj
      subst hj
      simp [Addr.add, go_sem]
  case c2 =>
    intro u hu
    simp at hu
    subst hu
    rfl
  case c3 => unfold maxLen; omega
  case c4 => omega
  case c5 => simp
  intro v' w1 hown hg hne
  have hex : ∃ g cap cur, v' = .slice (some ⟨g, 0, none⟩) 1 cap ∧ w.heap.size + 2 ≤ g ∧ Blk w1 g cur 3 ∧ 1 ≤ cap ∧ cur[0]? = some (.int .i64 y) := by
    rcases hown.2 with ⟨h1, _⟩ | ⟨g, cap, cur, h1, h2, h3, h4, h5, h6, h7⟩
    · exact absurd h1 hne
    · refine ⟨g, cap, cur, h1, h2, h3, h4, ?_⟩
      have := congrArg (fun l => l[0]?) h7
      simpa using this
  obtain ⟨g, cap, cur, rfl, hg1, hblk, hcap, hcur⟩ := hex
  have hb : Below w.heap.size w w1 := Below.grown (((Below.refl _ _).alloc (Nat.le_refl _) _).alloc (by simp) _) hg (by simp; omega) (by simp [Value.ownBlock])
  clear hown hg hne
  go_wp2
  rw [rounds_succ]
  go_wp2
  go_ret
  exact ⟨g, rfl, hb, by omega, cur, hblk, hcur⟩
theorem sendInt_many (w : World) (bL bW hop : Nat) (cs : List Value) (t : Int) (ad : Option Addr) (n cap : Nat) (hn : 1 < n) (hp : 0 < hop) (h : LineInt w bL bW hop cs t) :
    Calls Try.prog 22 #[.pointer (some ⟨bL, 0, none⟩), .slice ad n cap] w fun e w' => e = .returned (.int .i64 1) ∧ w = w' := by
  have hp' : (0 : Int) < hop := by omega
  have hn' : (1 : Int) < n := by omega
  have d1 := h.1.cell (i := 0) rfl
  clear h
  go_enter Try.func22, Try.ntmps22
  go_wp2
  go_ret
  exact ⟨rfl, rfl⟩
end Go.Proofs.Ytagmbdoajafejaa
