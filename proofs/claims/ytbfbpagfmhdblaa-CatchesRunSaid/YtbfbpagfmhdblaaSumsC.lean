/- Sums: Put; Concat, Grow, Clip, Clone off the shelf's own text. -/
import Derived.Test.YtbfbpagfmhdblaaSumsB
import Derived.Test.YtbfbpagfmhdblaaEqBytes
import Derived.Lib.AppendZeros
namespace Go.Proofs.Ytbfbpagfmhdblaa
open Go.RowKit
set_option linter.unusedSimpArgs false
set_option linter.unusedVariables false
set_option maxRecDepth 100000
theorem clipB (w : World) (a : Option Addr) (n c : Nat) (hn : n ≤ c) (hc : c ≤ 9223372036854775807) :
    Calls Try.prog 86 #[.slice a n c] w fun e w' => e = .returned (.slice a n n) ∧ w = w' := by
  go_enter Try.func86, Try.ntmps86
  go_wp2
  go_ret
  exact ⟨rfl, rfl⟩
/-- slices.Clone of bytes: nil of nil, else a list of its own. -/
theorem cloneB (w : World) (ao : Option Addr) (n c : Nat) (L : Nat → Int) (ha : Rd .u8 w ao n L) (hnil : ao = none → n = 0 ∧ c = 0) (hn : n ≤ 1000000000) :
    Calls Try.prog 90 #[.slice ao n c] w fun e w' => ∃ v, e = .returned v ∧ w'.ownsRow w.heap.size 5 1 v n (nums .u8 L n) ∧ Below w.heap.size w w' := by
  obtain ⟨i0, hi, hz0, hz1, hz2⟩ := info_parts elemHBytes
  replace ha := Lib.hid ha
  have hq := fun (W : World) => Lib.run_eql_slice_nil (P := Try.prog) W 29 5 ao n c 0 0 Try.underlying29
  cases ao with
  | none =>
    obtain ⟨rfl, rfl⟩ := hnil rfl
    go_enter Try.func90, Try.ntmps90
    go_wp2
    go_ret
    exact ⟨_, rfl, World.ownsRow_nil _ _ _ _, Below.refl _ _⟩
  | some ad =>
    clear hnil
    go_enter Try.func90, Try.ntmps90
    go_wp2_with (at_builtin; refine append_src rfl _ _ 29 rfl w.heap.size 5 i0 (.int .u8 0) 1 Try.underlying29 hi hz0 hz1 hz2 rfl _ 0 [] rfl (World.ownsRow_made _ _ 0 (Nat.le_refl _) (by unfold maxLen; omega) rfl) (some ad) n c (nums .u8 L n) rfl (by simp) (nums_len _ _ _) (nums_news (ha.out.below ((Below.refl _ _).alloc (Nat.le_refl _) _) (Nat.le_refl _))) (nums_one _ _ _) (by omega) (by omega) (by simp) ?_)
    intro v1 w1 hown1 hg1 _
    have hb1 : Below w.heap.size w w1 := Below.grown ((Below.refl _ _).alloc (Nat.le_refl _) _) hg1 (by simp) (by simp [Value.ownBlock])
    try simp only [Nat.zero_add, List.nil_append] at hown1
    clear hg1 ha
    go_wp2
    go_ret
    exact ⟨_, rfl, hown1, hb1⟩
/-- slices.Grow of nil. -/
theorem growB (w : World) (n : Nat) (hn : n ≤ 1000000) :
    Calls Try.prog 98 #[.slice none 0 0, .int .i64 n] w fun e w' => ∃ v, e = .returned v ∧ w'.ownsRow w.heap.size 5 1 v 0 [] ∧ Below w.heap.size w w' := by
  obtain ⟨i0, hi, hz0, hz1, hz2⟩ := info_parts elemHBytes
  have u1 : IntKind.i64.wrap (n : Int) = n := wrap_i64_small _ (by omega) (by omega)
  have g1 : decide ((n : Int) < 0) = false := by simp <;> omega
  rcases Nat.eq_zero_or_pos n with rfl | hp
  · go_enter Try.func98, Try.ntmps98
    go_wp2
    go_ret
    exact ⟨_, rfl, World.ownsRow_nil _ _ _ _, Below.refl _ _⟩
  · have g2 : decide (0 < (n : Int)) = true := by simp; omega
    have hu := Try.underlying29
    have happ := Lib.run_append_nil_zeros (P := Try.prog) w 29 3 29 5 i0 (.int .u8 0) .i64 .i64 Try.underlying29 Try.underlying3 hi hz0 n hp (by omega) (by omega) (by rw [hz2]; omega)
    have hcg : n ≤ grownCap w n 0 5 := grownCap_ge w _ 0 _
    have hcl : grownCap w n 0 5 ≤ maxLen := grownCap_le_maxLen w _ 0 _ (by unfold maxLen; omega)
    generalize grownCap w n 0 5 = cap at *
    generalize hZ : Builtin.zeroCells (Value.int .u8 0).cells n ++ Builtin.zeroCells (Value.int .u8 0).cells (cap - n) = Z at *
    have hZs : Z.size = cap := by rw [← hZ]; simp [size_zeroCells, Value.cells]; omega
    have hown := Lib.hid (World.ownsRow_made (base := w.heap.size) (e := 5) (size := 1) w.drew Z cap (Nat.le_refl _) hcl (by omega))
    have hbel := Lib.hid (show Below w.heap.size w (w.drew.alloc (.cells Z 5)) from (bdrewN (Below.refl _ w) 1).alloc (Nat.le_refl _) _)
    have hmx : cap ≤ 9223372036854775807 := by unfold maxLen at hcl; omega
    have hsz : w.drew.heap.size = w.heap.size := rfl
    clear hZ hcl
    go_enter Try.func98, Try.ntmps98
    go_wp2_with (at_builtin; refine Lib.wpList_append_run _ rfl _ _ _ _ rfl _ _ rfl rfl _ _ happ ?_)
    go_wp2
    go_ret
    exact ⟨_, rfl, hown.out, hbel.out⟩
end Go.Proofs.Ytbfbpagfmhdblaa
