/- help.go: SameNums, whatever it answers. -/
import Derived.Test.YtodmkbbfmojifaaDoorProg
import Derived.Test.YtodmkbbfmojifaaDoorApp
namespace Go.Proofs.YtodmkbbfmojifaaDoor
open Go.RowKit
set_option linter.unusedSimpArgs false
set_option linter.unusedVariables false
set_option maxRecDepth 100000
def alikeNums (A B : Nat → Int) : Nat → Bool
  | 0 => true
  | i + 1 => alikeNums A B i && decide (A i = B i)
theorem alikeNums_true {A B : Nat → Int} : ∀ {n : Nat}, alikeNums A B n = true ↔ ∀ i, i < n → A i = B i
  | 0 => by simp [alikeNums]
  | n + 1 => by
    simp only [alikeNums, Bool.and_eq_true, alikeNums_true, decide_eq_true_eq]
    constructor
    · rintro ⟨h, e⟩ i hi
      rcases Nat.lt_succ_iff_lt_or_eq.1 hi with h1 | rfl
      · exact h i h1
      · exact e
    · exact fun h => ⟨fun i hi => h i (by omega), h n (by omega)⟩
theorem alikeNums_false {A B : Nat → Int} {n i : Nat} (hi : i < n) (h : A i ≠ B i) : alikeNums A B n = false := by
  cases h2 : alikeNums A B n with
  | false => rfl
  | true => exact absurd (alikeNums_true.1 h2 i hi) h
def InvAlikeNums (w : World) (aa ab : Option Addr) (n ca cb : Nat) (A B : Nat → Int) (k : Nat) (a : Act) (wr : World) : Prop :=
  ∃ i q : Nat, i + k = n ∧ wr = w.drewN q ∧ alikeNums A B i = true ∧ a.tmps.size = 26 ∧ a.defers = [] ∧ slot a 0 = .slice aa n ca ∧ slot a 1 = .slice ab n cb ∧ slot a 5 = .int .i64 i
set_option maxHeartbeats 400000 in
theorem whetherNums (w : World) (aa ab : Option Addr) (n m ca cb : Nat) (A B : Nat → Int) (ha : Rd .i64 w aa n A) (hb : Rd .i64 w ab m B) (hn : n ≤ 9223372036854775807) :
    Calls Tryd.prog 23 #[.slice aa n ca, .slice ab m cb] w fun e w' => e = .returned (.bool (decide (n = m) && alikeNums A B n)) ∧ ∃ q, w' = w.drewN q := by
  replace ha := Lib.hid ha
  replace hb := Lib.hid hb
  by_cases hnm : n = m
  · subst hnm
    have er : (decide (n = n) && alikeNums A B n) = alikeNums A B n := by simp
    rw [er]
    clear er
    go_enter Tryd.func23, Tryd.ntmps23
    go_wp2
    refine wp_loop_k (InvAlikeNums w aa ab n ca cb A B) n ?_ ?_
    · exact ⟨0, 0, by omega, rfl, rfl, by kernel_rfl, rfl, by kernel_rfl, by kernel_rfl, by kernel_rfl⟩
    · intro gk a wr hI K hK
      obtain ⟨i, q, hi, rfl, hal, hs', hd', k0', k1', k5'⟩ := hI
      rw [fr26 a hs' hd']; simp only [k0', k1', k5']; clear hs' hd' k0' k1' k5'
      replace hal := Lib.hid hal
      by_cases hlt : i < n
      · obtain ⟨b, o, rfl, hc⟩ := ha.out i hlt
        obtain ⟨b', o', rfl, hc'⟩ := hb.out i hlt
        have hin : (i : Int) < n := by omega
        have hwi : IntKind.i64.wrap (i : Int) = i := by rw [IntKind.wrap_i64]; omega
        by_cases hab : A i = B i
        · have hne : (A i != B i) = false := by simp [hab]
          replace hal := Lib.hid (show alikeNums A B (i + 1) = true by simp [alikeNums, hal.out, hab])
          clear hab
          go_wp2_with fail
          go_quiet (fail)
          go_wp2
          refine hK (n - (i + 1)) _ _ (by omega) ⟨i + 1, _, by omega, rfl, hal.out, by kernel_rfl, rfl, by kernel_rfl, by kernel_rfl, ?_⟩
          show Value.int _ _ = Value.int _ _
          simp
        · have hne : (A i != B i) = true := by simp [hab]
          have hal2 := Lib.hid (alikeNums_false hlt hab)
          clear hab
          go_wp2_with fail
          go_quiet (fail)
          go_wp2
          go_ret
          exact ⟨by rw [hal2.out]; rfl, _, World.drewN_drewN _ _ _⟩
      · obtain rfl : i = n := by omega
        go_wp2
        go_ret
        exact ⟨by rw [hal.out]; rfl, _, rfl⟩
  · have er : (decide (n = m) && alikeNums A B n) = false := by simp [hnm]
    rw [er]
    have hne : ((n : Int) != (m : Int)) = true := by simp; omega
    clear er
    go_enter Tryd.func23, Tryd.ntmps23
    go_wp2
    go_ret
    exact ⟨rfl, 0, rfl⟩
end Go.Proofs.YtodmkbbfmojifaaDoor
