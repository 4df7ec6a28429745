/- The document's bits: bit, Put, Of, Whole, Num: what they answer. -/
import Derived.Test.YtbfbpagfmhdblaaBitsC
import Derived.Deep.CutBlock
namespace Go.Proofs.Ytbfbpagfmhdblaa
open Go.RowKit
set_option linter.unusedSimpArgs false
set_option linter.unusedVariables false
set_option maxRecDepth 100000
def InvBit (w : World) (z i : Nat) (k : Nat) (a : Act) (wr : World) : Prop :=
  ∃ j : Nat, j + k = i ∧ wr = w ∧ a.tmps.size = 16 ∧ a.defers = [] ∧ slot a 0 = .int .u64 (z / 2 ^ j : Nat) ∧ slot a 1 = .int .i64 i ∧ slot a 5 = .int .i64 j
theorem refBit (w : World) (z i : Nat) (hz : z < 18446744073709551616) (hi : i ≤ 1000000) :
    Calls Try.prog 89 #[.int .u64 z, .int .i64 i] w fun e w' => e = .returned (.int .u8 (1 + (bitN z i : Nat))) ∧ w = w' := by
  go_enter Try.func89, Try.ntmps89
  go_wp2
  refine wp_loop_k (InvBit w z i) i ?_ ?_
  · refine ⟨0, by omega, rfl, by kernel_rfl, rfl, ?_, by kernel_rfl, by kernel_rfl⟩
    show Value.int _ _ = Value.int _ _
    simp
  · intro gk a wr hI K hK
    obtain ⟨j, hj, rfl, hs', hd', k0', k1', k5'⟩ := hI
    rw [fr16 a hs' hd']; simp only [k0', k1', k5']; clear hs' hd' k0' k1' k5'
    have hq : z / 2 ^ j ≤ z := Nat.div_le_self _ _
    have hd : z / 2 ^ (j + 1) = z / 2 ^ j / 2 := by rw [Nat.pow_succ, Nat.div_div_eq_div_mul]
    have hb : bitN z j = z / 2 ^ j % 2 := rfl
    replace hd := Lib.hid hd
    replace hb := Lib.hid hb
    generalize z / 2 ^ j = y at *
    by_cases hlt : j < i
    · go_wp2
      refine hK (i - (j + 1)) _ _ (by omega) ⟨j + 1, by omega, rfl, by kernel_rfl, rfl, ?_, by kernel_rfl, ?_⟩
      · show Value.int _ _ = Value.int _ _
        rw [hd.out]
        simp
      · show Value.int _ _ = Value.int _ _
        simp
    · obtain rfl : j = i := by omega
      by_cases h1 : y % 2 = 1
      · have e1 : ((y : Int) % 2 == 1) = true := by simp; omega
        have hx : Hid (bitN z j = 1) := by have := hb.out; show bitN z j = 1; omega
        clear h1
        go_wp2
        go_ret
        exact ⟨by rw [hx.out]; rfl, rfl⟩
      · have e1 : ((y : Int) % 2 == 1) = false := by simp; omega
        have hx : Hid (bitN z j = 0) := by have := hb.out; show bitN z j = 0; omega
        clear h1
        go_wp2
        go_ret
        exact ⟨by rw [hx.out]; rfl, rfl⟩
end Go.Proofs.Ytbfbpagfmhdblaa
