/- Sums: add, Of. -/
import Derived.Test.YtbfbpagfmhdblaaProg
import Derived.Test.YtbfbpagfmhdblaaSpec02
import Derived.Test.YtbfbpagfmhdblaaFresh
import Derived.Laws.BitsAllLaws
namespace Go.Proofs.Ytbfbpagfmhdblaa
open Go.RowKit
set_option linter.unusedSimpArgs false
set_option linter.unusedVariables false
set_option maxRecDepth 100000
theorem bit31 (r : Nat) (h : r < 4294967296) : (bits .and .u32 (r : Int) 2147483648 != 0) = r.testBit 31 := by
  have e := u32_and_nat r 2147483648 h (by decide)
  rw [show ((2147483648 : Nat) : Int) = 2147483648 from rfl] at e
  rw [e]
  have e2 : r &&& 2147483648 = if r.testBit 31 then 2147483648 else 0 := by
    apply Nat.eq_of_testBit_eq
    intro i
    have h2 : (2147483648 : Nat).testBit i = decide (31 = i) := by
      have := Nat.testBit_two_pow (n := 31) (m := i)
      simpa using this
    rw [Nat.testBit_and, h2]
    by_cases hi : 31 = i
    · subst hi
      cases r.testBit 31 <;> decide
    · cases hb : r.testBit 31
      · simp [hi]
      · simp only [hi, decide_false, Bool.and_false, if_true]
        rw [h2]
        simp [hi]
  rw [e2]
  cases r.testBit 31 <;> decide
theorem shl1 (r : Nat) : IntKind.u32.wrap ((r : Int) * 2) = (((2 * r) % 4294967296 : Nat) : Int) := by
  rw [IntKind.wrap_u32]
  omega
def InvAdd (w : World) (g : Nat) (r : Nat) (k : Nat) (a : Act) (wr : World) : Prop :=
  ∃ j : Nat, j + k = 8 ∧ Touch [g] w wr ∧ Blk wr g #[.int .u32 (stepsN j r : Nat)] 137 ∧ a.tmps.size = 32 ∧ a.defers = [] ∧ slot a 0 = .pointer (some ⟨g, 0, none⟩) ∧ slot a 13 = .int .i64 j
/-- A byte more. -/
theorem sumsAdd (w : World) (g : Nat) (r : Nat) (x : Int) (hr : r < 4294967296) (hx : 0 ≤ x ∧ x < 256) (hB : Blk w g #[.int .u32 r] 137) :
    Calls Try.prog 99 #[.pointer (some ⟨g, 0, none⟩), .int .u8 x] w fun e w' => e = .returned (.tuple #[]) ∧
      Blk w' g #[.int .u32 (stepsN 8 (r ^^^ x.toNat * 16777216) : Nat)] 137 ∧ Touch [g] w w' := by
  obtain ⟨X, rfl⟩ : ∃ X : Nat, x = X := ⟨x.toNat, by omega⟩
  have u1 : IntKind.u32.wrap (X : Int) = X := by rw [IntKind.wrap_u32]; omega
  have u2 : IntKind.u32.wrap ((X : Int) * 16777216) = (X : Int) * 16777216 := by rw [IntKind.wrap_u32]; omega
  have u3 : bits .xor .u32 (r : Int) ((X : Int) * 16777216) = ((r ^^^ X * 16777216 : Nat) : Int) := by have := u32_xor_nat r (X * 16777216) hr (by omega); simpa using this
  have c0 := hB.cell (i := 0) rfl
  have c1 := hB.free 0
  rw [Int.toNat_natCast]
  have hlt := xor_lt32 hr (show X * 16777216 < 4294967296 by omega)
  have hB2 := hB.set 0 (.int .u32 (r ^^^ X * 16777216 : Nat))
  have hT := (Touch.refl [g] w).setCell (p := ⟨g, 0, none⟩) (.inl (by simp)) (.int .u32 (r ^^^ X * 16777216 : Nat))
  generalize r ^^^ X * 16777216 = s at *
  replace hB2 := Lib.hid hB2
  replace hT := Lib.hid hT
  go_enter Try.func99, Try.ntmps99
  go_wp2
  generalize w.setCell ⟨g, 0, none⟩ (.int .u32 (s : Nat)) = w1 at *
  clear c0 c1 u1 u2 u3 hB
  refine wp_loop_k (InvAdd w g s) 8 ?_ ?_
  · exact ⟨0, by omega, hT.out, hB2.out, by kernel_rfl, rfl, by kernel_rfl, by kernel_rfl⟩
  · intro gk a wr hI K hK
    clear hT hB2
    obtain ⟨j, hj, hT, hB, hs', hd', k0', k13'⟩ := hI
    rw [fr32 a hs' hd']; simp only [k0', k13']; clear hs' hd' k0' k13'
    by_cases hlj : j < 8
    · have g1 : decide ((j : Int) < 8) = true := by simp; omega
      have uj : IntKind.i64.wrap ((j : Int) + 1) = ((j + 1 : Nat) : Int) := wrap_i64_small _ (by omega) (by omega)
      have c0 := hB.cell (i := 0) rfl
      have c1 := hB.free 0
      have hs := stepsN_lt hlt j
      have e1 := bit31 _ hs
      have e2 := shl1 (stepsN j s)
      have hn : Hid (stepsN (j + 1) s = stepN (stepsN j s)) := rfl
      have hsl := stepN_lt (stepsN j s)
      cases hb : (stepsN j s).testBit 31 with
      | false =>
        have hst : stepN (stepsN j s) = (2 * stepsN j s) % 4294967296 := by simp [stepN, hb, polyIf]
        rw [hst] at hn
        rw [hb] at e1
        generalize stepsN j s = y at *
        generalize 2 * y % 4294967296 = z at *
        have hB3 := Lib.hid (hB.set 0 (.int .u32 (z : Nat)))
        have hT3 := Lib.hid (hT.setCell (p := ⟨g, 0, none⟩) (.inl (by simp)) (.int .u32 (z : Nat)))
        clear hb hst hB hT hs hsl
        go_wp2
        exact hK (8 - (j + 1)) _ _ (by omega) ⟨j + 1, by omega, hT3.out, by rw [hn.out]; exact hB3.out, by kernel_rfl, rfl, by kernel_rfl, by kernel_rfl⟩
      | true =>
        have hst : stepN (stepsN j s) = (2 * stepsN j s) % 4294967296 ^^^ 79764919 := by simp [stepN, hb, polyIf]
        have e3 := u32_xor_nat ((2 * stepsN j s) % 4294967296) 79764919 (Nat.mod_lt _ (by decide)) (by decide)
        rw [hst] at hn
        rw [hb] at e1
        generalize stepsN j s = y at *
        generalize 2 * y % 4294967296 = z at *
        rw [show ((79764919 : Nat) : Int) = 79764919 from rfl] at e3
        have hB3 := hB.set 0 (.int .u32 (z : Nat))
        have hT3 := hT.setCell (p := ⟨g, 0, none⟩) (.inl (by simp)) (.int .u32 (z : Nat))
        have hB4 := Lib.hid (hB3.set 0 (.int .u32 (z ^^^ 79764919 : Nat)))
        have hT4 := Lib.hid (hT3.setCell (p := ⟨g, 0, none⟩) (.inl (by simp)) (.int .u32 (z ^^^ 79764919 : Nat)))
        have c2 := hB3.cell (i := 0) rfl
        have c3 := hB3.free 0
        clear hb hst hB hT hs hsl hB3 hT3
        go_wp2
        exact hK (8 - (j + 1)) _ _ (by omega) ⟨j + 1, by omega, hT4.out, by rw [hn.out]; exact hB4.out, by kernel_rfl, rfl, by kernel_rfl, by kernel_rfl⟩
    · obtain rfl : j = 8 := by omega
      go_wp2
      go_end0
      exact ⟨rfl, hB, hT⟩
end Go.Proofs.Ytbfbpagfmhdblaa
