/- Bits: Clone, Whole, Num: what they answer. -/
import Derived.Test.YtbfbpagfmhdblaaProg
import Derived.Test.YtbfbpagfmhdblaaFresh
import Derived.Test.YtbfbpagfmhdblaaSpec01
namespace Go.Proofs.Ytbfbpagfmhdblaa
open Go.RowKit
set_option linter.unusedSimpArgs false
set_option linter.unusedVariables false
theorem elemS : (Try.prog.info? 77).map (fun i => (i.zero, i.size, i.bytes)) = some (some (.int .u8 0), 1, 1) := by kernel_rfl
set_option maxRecDepth 100000
/-- slices.Clone of symbols: nil of nil, else a list of its own. -/
theorem cloneSyms (w : World) (ao : Option Addr) (n c : Nat) (L : Nat → Int) (ha : Rd .u8 w ao n L) (hnil : ao = none → n = 0 ∧ c = 0) (hn : n ≤ 1000000000) :
    Calls Try.prog 74 #[.slice ao n c] w fun e w' => ∃ v, e = .returned v ∧ w'.ownsRow w.heap.size 77 1 v n (nums .u8 L n) ∧ Below w.heap.size w w' := by
  obtain ⟨i0, hi, hz0, hz1, hz2⟩ := info_parts elemS
  replace ha := Lib.hid ha
  have hq := fun (W : World) => Lib.run_eql_slice_nil (P := Try.prog) W 40 77 ao n c 0 0 Try.underlying40
  cases ao with
  | none =>
    obtain ⟨rfl, rfl⟩ := hnil rfl
    go_enter Try.func74, Try.ntmps74
    go_wp2
    go_ret
    exact ⟨_, rfl, World.ownsRow_nil _ _ _ _, Below.refl _ _⟩
  | some ad =>
    clear hnil
    go_enter Try.func74, Try.ntmps74
    go_wp2_with (at_builtin; refine append_src rfl _ _ 40 rfl w.heap.size 77 i0 (.int .u8 0) 1 Try.underlying40 hi hz0 hz1 hz2 rfl _ 0 [] rfl (World.ownsRow_made _ _ 0 (Nat.le_refl _) (by unfold maxLen; omega) rfl) (some ad) n c (nums .u8 L n) rfl (by simp) (nums_len _ _ _) (nums_news (ha.out.below ((Below.refl _ _).alloc (Nat.le_refl _) _) (Nat.le_refl _))) (nums_one _ _ _) (by omega) (by omega) (by simp) ?_)
    intro v1 w1 hown1 hg1 _
    have hb1 : Below w.heap.size w w1 := Below.grown ((Below.refl _ _).alloc (Nat.le_refl _) _) hg1 (by simp) (by simp [Value.ownBlock])
    try simp only [Nat.zero_add, List.nil_append] at hown1
    clear hg1 ha
    go_wp2
    go_ret
    exact ⟨_, rfl, hown1, hb1⟩
def firstBad (L : Nat → Int) (n : Nat) (r : Int) : Prop := (r = -1 ∧ wholeL L n = true) ∨ (0 ≤ r ∧ wholeL L n = false)
def InvIdx (w : World) (ao : Option Addr) (n c : Nat) (L : Nat → Int) (k : Nat) (a : Act) (wr : World) : Prop :=
  ∃ i : Nat, i + k = n ∧ wr = w ∧ wholeL L i = true ∧ a.tmps.size = 19 ∧ a.defers = [] ∧ slot a 0 = .slice ao n c ∧ slot a 1 = .func (.func 93) #[] #[] ∧ slot a 6 = .slice ao n c ∧ slot a 7 = .int .i64 n ∧ slot a 8 = .int .i64 i
set_option maxHeartbeats 400000 in
theorem indexBad (w : World) (ao : Option Addr) (n c : Nat) (L : Nat → Int) (ha : Rd .u8 w ao n L) (hn : n ≤ 1000000000) :
    Calls Try.prog 100 #[.slice ao n c, .func (.func 93) #[] #[]] w fun e w' => (∃ r, e = .returned (.int .i64 r) ∧ firstBad L n r) ∧ w = w' := by
  replace ha := Lib.hid ha
  go_enter Try.func100, Try.ntmps100
  go_wp2
  refine wp_loop_k (InvIdx w ao n c L) n ?_ ?_
  · exact ⟨0, by omega, rfl, rfl, by kernel_rfl, rfl, by kernel_rfl, by kernel_rfl, by kernel_rfl, by kernel_rfl, by kernel_rfl⟩
  · intro gk a wr hI K hK
    obtain ⟨i, hi, rfl, hw, hs', hd', k0', k1', k6', k7', k8'⟩ := hI
    rw [fr19 a hs' hd']; simp only [k0', k1', k6', k7', k8']; clear hs' hd' k0' k1' k6' k7' k8'
    replace hw := Lib.hid hw
    by_cases hlt : i < n
    · obtain ⟨b, o, rfl, hc⟩ := ha.out i hlt
      have hin : (i : Int) < n := by omega
      by_cases h1 : L i = 1
      · have e1 : (L i == 1) = true := by simp [h1]
        have hw' := Lib.hid (show wholeL L (i + 1) = true by simp [wholeL, hw.out, h1])
        clear h1
        go_wp2
        refine hK (n - (i + 1)) _ _ (by omega) ⟨i + 1, by omega, rfl, hw'.out, by kernel_rfl, rfl, by kernel_rfl, by kernel_rfl, by kernel_rfl, by kernel_rfl, ?_⟩
        show Value.int _ _ = Value.int _ _
        simp
      · have e1 : (L i == 1) = false := by simp [h1]
        by_cases h2 : L i = 2
        · have e2 : (L i == 2) = true := by simp [h2]
          have hw' := Lib.hid (show wholeL L (i + 1) = true by simp [wholeL, hw.out, h2])
          clear h1 h2
          go_wp2
          refine hK (n - (i + 1)) _ _ (by omega) ⟨i + 1, by omega, rfl, hw'.out, by kernel_rfl, rfl, by kernel_rfl, by kernel_rfl, by kernel_rfl, by kernel_rfl, ?_⟩
          show Value.int _ _ = Value.int _ _
          simp
        · have e2 : (L i == 2) = false := by simp [h2]
          have hw' := Lib.hid (show wholeL L n = false from wholeL_false.2 ⟨i, hlt, h1, h2⟩)
          clear h1 h2
          go_wp2
          go_ret
          exact ⟨⟨_, rfl, .inr ⟨by omega, hw'.out⟩⟩, rfl⟩
    · obtain rfl : i = n := by omega
      go_wp2
      go_ret
      exact ⟨⟨_, rfl, .inl ⟨rfl, hw.out⟩⟩, rfl⟩
theorem bitsWhole (w : World) (ao : Option Addr) (n c : Nat) (L : Nat → Int) (ha : Rd .u8 w ao n L) (hn : n ≤ 1000000000) :
    Calls Try.prog 69 #[.slice ao n c] w fun e w' => e = .returned (.bool (wholeL L n)) ∧ w = w' := by
  replace ha := Lib.hid ha
  go_enter Try.func69, Try.ntmps69
  go_wp2_with fail
  go_enter Try.func92, Try.ntmps92
  go_wp2_with fail
  refine (indexBad _ _ _ _ L ha.out hn).mono ?_
  rintro e w1 ⟨⟨r, rfl, hr⟩, rfl⟩
  rcases hr with ⟨rfl, hr⟩ | ⟨hr0, hr⟩
  all_goals
    replace hr := Lib.hid hr
    go_wp2_with fail
    go_ret
    go_wp2_with fail
    exact hr.out
/-- The number of symbols, if it is one. -/
def numR (L : Nat → Int) (n : Nat) : Int × Bool := if n ≤ 64 ∧ wholeL L n = true then (numL L n, true) else (0, false)
def InvNum (w : World) (ao : Option Addr) (n c : Nat) (L : Nat → Int) (k : Nat) (a : Act) (wr : World) : Prop :=
  ∃ i : Nat, i + k = n ∧ wr = w ∧ a.tmps.size = 28 ∧ a.defers = [] ∧ slot a 2 = .int .u64 (numL L i) ∧ slot a 14 = .slice ao n c ∧ slot a 15 = .int .i64 n ∧ slot a 16 = .int .i64 i
theorem num_step (x y : Int) (h0 : 0 ≤ x) (h1 : x < 9223372036854775808) (hy : y = 0 ∨ y = 1) : bits .or .u64 (IntKind.u64.wrap (x * 2)) (y % 256) = 2 * x + y := by
  have e1 : IntKind.u64.wrap (x * 2) = 2 * x := by rw [IntKind.wrap_u64]; omega
  have e2 : y % 256 = y := by omega
  rw [e1, e2]
  exact bits_join .u64 64 (by decide) (fun n hn hn' => by rw [IntKind.wrap_u64]; omega) 1 (2 * x) y (by omega) (by omega) (by omega) (by omega) (by omega) (by omega)
theorem numL_step (L : Nat → Int) (n i : Nat) (hw : wholeL L n = true) (hn : n ≤ 64) (hi : i < n) : bits .or .u64 (IntKind.u64.wrap (numL L i * 2)) ((L i - 1) % 256) = numL L (i + 1) := by
  have h1 := numL_bd (wholeL_le hw (Nat.le_of_lt hi))
  have h2 := wholeL_iff.1 hw i hi
  have h3 : (2 : Nat) ^ i ≤ 2 ^ 63 := Nat.pow_le_pow_right (by decide) (by omega)
  have h4 : ((2 : Int) ^ i) = ((2 ^ i : Nat) : Int) := by simp
  rw [h4] at h1
  exact num_step _ _ h1.1 (by omega) (by omega)
set_option maxHeartbeats 400000 in
theorem bitsNum (w : World) (ao : Option Addr) (n c : Nat) (L : Nat → Int) (ha : Rd .u8 w ao n L) (hn : n ≤ 1000000000) :
    Calls Try.prog 95 #[.slice ao n c] w fun e w' => e = .returned (.tuple #[.int .u64 (numR L n).1, .bool (numR L n).2]) ∧ w = w' := by
  replace ha := Lib.hid ha
  by_cases h64 : n ≤ 64
  · have e64 : decide ((64 : Int) < (n : Int)) = false := by simp; omega
    cases hw : wholeL L n with
    | false =>
      have hR : numR L n = (0, false) := by simp [numR, hw]
      rw [hR]
      replace hw := Lib.hid hw
      go_enter Try.func95, Try.ntmps95
      go_wp2_with fail
      refine (bitsWhole _ _ _ _ L ha.out hn).mono ?_
      rintro e w1 ⟨rfl, rfl⟩
      rw [hw.out]
      go_wp2_with fail
      go_ret2
      exact ⟨rfl, rfl⟩
    | true =>
      have hR : numR L n = (numL L n, true) := by simp [numR, hw, h64]
      rw [hR]
      replace hw := Lib.hid hw
      go_enter Try.func95, Try.ntmps95
      go_wp2_with fail
      refine (bitsWhole _ _ _ _ L ha.out hn).mono ?_
      rintro e w1 ⟨rfl, rfl⟩
      rw [hw.out]
      go_wp2_with fail
      refine wp_loop_k (InvNum w ao n c L) n ?_ ?_
      · exact ⟨0, by omega, rfl, by kernel_rfl, rfl, by kernel_rfl, by kernel_rfl, by kernel_rfl, by kernel_rfl⟩
      · intro gk a wr hI K hK
        obtain ⟨i, hi, rfl, hs', hd', k2', k14', k15', k16'⟩ := hI
        rw [fr28 a hs' hd']; simp only [k2', k14', k15', k16']; clear hs' hd' k2' k14' k15' k16'
        by_cases hlt : i < n
        · obtain ⟨b, o, rfl, hc⟩ := ha.out i hlt
          have hin : (i : Int) < n := by omega
          have hs := Lib.hid (numL_step L n i hw.out h64 hlt)
          go_wp2_with fail
          rw [hs.out]
          refine hK (n - (i + 1)) _ _ (by omega) ⟨i + 1, by omega, rfl, by kernel_rfl, rfl, by kernel_rfl, by kernel_rfl, by kernel_rfl, ?_⟩
          show Value.int _ _ = Value.int _ _
          simp
        · obtain rfl : i = n := by omega
          go_wp2
          go_ret2
          exact ⟨rfl, rfl⟩
  · have e64 : decide ((64 : Int) < (n : Int)) = true := by simp; omega
    have hR : numR L n = (0, false) := by simp [numR, h64]
    rw [hR]
    go_enter Try.func95, Try.ntmps95
    go_wp2_with fail
    go_ret2
    exact ⟨rfl, rfl⟩
end Go.Proofs.Ytbfbpagfmhdblaa
