/- The document's bits: Of, Whole, Num, Turn: what they answer. -/
import Derived.Test.YtbfbpagfmhdblaaBitsR
namespace Go.Proofs.Ytbfbpagfmhdblaa
open Go.RowKit
set_option linter.unusedSimpArgs false
set_option linter.unusedVariables false
set_option maxRecDepth 100000
def InvROf1 (w : World) (ao : Option Addr) (n c : Nat) (L : Nat → Int) (k : Nat) (a : Act) (wr : World) : Prop :=
  ∃ (i : Nat) (v : Value), i + k = n ∧ wr.ownsRow w.heap.size 77 1 v (8 * i) (nums .u8 (ofL L) (8 * i)) ∧ Below w.heap.size w wr ∧ a.tmps.size = 27 ∧ a.defers = [] ∧ slot a 0 = .slice ao n c ∧ slot a 3 = v ∧ slot a 4 = .int .i64 i
def InvROf2 (w : World) (ao : Option Addr) (n c i : Nat) (L : Nat → Int) (k : Nat) (a : Act) (wr : World) : Prop :=
  ∃ (v : Value), k ≤ 8 ∧ wr.ownsRow w.heap.size 77 1 v (8 * i + (8 - k)) (nums .u8 (ofL L) (8 * i + (8 - k))) ∧ Below w.heap.size w wr ∧ a.tmps.size = 27 ∧ a.defers = [] ∧ slot a 0 = .slice ao n c ∧ slot a 3 = v ∧ slot a 4 = .int .i64 i ∧ slot a 5 = .int .i64 ((k : Int) - 1)
set_option maxHeartbeats 1000000 in
theorem refOfN (w : World) (ao : Option Addr) (n c : Nat) (L : Nat → Int) (ha : Rd .u8 w ao n L) (hL : ∀ i, i < n → 0 ≤ L i ∧ L i < 256) (hn : n ≤ 100000) :
    Calls Try.prog 59 #[.slice ao n c] w fun e w' => ∃ a c', e = .returned (.slice a (8 * n) c') ∧ w'.ownsRow w.heap.size 77 1 (.slice a (8 * n) c') (8 * n) (nums .u8 (ofL L) (8 * n)) ∧ Below w.heap.size w w' := by
  obtain ⟨i0, hf0, hz0, hz1, hz2⟩ := info_parts elemS
  replace ha := Lib.hid ha
  replace hL := Lib.hid hL
  go_enter Try.func59, Try.ntmps59
  go_wp2_with fail
  refine wp_loop_k (InvROf1 w ao n c L) n ?_ ?_
  · exact ⟨0, .slice none 0 0, by omega, World.ownsRow_nil _ _ _ _, Below.refl _ _, by kernel_rfl, rfl, by kernel_rfl, by kernel_rfl, by kernel_rfl⟩
  · intro gk a wr hI K hK
    obtain ⟨i, v, hi, hown, hb, hs', hd', k0', k3', k4'⟩ := hI
    rw [fr27 a hs' hd']; simp only [k0', k3', k4']; clear hs' hd' k0' k3' k4'
    have hown' := Lib.hid hown
    clear hown
    by_cases hlt : i < n
    · obtain ⟨b, o, rfl, hc0⟩ := ha.out i hlt
      obtain ⟨z, hz, hz256⟩ : ∃ z : Nat, L i = z ∧ z < 256 := ⟨(L i).toNat, by have := hL.out i hlt; omega, by have := hL.out i hlt; omega⟩
      have hlb := World.block_lt_of_cell? w _ hc0
      rw [hz] at hc0
      replace hz := Lib.hid hz
      replace hc0 := Lib.hid hc0
      have hin : (i : Int) < n := by omega
      go_wp2_with fail
      refine wp_loop_k (InvROf2 w (some ⟨b, o, none⟩) n c i L) 8 ?_ ?_
      · exact ⟨v, Nat.le_refl _, by simpa using hown'.out, hb, by kernel_rfl, rfl, by kernel_rfl, by kernel_rfl, by kernel_rfl, by kernel_rfl⟩
      · intro k a wr hI K2 hK2
        clear hown' hb
        obtain ⟨v, hk, hown, hb, hs', hd', k0', k3', k4', k5'⟩ := hI
        rw [fr27 a hs' hd']; simp only [k0', k3', k4', k5']; clear hs' hd' k0' k3' k4' k5'
        have hown' := Lib.hid hown
        clear hown
        by_cases hlt : 0 < k
        · obtain ⟨j, rfl⟩ : ∃ j, k = j + 1 := ⟨k - 1, by omega⟩
          have ej : ((j + 1 : Nat) : Int) - 1 = j := by omega
          rw [ej]
          clear ej
          have hc := below_cell hc0.out hb hlb
          have hT : Hid (ofL L (8 * i + (8 - (j + 1))) = 1 + (bitN z j : Nat)) := by
            show ofL L (8 * i + (8 - (j + 1))) = 1 + (bitN z j : Nat)
            have h2 : (8 * i + (8 - (j + 1))) / 8 = i := by omega
            have h3 : 7 - (8 * i + (8 - (j + 1))) % 8 = j := by omega
            simp only [ofL, h2, h3, hz.out, Int.toNat_natCast]
          obtain ⟨m, em⟩ : ∃ m, m = 8 * i + (8 - (j + 1)) := ⟨_, rfl⟩
          rw [← em] at hown' hT
          have hmb : m ≤ 1000000 := by omega
          replace em := Lib.hid em
          go_wp2_with (first
            | (go_at_call 89; refine (refBit _ z j (by omega) (by omega)).mono ?_; rintro e w1 ⟨rfl, rfl⟩)
            | (at_builtin; refine append_one rfl _ _ 40 rfl w.heap.size 77 i0 (.int .u8 0) 1 Try.underlying40 hf0 hz0 hz1 hz2 rfl _ _ _ rfl hown'.out _ rfl rfl (by omega) (by omega) hb.size ?_))
          intro g cc w1 hown1 hg1 hb1
          have e1 : m + 1 = 8 * i + (8 - j) := by have := em.out; omega
          rw [← hT.out, ← nums_succ, e1] at hown1
          rw [e1]
          replace hown1 := Lib.hid hown1
          have hb2 := hb.trans hb1
          clear hb1 hg1 hown' hb e1 hc
          go_wp2_with fail
          exact hK2 j _ _ (by omega) ⟨_, by omega, hown1.out, hb2, by kernel_rfl, rfl, by kernel_rfl, by kernel_rfl, by kernel_rfl, by kernel_rfl⟩
        · obtain rfl : k = 0 := by omega
          go_wp2_with fail
          refine hK (n - (i + 1)) _ _ (by omega) ⟨i + 1, v, by omega, ?_, hb, by kernel_rfl, rfl, by kernel_rfl, by kernel_rfl, ?_⟩
          · have e : 8 * (i + 1) = 8 * i + (8 - 0) := by omega
            rw [e]
            exact hown'.out
          · show Value.int _ _ = Value.int _ _
            simp
    · obtain rfl : i = n := by omega
      obtain ⟨al, cl, rfl, q1, q2, q3, hmine⟩ := own_mine hown'.out
      clear hmine q3
      go_wp2_with fail
      go_ret
      exact ⟨al, cl, rfl, hown'.out, hb⟩
theorem refOf (w : World) (ao : Option Addr) (n c : Nat) (L : Nat → Int) (ha : Rd .u8 w ao n L) (hL : ∀ i, i < n → 0 ≤ L i ∧ L i < 256) (hn : n ≤ 100000) :
    Calls Try.prog 59 #[.slice ao n c] w fun e w' => ∃ a c', e = .returned (.slice a (8 * n) c') ∧ Mine .u8 77 w.heap.size w' a (8 * n) (ofL L) ∧ Below w.heap.size w w' :=
  (refOfN w ao n c L ha hL hn).mono fun e w' ⟨a, c', h1, h2, h3⟩ => by
    obtain ⟨a2, c2, e2, _, _, _, hm⟩ := own_mine h2
    simp only [Value.slice.injEq, true_and] at e2
    obtain ⟨rfl, rfl⟩ := e2
    exact ⟨a, c', h1, hm, h3⟩
def InvRWhole (w : World) (ao : Option Addr) (n c : Nat) (L : Nat → Int) (k : Nat) (a : Act) (wr : World) : Prop :=
  ∃ (i q : Nat), i + k = n ∧ wr = w.drewN q ∧ wholeL L i = true ∧ a.tmps.size = 22 ∧ a.defers = [] ∧ slot a 0 = .slice ao n c ∧ slot a 3 = .int .i64 i
set_option maxHeartbeats 400000 in
theorem refWhole (w : World) (ao : Option Addr) (n c : Nat) (L : Nat → Int) (ha : Rd .u8 w ao n L) (hn : n ≤ 1000000000) :
    Calls Try.prog 71 #[.slice ao n c] w fun e w' => e = .returned (.bool (wholeL L n)) ∧ ∃ q, w' = w.drewN q := by
  replace ha := Lib.hid ha
  go_enter Try.func71, Try.ntmps71
  go_wp2_with fail
  refine wp_loop_k (InvRWhole w ao n c L) n ?_ ?_
  · exact ⟨0, 0, by omega, rfl, rfl, by kernel_rfl, rfl, by kernel_rfl, by kernel_rfl⟩
  · intro gk a wr hI K hK
    obtain ⟨i, q, hi, rfl, hw, hs', hd', k0', k3'⟩ := hI
    rw [fr22 a hs' hd']; simp only [k0', k3']; clear hs' hd' k0' k3'
    replace hw := Lib.hid hw
    by_cases hlt : i < n
    · obtain ⟨b, o, rfl, hc⟩ := ha.out i hlt
      have hin : (i : Int) < n := by omega
      have hwi : IntKind.i64.wrap (i : Int) = i := wrap_i64_small _ (by omega) (by omega)
      by_cases h1 : L i = 1
      · have e1 : (L i != 1) = false := by simp [h1]
        have hw' := Lib.hid (show wholeL L (i + 1) = true by simp [wholeL, hw.out, h1])
        clear h1
        go_wp2_with fail
        refine hK (n - (i + 1)) _ _ (by omega) ⟨i + 1, _, by omega, rfl, hw'.out, by kernel_rfl, rfl, by kernel_rfl, ?_⟩
        show Value.int _ _ = Value.int _ _
        simp
      · have e1 : (L i != 1) = true := by simp [h1]
        by_cases h2 : L i = 2
        · have e2 : (L i != 2) = false := by simp [h2]
          have hw' := Lib.hid (show wholeL L (i + 1) = true by simp [wholeL, hw.out, h2])
          clear h1 h2
          go_wp2_with fail
          refine hK (n - (i + 1)) _ _ (by omega) ⟨i + 1, _, by omega, rfl, hw'.out, by kernel_rfl, rfl, by kernel_rfl, ?_⟩
          show Value.int _ _ = Value.int _ _
          simp
        · have e2 : (L i != 2) = true := by simp [h2]
          have hw' := Lib.hid (show wholeL L n = false from wholeL_false.2 ⟨i, hlt, h1, h2⟩)
          clear h1 h2
          go_wp2_with fail
          go_ret
          exact ⟨by rw [hw'.out]; rfl, _, rfl⟩
    · obtain rfl : i = n := by omega
      go_wp2_with fail
      go_ret
      exact ⟨by rw [hw.out]; rfl, _, rfl⟩
def InvRNum (w : World) (ao : Option Addr) (n c : Nat) (L : Nat → Int) (k : Nat) (a : Act) (wr : World) : Prop :=
  ∃ (i : Nat), i + k = n ∧ wr = w ∧ a.tmps.size = 30 ∧ a.defers = [] ∧ slot a 0 = .slice ao n c ∧ slot a 4 = .int .u64 (numL L i) ∧ slot a 5 = .int .i64 i
set_option maxHeartbeats 1000000 in
theorem refNum (w : World) (ao : Option Addr) (n c : Nat) (L : Nat → Int) (ha : Rd .u8 w ao n L) (hn : n ≤ 1000000000) :
    Calls Try.prog 96 #[.slice ao n c] w fun e w' => e = .returned (.tuple #[.int .u64 (numR L n).1, .bool (numR L n).2]) ∧ ∃ q, w' = w.drewN q := by
  replace ha := Lib.hid ha
  by_cases h64 : n ≤ 64
  · have e64 : decide ((64 : Int) < (n : Int)) = false := by simp; omega
    cases hw : wholeL L n with
    | false =>
      have hR : numR L n = (0, false) := by simp [numR, hw]
      rw [hR]
      replace hw := Lib.hid hw
      go_enter Try.func96, Try.ntmps96
      go_wp2_with fail
      refine (refWhole _ _ _ _ L ha.out hn).mono ?_
      rintro e w1 ⟨rfl, q, rfl⟩
      rw [hw.out]
      go_wp2_with fail
      go_ret2
      exact ⟨rfl, _, rfl⟩
    | true =>
      have hR : numR L n = (numL L n, true) := by simp [numR, hw, h64]
      rw [hR]
      replace hw := Lib.hid hw
      go_enter Try.func96, Try.ntmps96
      go_wp2_with fail
      refine (refWhole _ _ _ _ L ha.out hn).mono ?_
      rintro e w1 ⟨rfl, q, rfl⟩
      rw [hw.out]
      go_wp2_with fail
      refine wp_loop_k (InvRNum (w.drewN q) ao n c L) n ?_ ?_
      · exact ⟨0, by omega, rfl, by kernel_rfl, rfl, by kernel_rfl, by kernel_rfl, by kernel_rfl⟩
      · intro gk a wr hI K hK
        obtain ⟨i, hi, rfl, hs', hd', k0', k4', k5'⟩ := hI
        rw [fr30 a hs' hd']; simp only [k0', k4', k5']; clear hs' hd' k0' k4' k5'
        by_cases hlt : i < n
        · obtain ⟨b, o, rfl, hc⟩ := ha.out i hlt
          have hin : (i : Int) < n := by omega
          have hbd := numL_bd64 (wholeL_le hw.out (Nat.succ_le_of_lt hlt)) (by omega)
          have hbd' : numL L (i + 1) = 2 * numL L i + (L i - 1) := rfl
          have h12 := wholeL_iff.1 hw.out i hlt
          have h0 := (numL_bd64 (wholeL_le hw.out (Nat.le_of_lt hlt)) (by omega)).1
          rw [hbd'] at hbd
          replace hbd' := Lib.hid hbd'
          by_cases h1 : L i = 2
          · have e1 : (L i == 2) = true := by simp [h1]
            have hf : Hid (numL L (i + 1) = 2 * numL L i + 1) := by have := hbd'.out; show numL L (i + 1) = 2 * numL L i + 1; omega
            have hw1 : 2 * numL L i + 1 < 18446744073709551616 := by omega
            clear h1 h12 hbd
            go_wp2_with fail
            refine hK (n - (i + 1)) _ _ (by omega) ⟨i + 1, by omega, rfl, by kernel_rfl, rfl, by kernel_rfl, ?_, ?_⟩
            · show Value.int _ _ = Value.int _ _
              rw [hf.out]
            · show Value.int _ _ = Value.int _ _
              simp
          · have e1 : (L i == 2) = false := by simp [h1]
            have hf : Hid (numL L (i + 1) = 2 * numL L i) := by have := hbd'.out; show numL L (i + 1) = 2 * numL L i; omega
            have hw1 : 2 * numL L i < 18446744073709551616 := by omega
            clear h1 h12 hbd
            go_wp2_with fail
            refine hK (n - (i + 1)) _ _ (by omega) ⟨i + 1, by omega, rfl, by kernel_rfl, rfl, by kernel_rfl, ?_, ?_⟩
            · show Value.int _ _ = Value.int _ _
              rw [hf.out]
            · show Value.int _ _ = Value.int _ _
              simp
        · obtain rfl : i = n := by omega
          go_wp2_with fail
          go_ret2
          exact ⟨rfl, _, rfl⟩
  · have e64 : decide ((64 : Int) < (n : Int)) = true := by simp; omega
    have hR : numR L n = (0, false) := by simp [numR, h64]
    rw [hR]
    go_enter Try.func96, Try.ntmps96
    go_wp2_with fail
    go_ret2
    exact ⟨rfl, 0, rfl⟩
end Go.Proofs.Ytbfbpagfmhdblaa
