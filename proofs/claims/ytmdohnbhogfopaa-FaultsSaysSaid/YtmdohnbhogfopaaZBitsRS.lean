/- Several texts, one behind the other: BitsR BitsS Chunk BytesC BytesR. -/
import Derived.Test.YtmdohnbhogfopaaZBitsAC
import Derived.Deep.CutBlock
import Derived.RangeFuncBox
import Derived.RangeFuncLeaves
import Derived.RangeFuncCalls
import Derived.Shelf.Abstract
import Derived.OwnWalkIn
import Derived.TacticsInMore
import Derived.LoopNIn
import Derived.LoopIn
import Derived.Maps.AppendAt
import Derived.Test.YtmdohnbhogfopaaZSumsAE
/- The document's bits: bit, Put, Of, Whole, Num: what they answer. -/
namespace Go.Proofs.Ytmdohnbhogfopaa
open Go.RowKit
set_option linter.unusedSimpArgs false
set_option linter.unusedVariables false
set_option maxRecDepth 100000
def InvBit (w : World) (z i : Nat) (k : Nat) (a : Act) (wr : World) : Prop :=
  ∃ j : Nat, j + k = i ∧ wr = w ∧ a.tmps.size = 16 ∧ a.defers = [] ∧ slot a 0 = .int .u64 (z / 2 ^ j : Nat) ∧ slot a 1 = .int .i64 i ∧ slot a 5 = .int .i64 j
theorem refBit (w : World) (z i : Nat) (hz : z < 18446744073709551616) (hi : i ≤ 1000000) :
    Calls Try.prog 125 #[.int .u64 z, .int .i64 i] w fun e w' => e = .returned (.int .u8 (1 + (bitN z i : Nat))) ∧ w = w' := by
  go_enter Try.func125, Try.ntmps125
  go_wp2
  refine wp_loop_k (InvBit w z i) i ?_ ?_
  · refine ⟨0, by omega, rfl, by kernel_rfl, rfl, ?_, by kernel_rfl, by kernel_rfl⟩
    show Value.int _ _ = Value.int _ _
    simp
  · intro gk a wr hI K hK
    obtain ⟨j, hj, rfl, hs', hd', k0', k1', k5'⟩ := hI
    rw [fr16 a hs' hd']; simp only [k0', k1', k5']; clear hs' hd' k0' k1' k5'
    have hq : z / 2 ^ j ≤ z := Nat.div_le_self _ _
    have hd : z / 2 ^ (j + 1) = z / 2 ^ j / 2 := by rw [Nat.pow_succ, Nat.div_div_eq_div_mul]
    have hb : bitN z j = z / 2 ^ j % 2 := rfl
    replace hd := Lib.hid hd
    replace hb := Lib.hid hb
    generalize z / 2 ^ j = y at *
    by_cases hlt : j < i
    · go_wp2
      refine hK (i - (j + 1)) _ _ (by omega) ⟨j + 1, by omega, rfl, by kernel_rfl, rfl, ?_, by kernel_rfl, ?_⟩
      · show Value.int _ _ = Value.int _ _
        rw [hd.out]
        simp
      · show Value.int _ _ = Value.int _ _
        simp
    · obtain rfl : j = i := by omega
      by_cases h1 : y % 2 = 1
      · have e1 : ((y : Int) % 2 == 1) = true := by simp; omega
        have hx : Hid (bitN z j = 1) := by have := hb.out; show bitN z j = 1; omega
        clear h1
        go_wp2
        go_ret
        exact ⟨by rw [hx.out]; rfl, rfl⟩
      · have e1 : ((y : Int) % 2 == 1) = false := by simp; omega
        have hx : Hid (bitN z j = 0) := by have := hb.out; show bitN z j = 0; omega
        clear h1
        go_wp2
        go_ret
        exact ⟨by rw [hx.out]; rfl, rfl⟩
end Go.Proofs.Ytmdohnbhogfopaa
/- The document's bits: Of, Whole, Num, Turn: what they answer. -/
namespace Go.Proofs.Ytmdohnbhogfopaa
open Go.RowKit
set_option linter.unusedSimpArgs false
set_option linter.unusedVariables false
set_option maxRecDepth 100000
def InvROf1 (w : World) (ao : Option Addr) (n c : Nat) (L : Nat → Int) (k : Nat) (a : Act) (wr : World) : Prop :=
  ∃ (i : Nat) (v : Value), i + k = n ∧ wr.ownsRow w.heap.size 35 1 v (8 * i) (nums .u8 (ofL L) (8 * i)) ∧ Below w.heap.size w wr ∧ a.tmps.size = 27 ∧ a.defers = [] ∧ slot a 0 = .slice ao n c ∧ slot a 3 = v ∧ slot a 4 = .int .i64 i
def InvROf2 (w : World) (ao : Option Addr) (n c i : Nat) (L : Nat → Int) (k : Nat) (a : Act) (wr : World) : Prop :=
  ∃ (v : Value), k ≤ 8 ∧ wr.ownsRow w.heap.size 35 1 v (8 * i + (8 - k)) (nums .u8 (ofL L) (8 * i + (8 - k))) ∧ Below w.heap.size w wr ∧ a.tmps.size = 27 ∧ a.defers = [] ∧ slot a 0 = .slice ao n c ∧ slot a 3 = v ∧ slot a 4 = .int .i64 i ∧ slot a 5 = .int .i64 ((k : Int) - 1)
set_option maxHeartbeats 1000000 in
theorem refOfN (w : World) (ao : Option Addr) (n c : Nat) (L : Nat → Int) (ha : Rd .u8 w ao n L) (hL : ∀ i, i < n → 0 ≤ L i ∧ L i < 256) (hn : n ≤ 100000) :
    Calls Try.prog 92 #[.slice ao n c] w fun e w' => ∃ a c', e = .returned (.slice a (8 * n) c') ∧ w'.ownsRow w.heap.size 35 1 (.slice a (8 * n) c') (8 * n) (nums .u8 (ofL L) (8 * n)) ∧ Below w.heap.size w w' := by
  obtain ⟨i0, hf0, hz0, hz1, hz2⟩ := info_parts elemS
  replace ha := Lib.hid ha
  replace hL := Lib.hid hL
  go_enter Try.func92, Try.ntmps92
  go_wp2_with fail
  refine wp_loop_k (InvROf1 w ao n c L) n ?_ ?_
  · exact ⟨0, .slice none 0 0, by omega, World.ownsRow_nil _ _ _ _, Below.refl _ _, by kernel_rfl, rfl, by kernel_rfl, by kernel_rfl, by kernel_rfl⟩
  · intro gk a wr hI K hK
    obtain ⟨i, v, hi, hown, hb, hs', hd', k0', k3', k4'⟩ := hI
    rw [fr27 a hs' hd']; simp only [k0', k3', k4']; clear hs' hd' k0' k3' k4'
    have hown' := Lib.hid hown
    clear hown
    by_cases hlt : i < n
    · obtain ⟨b, o, rfl, hc0⟩ := ha.out i hlt
      obtain ⟨z, hz, hz256⟩ : ∃ z : Nat, L i = z ∧ z < 256 := ⟨(L i).toNat, by have := hL.out i hlt; omega, by have := hL.out i hlt; omega⟩
      have hlb := World.block_lt_of_cell? w _ hc0
      rw [hz] at hc0
      replace hz := Lib.hid hz
      replace hc0 := Lib.hid hc0
      have hin : (i : Int) < n := by omega
      go_wp2_with fail
      refine wp_loop_k (InvROf2 w (some ⟨b, o, none⟩) n c i L) 8 ?_ ?_
      · exact ⟨v, Nat.le_refl _, by simpa using hown'.out, hb, by kernel_rfl, rfl, by kernel_rfl, by kernel_rfl, by kernel_rfl, by kernel_rfl⟩
      · intro k a wr hI K2 hK2
        clear hown' hb
        obtain ⟨v, hk, hown, hb, hs', hd', k0', k3', k4', k5'⟩ := hI
        rw [fr27 a hs' hd']; simp only [k0', k3', k4', k5']; clear hs' hd' k0' k3' k4' k5'
        have hown' := Lib.hid hown
        clear hown
        by_cases hlt : 0 < k
        · obtain ⟨j, rfl⟩ : ∃ j, k = j + 1 := ⟨k - 1, by omega⟩
          have ej : ((j + 1 : Nat) : Int) - 1 = j := by omega
          rw [ej]
          clear ej
          have hc := below_cell hc0.out hb hlb
          have hT : Hid (ofL L (8 * i + (8 - (j + 1))) = 1 + (bitN z j : Nat)) := by
            show ofL L (8 * i + (8 - (j + 1))) = 1 + (bitN z j : Nat)
            have h2 : (8 * i + (8 - (j + 1))) / 8 = i := by omega
            have h3 : 7 - (8 * i + (8 - (j + 1))) % 8 = j := by omega
            simp only [ofL, h2, h3, hz.out, Int.toNat_natCast]
          obtain ⟨m, em⟩ : ∃ m, m = 8 * i + (8 - (j + 1)) := ⟨_, rfl⟩
          rw [← em] at hown' hT
          have hmb : m ≤ 1000000 := by omega
          replace em := Lib.hid em
          go_wp2_with (first
            | (go_at_call 125; refine (refBit _ z j (by omega) (by omega)).mono ?_; rintro e w1 ⟨rfl, rfl⟩)
            | (at_builtin; refine append_one rfl _ _ 47 rfl w.heap.size 35 i0 (.int .u8 0) 1 Try.underlying47 hf0 hz0 hz1 hz2 rfl _ _ _ rfl hown'.out _ rfl rfl (by omega) (by omega) hb.size ?_))
          intro g cc w1 hown1 hg1 hb1
          have e1 : m + 1 = 8 * i + (8 - j) := by have := em.out; omega
          rw [← hT.out, ← nums_succ, e1] at hown1
          rw [e1]
          replace hown1 := Lib.hid hown1
          have hb2 := hb.trans hb1
          clear hb1 hg1 hown' hb e1 hc
          go_wp2_with fail
          exact hK2 j _ _ (by omega) ⟨_, by omega, hown1.out, hb2, by kernel_rfl, rfl, by kernel_rfl, by kernel_rfl, by kernel_rfl, by kernel_rfl⟩
        · obtain rfl : k = 0 := by omega
          go_wp2_with fail
          refine hK (n - (i + 1)) _ _ (by omega) ⟨i + 1, v, by omega, ?_, hb, by kernel_rfl, rfl, by kernel_rfl, by kernel_rfl, ?_⟩
          · have e : 8 * (i + 1) = 8 * i + (8 - 0) := by omega
            rw [e]
            exact hown'.out
          · show Value.int _ _ = Value.int _ _
            simp
    · obtain rfl : i = n := by omega
      obtain ⟨al, cl, rfl, q1, q2, q3, hmine⟩ := own_mine hown'.out
      clear hmine q3
      go_wp2_with fail
      go_ret
      exact ⟨al, cl, rfl, hown'.out, hb⟩
theorem refOf (w : World) (ao : Option Addr) (n c : Nat) (L : Nat → Int) (ha : Rd .u8 w ao n L) (hL : ∀ i, i < n → 0 ≤ L i ∧ L i < 256) (hn : n ≤ 100000) :
    Calls Try.prog 92 #[.slice ao n c] w fun e w' => ∃ a c', e = .returned (.slice a (8 * n) c') ∧ Mine .u8 35 w.heap.size w' a (8 * n) (ofL L) ∧ Below w.heap.size w w' :=
  (refOfN w ao n c L ha hL hn).mono fun e w' ⟨a, c', h1, h2, h3⟩ => by
    obtain ⟨a2, c2, e2, _, _, _, hm⟩ := own_mine h2
    simp only [Value.slice.injEq, true_and] at e2
    obtain ⟨rfl, rfl⟩ := e2
    exact ⟨a, c', h1, hm, h3⟩
def InvRWhole (w : World) (ao : Option Addr) (n c : Nat) (L : Nat → Int) (k : Nat) (a : Act) (wr : World) : Prop :=
  ∃ (i q : Nat), i + k = n ∧ wr = w.drewN q ∧ wholeL L i = true ∧ a.tmps.size = 22 ∧ a.defers = [] ∧ slot a 0 = .slice ao n c ∧ slot a 3 = .int .i64 i
set_option maxHeartbeats 400000 in
theorem refWhole (w : World) (ao : Option Addr) (n c : Nat) (L : Nat → Int) (ha : Rd .u8 w ao n L) (hn : n ≤ 1000000000) :
    Calls Try.prog 100 #[.slice ao n c] w fun e w' => e = .returned (.bool (wholeL L n)) ∧ ∃ q, w' = w.drewN q := by
  replace ha := Lib.hid ha
  go_enter Try.func100, Try.ntmps100
  go_wp2_with fail
  refine wp_loop_k (InvRWhole w ao n c L) n ?_ ?_
  · exact ⟨0, 0, by omega, rfl, rfl, by kernel_rfl, rfl, by kernel_rfl, by kernel_rfl⟩
  · intro gk a wr hI K hK
    obtain ⟨i, q, hi, rfl, hw, hs', hd', k0', k3'⟩ := hI
    rw [fr22 a hs' hd']; simp only [k0', k3']; clear hs' hd' k0' k3'
    replace hw := Lib.hid hw
    by_cases hlt : i < n
    · obtain ⟨b, o, rfl, hc⟩ := ha.out i hlt
      have hin : (i : Int) < n := by omega
      have hwi : IntKind.i64.wrap (i : Int) = i := wrap_i64_small _ (by omega) (by omega)
      by_cases h1 : L i = 1
      · have e1 : (L i != 1) = false := by simp [h1]
        have hw' := Lib.hid (show wholeL L (i + 1) = true by simp [wholeL, hw.out, h1])
        clear h1
        go_wp2_with fail
        refine hK (n - (i + 1)) _ _ (by omega) ⟨i + 1, _, by omega, rfl, hw'.out, by kernel_rfl, rfl, by kernel_rfl, ?_⟩
        show Value.int _ _ = Value.int _ _
        simp
      · have e1 : (L i != 1) = true := by simp [h1]
        by_cases h2 : L i = 2
        · have e2 : (L i != 2) = false := by simp [h2]
          have hw' := Lib.hid (show wholeL L (i + 1) = true by simp [wholeL, hw.out, h2])
          clear h1 h2
          go_wp2_with fail
          refine hK (n - (i + 1)) _ _ (by omega) ⟨i + 1, _, by omega, rfl, hw'.out, by kernel_rfl, rfl, by kernel_rfl, ?_⟩
          show Value.int _ _ = Value.int _ _
          simp
        · have e2 : (L i != 2) = true := by simp [h2]
          have hw' := Lib.hid (show wholeL L n = false from wholeL_false.2 ⟨i, hlt, h1, h2⟩)
          clear h1 h2
          go_wp2_with fail
          go_ret
          exact ⟨by rw [hw'.out]; rfl, _, rfl⟩
    · obtain rfl : i = n := by omega
      go_wp2_with fail
      go_ret
      exact ⟨by rw [hw.out]; rfl, _, rfl⟩
def InvRNum (w : World) (ao : Option Addr) (n c : Nat) (L : Nat → Int) (k : Nat) (a : Act) (wr : World) : Prop :=
  ∃ (i : Nat), i + k = n ∧ wr = w ∧ a.tmps.size = 30 ∧ a.defers = [] ∧ slot a 0 = .slice ao n c ∧ slot a 4 = .int .u64 (numL L i) ∧ slot a 5 = .int .i64 i
set_option maxHeartbeats 1000000 in
theorem refNum (w : World) (ao : Option Addr) (n c : Nat) (L : Nat → Int) (ha : Rd .u8 w ao n L) (hn : n ≤ 1000000000) :
    Calls Try.prog 128 #[.slice ao n c] w fun e w' => e = .returned (.tuple #[.int .u64 (numR L n).1, .bool (numR L n).2]) ∧ ∃ q, w' = w.drewN q := by
  replace ha := Lib.hid ha
  by_cases h64 : n ≤ 64
  · have e64 : decide ((64 : Int) < (n : Int)) = false := by simp; omega
    cases hw : wholeL L n with
    | false =>
      have hR : numR L n = (0, false) := by simp [numR, hw]
      rw [hR]
      replace hw := Lib.hid hw
      go_enter Try.func128, Try.ntmps128
      go_wp2_with fail
      refine (refWhole _ _ _ _ L ha.out hn).mono ?_
      rintro e w1 ⟨rfl, q, rfl⟩
      rw [hw.out]
      go_wp2_with fail
      go_ret2
      exact ⟨rfl, _, rfl⟩
    | true =>
      have hR : numR L n = (numL L n, true) := by simp [numR, hw, h64]
      rw [hR]
      replace hw := Lib.hid hw
      go_enter Try.func128, Try.ntmps128
      go_wp2_with fail
      refine (refWhole _ _ _ _ L ha.out hn).mono ?_
      rintro e w1 ⟨rfl, q, rfl⟩
      rw [hw.out]
      go_wp2_with fail
      refine wp_loop_k (InvRNum (w.drewN q) ao n c L) n ?_ ?_
      · exact ⟨0, by omega, rfl, by kernel_rfl, rfl, by kernel_rfl, by kernel_rfl, by kernel_rfl⟩
      · intro gk a wr hI K hK
        obtain ⟨i, hi, rfl, hs', hd', k0', k4', k5'⟩ := hI
        rw [fr30 a hs' hd']; simp only [k0', k4', k5']; clear hs' hd' k0' k4' k5'
        by_cases hlt : i < n
        · obtain ⟨b, o, rfl, hc⟩ := ha.out i hlt
          have hin : (i : Int) < n := by omega
          have hbd := numL_bd64 (wholeL_le hw.out (Nat.succ_le_of_lt hlt)) (by omega)
          have hbd' : numL L (i + 1) = 2 * numL L i + (L i - 1) := rfl
          have h12 := wholeL_iff.1 hw.out i hlt
          have h0 := (numL_bd64 (wholeL_le hw.out (Nat.le_of_lt hlt)) (by omega)).1
          rw [hbd'] at hbd
          replace hbd' := Lib.hid hbd'
          by_cases h1 : L i = 2
          · have e1 : (L i == 2) = true := by simp [h1]
            have hf : Hid (numL L (i + 1) = 2 * numL L i + 1) := by have := hbd'.out; show numL L (i + 1) = 2 * numL L i + 1; omega
            have hw1 : 2 * numL L i + 1 < 18446744073709551616 := by omega
            clear h1 h12 hbd
            go_wp2_with fail
            refine hK (n - (i + 1)) _ _ (by omega) ⟨i + 1, by omega, rfl, by kernel_rfl, rfl, by kernel_rfl, ?_, ?_⟩
            · show Value.int _ _ = Value.int _ _
              rw [hf.out]
            · show Value.int _ _ = Value.int _ _
              simp
          · have e1 : (L i == 2) = false := by simp [h1]
            have hf : Hid (numL L (i + 1) = 2 * numL L i) := by have := hbd'.out; show numL L (i + 1) = 2 * numL L i; omega
            have hw1 : 2 * numL L i < 18446744073709551616 := by omega
            clear h1 h12 hbd
            go_wp2_with fail
            refine hK (n - (i + 1)) _ _ (by omega) ⟨i + 1, by omega, rfl, by kernel_rfl, rfl, by kernel_rfl, ?_, ?_⟩
            · show Value.int _ _ = Value.int _ _
              rw [hf.out]
            · show Value.int _ _ = Value.int _ _
              simp
        · obtain rfl : i = n := by omega
          go_wp2_with fail
          go_ret2
          exact ⟨rfl, _, rfl⟩
  · have e64 : decide ((64 : Int) < (n : Int)) = true := by simp; omega
    have hR : numR L n = (0, false) := by simp [numR, h64]
    rw [hR]
    go_enter Try.func128, Try.ntmps128
    go_wp2_with fail
    go_ret2
    exact ⟨rfl, 0, rfl⟩
def InvRTurn1 (w : World) (ao : Option Addr) (n c : Nat) (aa : Option Addr) (m ca : Nat) (T : Nat → Int) (k : Nat) (a : Act) (wr : World) : Prop :=
  ∃ (i : Nat) (v : Value), i + k = n ∧ wr.ownsRow w.heap.size 35 1 v i (nums .u8 T i) ∧ Below w.heap.size w wr ∧ a.tmps.size = 53 ∧ a.defers = [] ∧ slot a 0 = .slice ao n c ∧ slot a 1 = .slice aa m ca ∧ slot a 5 = v ∧ slot a 6 = .int .i64 i
def InvRTurn2 (w0 : World) (ao : Option Addr) (n c : Nat) (aa : Option Addr) (m ca : Nat) (A : Nat → Int) (i : Nat) (v : Value) (k : Nat) (a : Act) (wr : World) : Prop :=
  ∃ (j : Nat), j + k = m ∧ wr = w0 ∧ a.tmps.size = 53 ∧ a.defers = [] ∧ slot a 0 = .slice ao n c ∧ slot a 1 = .slice aa m ca ∧ slot a 5 = v ∧ slot a 6 = .int .i64 i ∧ slot a 7 = .int .i64 (cntL A i j : Nat) ∧ slot a 8 = .int .i64 j
theorem cntL_le (A : Nat → Int) (i k : Nat) : cntL A i k ≤ k := by
  induction k with
  | zero => exact Nat.le_refl _
  | succ k ih => simp only [cntL]; split <;> omega
set_option maxHeartbeats 2000000 in
theorem refTurn (w : World) (ao : Option Addr) (n c : Nat) (L : Nat → Int) (aa : Option Addr) (m ca : Nat) (A : Nat → Int) (ha : Rd .u8 w ao n L) (hA : Rd .i64 w aa m A) (hn : n ≤ 1000000) (hm : m ≤ 1000000) :
    Calls Try.prog 81 #[.slice ao n c, .slice aa m ca] w fun e w' => ∃ a c', e = .returned (.slice a n c') ∧ Mine .u8 35 w.heap.size w' a n (turnL L A m) ∧ Below w.heap.size w w' := by
  obtain ⟨i0, hf0, hz0, hz1, hz2⟩ := info_parts elemS
  replace ha := Lib.hid ha
  replace hA := Lib.hid hA
  go_enter Try.func81, Try.ntmps81
  go_wp2_with fail
  refine wp_loop_k (InvRTurn1 w ao n c aa m ca (turnL L A m)) n ?_ ?_
  · exact ⟨0, .slice none 0 0, by omega, World.ownsRow_nil _ _ _ _, Below.refl _ _, by kernel_rfl, rfl, by kernel_rfl, by kernel_rfl, by kernel_rfl, by kernel_rfl⟩
  · intro gk a wr hI K hK
    obtain ⟨i, v, hi, hown, hb, hs', hd', k0', k1', k5', k6'⟩ := hI
    rw [fr53 a hs' hd']; simp only [k0', k1', k5', k6']; clear hs' hd' k0' k1' k5' k6'
    have hown' := Lib.hid hown
    clear hown
    by_cases hlt : i < n
    · obtain ⟨b, o, rfl, hc0⟩ := ha.out i hlt
      have hx := below_cell hc0 hb (World.block_lt_of_cell? w _ hc0)
      have hin : (i : Int) < n := by omega
      clear hc0
      go_wp2_with fail
      refine wp_loop_k (InvRTurn2 wr (some ⟨b, o, none⟩) n c aa m ca A i v) m ?_ ?_
      · exact ⟨0, by omega, rfl, by kernel_rfl, rfl, by kernel_rfl, by kernel_rfl, by kernel_rfl, by kernel_rfl, by kernel_rfl, by kernel_rfl⟩
      · intro k a wr' hI K2 hK2
        obtain ⟨j, hj, rfl, hs', hd', k0', k1', k5', k6', k7', k8'⟩ := hI
        rw [fr53 a hs' hd']; simp only [k0', k1', k5', k6', k7', k8']; clear hs' hd' k0' k1' k5' k6' k7' k8'
        have hcn := cntL_le A i j
        have hcs : Hid (cntL A i (j + 1) = cntL A i j + if A j = i then 1 else 0) := rfl
        by_cases hlt : j < m
        · obtain ⟨b, o, rfl, hc0⟩ := hA.out j hlt
          have hc := below_cell hc0 hb (World.block_lt_of_cell? w _ hc0)
          have hjn : (j : Int) < m := by omega
          clear hc0
          by_cases h1 : A j = i
          · have e1 : (A j == (i : Int)) = true := by simp [h1]
            have hcs' : Hid (cntL A i (j + 1) = cntL A i j + 1) := by have := hcs.out; rw [if_pos h1] at this; exact this
            clear h1
            go_wp2_with fail
            refine hK2 (m - (j + 1)) _ _ (by omega) ⟨j + 1, by omega, rfl, by kernel_rfl, rfl, by kernel_rfl, by kernel_rfl, by kernel_rfl, by kernel_rfl, ?_, ?_⟩
            · show Value.int _ _ = Value.int _ _
              rw [hcs'.out]
              simp
            · show Value.int _ _ = Value.int _ _
              simp
          · have e1 : (A j == (i : Int)) = false := by simp [h1]
            have hcs' : Hid (cntL A i (j + 1) = cntL A i j) := by have := hcs.out; rw [if_neg h1] at this; exact this
            clear h1
            go_wp2_with fail
            refine hK2 (m - (j + 1)) _ _ (by omega) ⟨j + 1, by omega, rfl, by kernel_rfl, rfl, by kernel_rfl, by kernel_rfl, by kernel_rfl, by kernel_rfl, ?_, ?_⟩
            · show Value.int _ _ = Value.int _ _
              rw [hcs'.out]
            · show Value.int _ _ = Value.int _ _
              simp
        · obtain rfl : j = m := by omega
          have hcn := cntL_le A i j
          have hTd : Hid (turnL L A j i = if cntL A i j % 2 = 1 ∧ (L i = 1 ∨ L i = 2) then 3 - L i else L i) := rfl
          generalize cntL A i j = q at *
          by_cases h1 : q % 2 = 1
          · have e1 : ((q : Int) % 2 == 1) = true := by simp; omega
            by_cases h2 : L i = 1
            · have e2 : (L i == 1) = true := by simp [h2]
              have hT : Hid (turnL L A j i = 2) := by show turnL L A j i = 2; rw [hTd.out, if_pos ⟨h1, .inl h2⟩]; omega
              clear h1 h2
              go_wp2_with (at_builtin; refine append_one rfl _ _ 47 rfl w.heap.size 35 i0 (.int .u8 0) 1 Try.underlying47 hf0 hz0 hz1 hz2 rfl _ _ _ rfl hown'.out _ rfl rfl (by omega) (by omega) hb.size ?_)
              intro g cc w1 hown1 hg1 hb1
              rw [← hT.out, ← nums_succ] at hown1
              replace hown1 := Lib.hid hown1
              have hb2 := hb.trans hb1
              clear hb1 hg1 hown' hb
              go_wp2_with fail
              refine hK (n - (i + 1)) _ _ (by omega) ⟨i + 1, _, by omega, hown1.out, hb2, by kernel_rfl, rfl, by kernel_rfl, by kernel_rfl, by kernel_rfl, ?_⟩
              show Value.int _ _ = Value.int _ _
              simp
            · by_cases h3 : L i = 2
              · have e2 : (L i == 1) = false := by simp [h2]
                have e3 : (L i == 2) = true := by simp [h3]
                have hT : Hid (turnL L A j i = 1) := by show turnL L A j i = 1; rw [hTd.out, if_pos ⟨h1, .inr h3⟩]; omega
                clear h1 h2 h3
                go_wp2_with (at_builtin; refine append_one rfl _ _ 47 rfl w.heap.size 35 i0 (.int .u8 0) 1 Try.underlying47 hf0 hz0 hz1 hz2 rfl _ _ _ rfl hown'.out _ rfl rfl (by omega) (by omega) hb.size ?_)
                intro g cc w1 hown1 hg1 hb1
                rw [← hT.out, ← nums_succ] at hown1
                replace hown1 := Lib.hid hown1
                have hb2 := hb.trans hb1
                clear hb1 hg1 hown' hb
                go_wp2_with fail
                refine hK (n - (i + 1)) _ _ (by omega) ⟨i + 1, _, by omega, hown1.out, hb2, by kernel_rfl, rfl, by kernel_rfl, by kernel_rfl, by kernel_rfl, ?_⟩
                show Value.int _ _ = Value.int _ _
                simp
              · have e2 : (L i == 1) = false := by simp [h2]
                have e3 : (L i == 2) = false := by simp [h3]
                have hT : Hid (turnL L A j i = L i) := by show turnL L A j i = L i; rw [hTd.out, if_neg (by omega)]
                clear h1 h2 h3
                go_wp2_with (at_builtin; refine append_one rfl _ _ 47 rfl w.heap.size 35 i0 (.int .u8 0) 1 Try.underlying47 hf0 hz0 hz1 hz2 rfl _ _ _ rfl hown'.out _ rfl rfl (by omega) (by omega) hb.size ?_)
                intro g cc w1 hown1 hg1 hb1
                rw [← hT.out, ← nums_succ] at hown1
                replace hown1 := Lib.hid hown1
                have hb2 := hb.trans hb1
                clear hb1 hg1 hown' hb
                go_wp2_with fail
                refine hK (n - (i + 1)) _ _ (by omega) ⟨i + 1, _, by omega, hown1.out, hb2, by kernel_rfl, rfl, by kernel_rfl, by kernel_rfl, by kernel_rfl, ?_⟩
                show Value.int _ _ = Value.int _ _
                simp
          · have e1 : ((q : Int) % 2 == 1) = false := by simp; omega
            have hT : Hid (turnL L A j i = L i) := by show turnL L A j i = L i; rw [hTd.out, if_neg (by omega)]
            clear h1
            go_wp2_with (at_builtin; refine append_one rfl _ _ 47 rfl w.heap.size 35 i0 (.int .u8 0) 1 Try.underlying47 hf0 hz0 hz1 hz2 rfl _ _ _ rfl hown'.out _ rfl rfl (by omega) (by omega) hb.size ?_)
            intro g cc w1 hown1 hg1 hb1
            rw [← hT.out, ← nums_succ] at hown1
            replace hown1 := Lib.hid hown1
            have hb2 := hb.trans hb1
            clear hb1 hg1 hown' hb
            go_wp2_with fail
            refine hK (n - (i + 1)) _ _ (by omega) ⟨i + 1, _, by omega, hown1.out, hb2, by kernel_rfl, rfl, by kernel_rfl, by kernel_rfl, by kernel_rfl, ?_⟩
            show Value.int _ _ = Value.int _ _
            simp
    · obtain rfl : i = n := by omega
      obtain ⟨al, cl, rfl, q1, q2, q3, hmine⟩ := own_mine hown'.out
      replace hmine := Lib.hid hmine
      clear hown' q3
      go_wp2_with fail
      go_ret
      exact ⟨al, cl, rfl, hmine.out, hb⟩
end Go.Proofs.Ytmdohnbhogfopaa
/- slices.Chunk over symbols, by eights: the iterator's contract. -/
namespace Go.Proofs.Ytmdohnbhogfopaa
open Go.RowKit Go.Shelf
set_option linter.unusedSimpArgs false
set_option linter.unusedVariables false
attribute [local go_sem] Oper.semAt_some
/-- Where the eight symbols of byte x begin. -/
def chA (ao : Option Addr) (x : Nat) : Option Addr := ao.map fun a => ⟨a.block, a.off + 8 * x, none⟩
/-- Bytes as far as there are any. -/
abbrev Upto (q : Nat) := { x : Nat // x < q }
def upto (q k : Nat) (hk : k ≤ q) : List (Upto q) := (List.finRange k).map fun i => ⟨i.1, by omega⟩
theorem upto_succ (q k : Nat) (hk : k + 1 ≤ q) : upto q (k + 1) hk = upto q k (by omega) ++ [⟨k, by omega⟩] := by
  simp [upto, List.finRange_succ_last, Function.comp_def]
theorem upto_length (q k : Nat) (hk : k ≤ q) : (upto q k hk).length = k := by simp [upto]
/-- What a round must keep: the iterator's own two boxes. -/
def Keep2 (Bs Bn : Nat) (W W' : World) : Prop := W'.heap[Bs]? = W.heap[Bs]? ∧ W'.heap[Bn]? = W.heap[Bn]?
theorem Keep2.trans {Bs Bn : Nat} {A B C : World} (h : Keep2 Bs Bn A B) (k : Keep2 Bs Bn B C) : Keep2 Bs Bn A C := ⟨k.1.trans h.1, k.2.trans h.2⟩
theorem Keep2.cells {Bs Bn : Nat} {A B : World} (h : Keep2 Bs Bn A B) {v : Value} : (A.cell? ⟨Bs, 0, none⟩ = some v → B.cell? ⟨Bs, 0, none⟩ = some v) ∧ (A.cell? ⟨Bn, 0, none⟩ = some v → B.cell? ⟨Bn, 0, none⟩ = some v) :=
  ⟨fun e => (World.cell?_of_block (w := A) h.1).trans e, fun e => (World.cell?_of_block (w := A) h.2).trans e⟩
theorem keep2_b {Bs Bn : Nat} {w : World} (h1 : Bs < w.heap.size) (h2 : Bn < w.heap.size) (W : World) (l : Nat) (o o' : Obj) (hl : w.heap.size ≤ l) (h : W.heap[l]? = some o) (_ : o.isCells = false) (_ : o.isWalk = false) : Keep2 Bs Bn W (W.putObj l o') :=
  ⟨World.putObj_heap_other (by omega), World.putObj_heap_other (by omega)⟩
set_option maxRecDepth 100000 in
set_option maxHeartbeats 2000000 in
theorem chunk1_in (F : Fence) (n : Nat) (hF : F.fn 137) (hro : F.round = none) (hn : 1 ≤ n) (l Bs Bn : Nat) (ao : Option Addr) (q c : Nat) (hao : 0 < q → ∃ b o, ao = some ⟨b, o, none⟩) (hc : 8 * q ≤ c) (hc63 : c ≤ 9223372036854775807) (hq : q ≤ 1000000) (J Jx : List (Upto q) → World → Prop)
    (W : World) (hJ : AbidesFrom W.heap.size J)
    (hY : ∀ pre x W, J pre W → pre.length < q → YieldAt F (n - 1) Try.prog l #[.slice (chA ao x.1) 8 8] W fun e W' =>
      (e = .returned (.bool true) ∧ J (pre ++ [x]) W' ∧ Keep2 Bs Bn W W') ∨ (e = .returned (.bool false) ∧ Jx (pre ++ [x]) W'))
    (hBs : W.cell? ⟨Bs, 0, none⟩ = some (.slice ao (8 * q) c)) (hBn : W.cell? ⟨Bn, 0, none⟩ = some (.int .i64 8)) (h0 : J [] W) :
    CallsIn F n Try.prog 137 #[.func (.yield l) #[] #[], .pointer (some ⟨Bs, 0, none⟩), .pointer (some ⟨Bn, 0, none⟩)] W fun e W' => (∃ v, e = .returned v) ∧
      ((∃ ys, ys = upto q q (Nat.le_refl _) ∧ J ys W') ∨ (∃ pre, True ∧ Jx pre W')) := by
  refine callsIn_of_wp Try.func137 rfl hF ?_ hro
  simp only [Try.ntmps137, List.size_toArray, List.length_cons, List.length_nil, Nat.reduceAdd, Nat.reduceSub, Array.replicate_succ, Array.replicate_zero, List.push_toArray, List.append_toArray, List.nil_append, List.cons_append]
  replace hY := Lib.hid hY
  replace hao := Lib.hid hao
  gi_wp2
  gi_loopw [4, 5] (fun i _ wr => ∃ (k : Nat) (hk : k ≤ q), i = .int .i64 (8 * k : Nat) ∧ J (upto q k hk) wr ∧ Keep2 Bs Bn W wr)
    (fun i _ _ => 8 * q - (intOf i).toNat)
  case atStart => exact ⟨0, Nat.zero_le _, rfl, h0, rfl, rfl⟩
  case round =>
    obtain ⟨k, hk, rfl, hJs, hnx⟩ := hrel
    have hs := hnx.cells.1 hBs
    have hn8 := hnx.cells.2 hBn
    have hnx' := Lib.hid hnx
    clear hnx
    by_cases hlt : k < q
    · obtain ⟨b, o, rfl⟩ := hao.out (by omega)
      have hin : ((8 * k : Nat) : Int) < ((8 * q : Nat) : Int) := by omega
      have hlt8 : ((((8 * q - 8 * k : Nat) : Int)) < 8) = False := by simp; omega
      have hJd : J (upto q k hk) wr.drew := hJ _ wr wr.drew none hJs ⟨rfl, rfl, rfl, Nat.le_refl _, fun _ _ _ => rfl⟩ (fun r h => by cases h)
      obtain ⟨fn, tmps, assign, body, hy, hR⟩ := hY.out _ ⟨k, hlt⟩ wr.drew hJd (by rw [upto_length]; exact hlt)
      dsimp only [chA, Option.map_some] at hy
      replace hR := Lib.hid hR
      clear hJd
      gi_wp2
      gi_region
      all_goals
        gi_wp2
        refine hR.out.mono ?_
        rintro e W3 (⟨rfl, hJ3, hk3⟩ | ⟨rfl, hJx3⟩)
        · have hn83 := hk3.cells.2 hn8
          have hk3' := Lib.hid hk3
          clear hk3
          gi_wp2
          go_roundw
          case rel => exact ⟨k + 1, by omega, by show Value.int _ _ = Value.int _ _; congr 1, by rw [upto_succ]; exact hJ3, Keep2.trans hnx'.out (Keep2.trans (B := wr.drew) ⟨rfl, rfl⟩ hk3'.out)⟩
          case measure => simp [intOf]; omega
        · gi_wp2
          refine bodyPost_ret (results_none rfl _ _ _) rfl ?_
          exact ⟨⟨_, rfl⟩, .inr ⟨_, trivial, hJx3⟩⟩
    · obtain rfl : k = q := by omega
      gi_wp2
      go_end0
      exact ⟨⟨_, rfl⟩, .inl ⟨_, rfl, hJs⟩⟩
set_option maxHeartbeats 1000000 in
theorem chunk_in (F : Fence) (n : Nat) (hF : F.fn 116) (hro : F.round = none) (ao : Option Addr) (m c : Nat) (w : World) :
    CallsIn F n Try.prog 116 #[.slice ao m c, .int .i64 8] w fun e w' => e = .returned (.func (.func 137) #[] #[.pointer (some ⟨w.heap.size, 0, none⟩), .pointer (some ⟨w.heap.size + 1, 0, none⟩)]) ∧
      w' = (w.alloc (.cells #[.slice ao m c] 47)).alloc (.cells #[.int .i64 8] 3) := by
  refine callsIn_of_wp Try.func116 rfl hF ?_ hro
  simp only [Try.ntmps116, List.size_toArray, List.length_cons, List.length_nil, Nat.reduceAdd, Nat.reduceSub, Array.replicate_succ, Array.replicate_zero, List.push_toArray, List.append_toArray, List.nil_append, List.cons_append]
  gi_wp2
  go_ret
  exact ⟨rfl, rfl⟩
theorem chunk_stops (F : Fence) (n : Nat) (hF : F.fn 137) (hro : F.round = none) (hn : 1 ≤ n) (Bs Bn : Nat) (ao : Option Addr) (q c : Nat) (hao : 0 < q → ∃ b o, ao = some ⟨b, o, none⟩) (hc : 8 * q ≤ c) (hc63 : c ≤ 9223372036854775807) (hq : q ≤ 1000000)
    (w : World) (hBs0 : Bs < w.heap.size) (hBn0 : Bn < w.heap.size) (hBs : w.cell? ⟨Bs, 0, none⟩ = some (.slice ao (8 * q) c)) (hBn : w.cell? ⟨Bn, 0, none⟩ = some (.int .i64 8)) :
    SeqStopsK F n Try.prog 137 #[.pointer (some ⟨Bs, 0, none⟩), .pointer (some ⟨Bn, 0, none⟩)] (fun x : Upto q => #[.slice (chA ao x.1) 8 8]) (Keep2 Bs Bn) (fun ys => ys = upto q q (Nat.le_refl _)) (fun _ => True) q w :=
  fun l J Jx W hW hJ _ hY h0 =>
    chunk1_in F n hF hro hn l Bs Bn ao q c hao hc hc63 hq J Jx W hJ hY ((hW.cell (p := ⟨Bs, 0, none⟩) hBs0).trans hBs) ((hW.cell (p := ⟨Bn, 0, none⟩) hBn0).trans hBn) h0
end Go.Proofs.Ytmdohnbhogfopaa
/- Bits: Bytes: what it answers. -/
namespace Go.Proofs.Ytmdohnbhogfopaa
open Go.RowKit Go.Shelf
set_option linter.unusedSimpArgs false
set_option linter.unusedVariables false
attribute [local go_sem] Oper.semAt_some
/-- Are these symbols those of bytes? -/
def okB (L : Nat → Int) (n : Nat) : Bool := decide (n % 8 = 0) && wholeL L n
/-- As many bytes. -/
def cntB (L : Nat → Int) (n : Nat) : Nat := if okB L n then n / 8 else 0
theorem boxed_kept {A A' : World} {B : Nat} {t : TypeId} {v : Value} {row : Option Nat} (h : Boxed A B t v) (hg : A.grownBy A' row) (hr : ∀ r, row = some r → ∃ o : Obj, A.heap[r]? = some o ∧ o.isCells = false) : Boxed A' B t v :=
  h.kept hg fun e => by
    obtain ⟨o, ho, hc⟩ := hr B e.symm
    rw [show A.heap[B]? = _ from h] at ho
    cases ho
    cases hc
theorem boxed_ne {A : World} {B B' : Nat} {t : TypeId} {v u : Value} (h : Boxed A B t v) (hne : B ≠ B') : Boxed (A.setCell ⟨B', 0, none⟩ u) B t v := (Below.heap_setCell _ _ _ _ hne).trans h
theorem boxed_alloc2 (w : World) (t1 t2 : TypeId) (v1 v2 : Value) : Boxed ((w.alloc (.cells #[v1] t1)).alloc (.cells #[v2] t2)) (w.heap.size + 1) t2 v2 := by
  have := Boxed.new (w.alloc (.cells #[v1] t1)) t2 v2
  simpa using this
/-- The bytes of the symbols that have come. -/
def come (L : Nat → Int) {q : Nat} (pre : List (Upto q)) : List Value := pre.map fun x => .int .u8 (bytesL L x.1)
theorem come_upto (L : Nat → Int) (q : Nat) : come L (upto q q (Nat.le_refl _)) = nums .u8 (bytesL L) q := by
  simp only [come, upto, nums, List.map_map]
  apply List.ext_getElem
  · simp
  · intro i h1 h2
    simp
def wholeB (L : Nat → Int) (x : Nat) : Bool := wholeL (fun i => L (8 * x + i)) 8
theorem whole_all (L : Nat → Int) (q : Nat) (h : ∀ x, x < q → wholeB L x = true) : wholeL L (8 * q) = true := wholeL_iff.2 fun i hi => by
  have := wholeL_iff.1 (h (i / 8) (by omega)) (i % 8) (by omega)
  have e : 8 * (i / 8) + i % 8 = i := by omega
  rw [e] at this
  exact this
theorem whole_one (L : Nat → Int) (q x : Nat) (hx : x < q) (h : wholeB L x = false) : wholeL L (8 * q) = false := by
  obtain ⟨i, hi, h1, h2⟩ := wholeL_false.1 h
  exact wholeL_false.2 ⟨8 * x + i, by omega, h1, h2⟩
theorem num_chunk (L : Nat → Int) (x : Nat) : numR (fun i => L (8 * x + i)) 8 = if wholeB L x then (bytesL L x, true) else (0, false) := by
  unfold numR wholeB bytesL
  by_cases h : wholeL (fun i => L (8 * x + i)) 8 = true <;> simp [h]
theorem Rd.sub' {k : IntKind} {w : World} {b o n : Nat} {L : Nat → Int} (h : Rd k w (some ⟨b, o, none⟩) n L) (p m : Nat) (hpm : p + m ≤ n) : Rd k w (some ⟨b, o + p, none⟩) m (fun i => L (p + i)) := fun i hi => by
  obtain ⟨b', o', h1, h2⟩ := h (p + i) (by omega)
  simp only [Option.some.injEq, Addr.mk.injEq, and_true] at h1
  obtain ⟨rfl, rfl⟩ := h1
  exact ⟨b, o + p, rfl, by rw [Nat.add_assoc]; exact h2⟩
/-- What holds between two rounds. -/
def InvBytes (w : World) (B : Nat) (ao : Option Addr) (n c : Nat) (L : Nat → Int) {q : Nat} (pre : List (Upto q)) (W : World) : Prop :=
  (∀ x ∈ pre, wholeB L x.1 = true) ∧ Boxed W B 22 (.slice none 0 0) ∧ Boxed W (B + 1) 4 (.bool false) ∧ Boxed W (B + 3) 47 (.slice ao n c) ∧ Boxed W (B + 4) 3 (.int .i64 8) ∧
    ∃ v, Boxed W (B + 2) 22 v ∧ W.ownsRow B 5 1 v pre.length (come L pre) ∧ True
def OutBytes (B : Nat) (L : Nat → Int) (n : Nat) (cd : Code) {q : Nat} (pre : List (Upto q)) (W : World) : Prop :=
  cd = .ret ∧ wholeL L n = false ∧ Boxed W B 22 (.slice none 0 0) ∧ Boxed W (B + 1) 4 (.bool false)
theorem invBytes_own (w : World) (B : Nat) (ao : Option Addr) (n c : Nat) (L : Nat → Int) (q : Nat) : Own (fun (pre : List (Upto q)) W => InvBytes w B ao n c L pre W) := fun s A A' row hs hg hr =>
  ⟨hs.1, boxed_kept hs.2.1 hg hr, boxed_kept hs.2.2.1 hg hr, boxed_kept hs.2.2.2.1 hg hr, boxed_kept hs.2.2.2.2.1 hg hr,
    holdsRow_own B (B + 2) 22 5 1 (fun pre : List (Upto q) => pre.length) (fun pre => come L pre) (fun _ _ => True) s A A' row hs.2.2.2.2.2 hg hr⟩
theorem outBytes_own (B : Nat) (L : Nat → Int) (n : Nat) (cd : Code) (q : Nat) : Own (fun (pre : List (Upto q)) W => OutBytes B L n cd pre W) := fun s A A' row hs hg hr =>
  ⟨hs.1, hs.2.1, boxed_kept hs.2.2.1 hg hr, boxed_kept hs.2.2.2 hg hr⟩
theorem clipBytes (w : World) (a : Option Addr) (n c : Nat) (hn : n ≤ c) (hc : c ≤ 9223372036854775807) :
    Calls Try.prog 118 #[.slice a n c] w fun e w' => e = .returned (.slice a n n) ∧ w = w' := by
  go_enter Try.func118, Try.ntmps118
  go_wp2
  go_ret
  exact ⟨rfl, rfl⟩
set_option maxHeartbeats 1000000 in
theorem bitsBytes_odd (w : World) (ao : Option Addr) (n c : Nat) (h8 : n % 8 ≠ 0) (hn : n ≤ 1000000) :
    Calls Try.prog 74 #[.slice ao n c] w fun e w' => e = .returned (.tuple #[.slice none 0 0, .bool false]) ∧ Below w.heap.size w w' := by
  have hmod : (((n : Nat) : Int) % 8 != 0) = true := by simp; omega
  clear h8
  go_enter Try.func74, Try.ntmps74
  go_wp2
  refine bodyPost_ret (v := .tuple #[.slice none 0 0, .bool false]) (by simp [results, Try.results74, go_sem]) rfl ⟨rfl, ?_⟩
  exact (below_alloc w _).alloc (by simp) _
set_option maxRecDepth 100000 in
set_option maxHeartbeats 2000000 in
theorem bitsBytes_8 (w : World) (ao : Option Addr) (q c : Nat) (L : Nat → Int) (ha : Rd .u8 w ao (8 * q) L) (hnil : NilOk ao (8 * q) c) (hq : q ≤ 100000) :
    Calls Try.prog 74 #[.slice ao (8 * q) c] w fun e w' => ∃ a, e = .returned (.tuple #[.slice a (cntB L (8 * q)) (cntB L (8 * q)), .bool (okB L (8 * q))]) ∧ Mine .u8 5 w.heap.size w' a (cntB L (8 * q)) (bytesL L) ∧ Below w.heap.size w w' := by
  obtain ⟨i0, hf0, hz0, hz1, hz2⟩ := info_parts elemHBytes
  have hao : 0 < q → ∃ b o, ao = some ⟨b, o, none⟩ := fun h => by
    obtain ⟨b, o, h1, _⟩ := ha 0 (by omega)
    exact ⟨b, o, h1⟩
  have hcq : 8 * q ≤ c := hnil.1
  have hc63 := hnil.2.1
  replace ha := Lib.hid ha
  have hmod : (((8 * q : Nat) : Int) % 8 != 0) = false := by simp
  have hne : (8 * q) % 8 = 0 := by omega
  clear hnil
  refine (callsIn_wide (n := 3)).1 ?_
  refine callsIn_of_wp_marks Try.func74 rfl trivial ?_ rfl
  simp only [Try.ntmps74, List.size_toArray, List.length_cons, List.length_nil, Nat.reduceAdd, Nat.reduceSub, Array.replicate_succ, Array.replicate_zero, List.push_toArray, List.append_toArray, List.nil_append, List.cons_append]
  gi_wp2_with fail
  refine ⟨trivial, ?_⟩
  refine (chunk_in Fence.wide _ trivial rfl _ _ _ _).mono ?_
  rintro e w' ⟨rfl, rfl⟩
  have hW : ∃ W0 : World, ((((w.alloc (.cells #[.slice none 0 0] 22)).alloc (.cells #[.bool false] 4)).alloc (.cells #[.slice none 0 0] 22)).alloc (.cells #[.slice ao (8 * q) c] 47)).alloc (.cells #[.int .i64 8] 3) = W0 ∧
      Below w.heap.size w W0 ∧ W0.heap.size = w.heap.size + 5 ∧ Boxed W0 w.heap.size 22 (.slice none 0 0) ∧ Boxed W0 (w.heap.size + 1) 4 (.bool false) ∧ Boxed W0 (w.heap.size + 2) 22 (.slice none 0 0) ∧ Boxed W0 (w.heap.size + 3) 47 (.slice ao (8 * q) c) ∧ Boxed W0 (w.heap.size + 4) 3 (.int .i64 8) := by
    refine ⟨_, rfl, ((((below_alloc w _).alloc (by simp) _).alloc (by simp; omega) _).alloc (by simp; omega) _).alloc (by simp; omega) _, by simp, ?_, ?_, ?_, ?_, ?_⟩
    · exact ((((Boxed.new w _ _).alloc _).alloc _).alloc _).alloc _
    · exact (((boxed_alloc2 w _ _ _ _).alloc _).alloc _).alloc _
    · have := Boxed.new ((w.alloc (.cells #[.slice none 0 0] 22)).alloc (.cells #[.bool false] 4)) 22 (.slice none 0 0)
      simp only [World.size_alloc] at this
      exact (this.alloc _).alloc _
    · have := Boxed.new (((w.alloc (.cells #[.slice none 0 0] 22)).alloc (.cells #[.bool false] 4)).alloc (.cells #[.slice none 0 0] 22)) 47 (.slice ao (8 * q) c)
      simp only [World.size_alloc] at this
      exact this.alloc _
    · have := Boxed.new ((((w.alloc (.cells #[.slice none 0 0] 22)).alloc (.cells #[.bool false] 4)).alloc (.cells #[.slice none 0 0] 22)).alloc (.cells #[.slice ao (8 * q) c] 47)) 3 (.int .i64 8)
      simp only [World.size_alloc] at this
      exact this
  simp only [World.size_alloc] at hW ⊢
  obtain ⟨W0, hW0, hb, hsz, x0, x1, x2, x3, x4⟩ := hW
  rw [hW0]
  clear hW0
  have hs0 : w.heap.size + 5 ≤ W0.heap.size := by omega
  clear hsz
  gi_wp2
  refine wpIn_rangeFunc_ownF rfl (by omega) (gf := 137) (lb := #[.pointer (some ⟨w.heap.size + 3, 0, none⟩), .pointer (some ⟨w.heap.size + 4, 0, none⟩)]) rfl trivial (enters_of Try.func137 (by kernel_rfl) rfl)
    (chunk_stops Fence.wide _ trivial rfl (by omega) (w.heap.size + 3) (w.heap.size + 4) ao q c hao hcq hc63 (by omega) W0 (by omega) (by omega) x3.cell x4.cell) Keep2.trans (keep2_b (by omega) (by omega)) (Below.refl _ _) (fun _ => rfl)
    (fun pre W => InvBytes w w.heap.size ao (8 * q) c L pre W ∧ Below w.heap.size w W)
    (fun cd pre W => OutBytes w.heap.size L (8 * q) cd pre W ∧ Below w.heap.size w W)
    (OwnFrom.and (Own.from (invBytes_own w w.heap.size ao (8 * q) c L q) _) (ownFrom_below (Nat.le_refl _) (by omega)))
    (fun cd => OwnFrom.and (Own.from (outBytes_own w.heap.size L (8 * q) cd q) _) (ownFrom_below (Nat.le_refl _) (by omega)))
    ⟨⟨by simp, x0, x1, x3, x4, _, x2, World.ownsRow_nil _ _ _ _, trivial⟩, hb⟩
    (fun x => { tmps := #[.slice ao (8 * q) c, undef, .pointer (some ⟨w.heap.size, 0, none⟩), .pointer (some ⟨w.heap.size + 1, 0, none⟩), .pointer (some ⟨w.heap.size + 1 + 1, 0, none⟩), .slice (chA ao x.1) 8 8, undef, undef, .slice ao (8 * q) c, .int .i64 (8 * (q : Int)), .int .i64 0, .bool false, .slice ao (8 * q) c,
      .func (.func 137) #[] #[.pointer (some ⟨w.heap.size + 3, 0, none⟩), .pointer (some ⟨w.heap.size + 4, 0, none⟩)], .slice (chA ao x.1) 8 8, undef, undef, undef, undef, undef, undef, undef, undef, undef, undef, undef, undef, undef, undef], defers := [] }) ?assign ?body ?done ?stop
  case assign =>
    intro l x W K hK
    gi_wp2
    exact hK
  case body =>
    rintro l pre x W ⟨⟨hp, y0, y1, y3, y4, v, y2, hrow, _⟩, hB⟩ hlt
    obtain ⟨b, o, rfl⟩ := hao (by omega)
    have hxq := x.2
    have c0 := y0.cell
    have c1 := y1.cell
    have c2 : W.cell? ⟨w.heap.size + 1 + 1, 0, none⟩ = some v := y2.cell
    have f0 := y0.frozen
    have f1 := y1.frozen
    have f2 : W.frozen? ⟨w.heap.size + 1 + 1, 0, none⟩ = false := y2.frozen
    have hsub := (ha.out.below hB (Nat.le_refl _)).sub' (8 * x.1) 8 (by omega)
    have hnum := num_chunk L x.1
    replace hsub := Lib.hid hsub
    have hch : chA (some ⟨b, o, none⟩) x.1 = some ⟨b, o + 8 * x.1, none⟩ := rfl
    have hS := hB.size
    gi_wp2_with fail
    refine ⟨trivial, ?_⟩
    rw [hch]
    refine (CallsIn.inRound l (callsIn_wide.2 (bitsNum W _ 8 8 _ hsub.out (by omega)))).mono ?_
    rintro e _ ⟨rfl, rfl⟩
    rw [hnum]
    clear hsub hnum
    by_cases hw : wholeB L x.1 = true
    · rw [if_pos hw]
      have hbd : 0 ≤ bytesL L x.1 ∧ bytesL L x.1 < 256 := by
        have := numL_bd hw
        unfold bytesL
        exact ⟨this.1, by have h2 := this.2; have : ((2 : Int) ^ 8) = 256 := by decide
                          omega⟩
      have hw8 : IntKind.u8.wrap (bytesL L x.1) = bytesL L x.1 := by rw [IntKind.wrap_u8]; omega
      have hall : ∀ y ∈ pre ++ [x], wholeB L y.1 = true := fun y hy => (List.mem_append.1 hy).elim (hp y) (fun e => by simp at e; subst e; exact hw)
      have hcome : come L (pre ++ [x]) = come L pre ++ [.int .u8 (bytesL L x.1)] := by simp [come]
      replace hall := Lib.hid hall
      replace hp := Lib.hid hp
      replace hw := Lib.hid hw
      replace hcome := Lib.hid hcome
      generalize bytesL L x.1 = t at *
      gi_wp2_with (gi_at_builtin; refine wpListIn_append_own _ rfl _ _ 22 rfl w.heap.size 5 i0 (.int .u8 0) 1 1 Try.underlying22 hf0 hz0 hz1 hz2 rfl (by decide) _ _ _ rfl (hrow.alloc _) ⟨W.heap.size, 0, none⟩ 1 1 [.int .u8 t] rfl rfl (cell_one_new _ _ _) (by simp [Value.oneCell']) (by unfold maxLen; omega) (by omega) (by simp; omega) ?_; intro v' w1 hown' hgrow _; obtain ⟨g', cap', rfl⟩ := ownsRow_succ hown'; obtain ⟨hv1, hv2, hr2, hk2, hb2⟩ := y2.appended (by decide) hrow hS (by omega) hown' hgrow; have hc1 : w1.cell? ⟨w.heap.size + 1 + 1, 0, none⟩ = some v := hv1.cell; have hf1 : w1.frozen? ⟨w.heap.size + 1 + 1, 0, none⟩ = false := hv1.frozen)
      have k0 := boxed_ne (B' := w.heap.size + 2) (u := .slice (some ⟨g', 0, none⟩) (pre.length + 1) cap') ((y0.alloc (.cells #[.int .u8 t] 5)).kept hgrow ((y0.alloc (.cells #[.int .u8 t] 5)).not_row (by decide) (hrow.alloc _))) (by omega)
      have k1 := boxed_ne (B' := w.heap.size + 2) (u := .slice (some ⟨g', 0, none⟩) (pre.length + 1) cap') ((y1.alloc (.cells #[.int .u8 t] 5)).kept hgrow ((y1.alloc (.cells #[.int .u8 t] 5)).not_row (by decide) (hrow.alloc _))) (by omega)
      have k3 := boxed_ne (B' := w.heap.size + 2) (u := .slice (some ⟨g', 0, none⟩) (pre.length + 1) cap') ((y3.alloc (.cells #[.int .u8 t] 5)).kept hgrow ((y3.alloc (.cells #[.int .u8 t] 5)).not_row (by decide) (hrow.alloc _))) (by omega)
      have k4 := boxed_ne (B' := w.heap.size + 2) (u := .slice (some ⟨g', 0, none⟩) (pre.length + 1) cap') ((y4.alloc (.cells #[.int .u8 t] 5)).kept hgrow ((y4.alloc (.cells #[.int .u8 t] 5)).not_row (by decide) (hrow.alloc _))) (by omega)
      exact ⟨hk2, ⟨k3.trans (Eq.symm y3), k4.trans (Eq.symm y4)⟩, ⟨hall.out, k0, k1, k3, k4, _, hv2, by rw [hcome.out, List.length_append]; exact hr2, trivial⟩, hB.trans hb2⟩
    · rw [if_neg hw]
      have hwf := whole_one L q x.1 hxq (by simpa using hw)
      replace hwf := Lib.hid hwf
      clear hw
      gi_wp2
      exact ⟨(KeepsOthers.setCell _ _ _).trans (KeepsOthers.setCell _ _ _), ⟨rfl, hwf.out, boxed_ne (y0.set _) (by omega), (boxed_ne y1 (by omega)).set _⟩, (hB.setCell (p := ⟨w.heap.size, 0, none⟩) (Nat.le_refl _) _).setCell (p := ⟨w.heap.size + 1, 0, none⟩) (by show w.heap.size ≤ w.heap.size + 1; omega) _⟩
  case done =>
    rintro D xs W hD rfl ⟨⟨hp, y0, y1, y3, y4, v, y2, hrow, _⟩, hB⟩ hK
    have hwh : wholeL L (8 * q) = true := whole_all L q fun x hx => hp ⟨x, hx⟩ (by simp [upto]; exact ⟨⟨x, hx⟩, rfl⟩)
    have hok : okB L (8 * q) = true := by simp [okB, hwh]
    have hcn : cntB L (8 * q) = q := by simp [cntB, hok]
    rw [come_upto, upto_length] at hrow
    obtain ⟨al, cl, rfl, q1, q2, q3, hmine⟩ := own_mine hrow
    have c0 := y0.cell
    have c1 := y1.cell
    have c2 : W.cell? ⟨w.heap.size + 1 + 1, 0, none⟩ = some (.slice al q cl) := y2.cell
    have f0 := y0.frozen
    have f1 := y1.frozen
    replace hok := Lib.hid hok
    replace hcn := Lib.hid hcn
    have hmine' := Lib.hid hmine
    clear hp hrow hmine q3 hwh
    gi_wp2
    refine ⟨trivial, ?_⟩
    refine (callsIn_wide.2 (clipBytes W al q cl q1 q2)).mono ?_
    rintro e _ ⟨rfl, rfl⟩
    gi_wp2
    have hKo : KeepsOthers W ((W.setCell ⟨w.heap.size, 0, none⟩ (.slice al q q)).setCell ⟨w.heap.size + 1, 0, none⟩ (.bool true)) := (KeepsOthers.setCell _ _ _).trans (KeepsOthers.setCell _ _ _)
    have hK' := hKo.same D _ hK rfl
    have hb' : Below w.heap.size w ((W.setCell ⟨w.heap.size, 0, none⟩ (.slice al q q)).setCell ⟨w.heap.size + 1, 0, none⟩ (.bool true)) := (hB.setCell (p := ⟨w.heap.size, 0, none⟩) (Nat.le_refl _) _).setCell (p := ⟨w.heap.size + 1, 0, none⟩) (by show w.heap.size ≤ w.heap.size + 1; omega) _
    refine ⟨by simp, .inl ⟨_, _, rfl, run_takeDeferred hK', ?_⟩⟩
    have z0 := boxed_kept (boxed_ne (B' := w.heap.size + 1) (u := .bool true) (y0.set (.slice al q q)) (by omega)) (grownBy_putObj' _ D (.deferred none)) (fun r e => by cases e; exact ⟨_, hK', rfl⟩)
    have z1 := boxed_kept ((boxed_ne (B' := w.heap.size) (u := .slice al q q) y1 (by omega)).set (.bool true)) (grownBy_putObj' _ D (.deferred none)) (fun r e => by cases e; exact ⟨_, hK', rfl⟩)
    refine ⟨.tuple #[.slice al q q, .bool true], ?_, al, by rw [hok.out, hcn.out], ?_, hb'.trans (belowK_b (w := w) (Nat.le_refl _) _ D _ _ (by omega) hK' rfl rfl)⟩
    · simp [results, Try.results74, go_sem, z0.cell, z1.cell]
    · rw [hcn.out]
      intro h0
      obtain ⟨g, cur, e1, e2, e3, e4, e5⟩ := hmine'.out h0
      have n0 : g ≠ w.heap.size := by
        rintro rfl
        have := (show W.heap[w.heap.size]? = _ from y0).symm.trans e3
        simp at this
      have n1 : g ≠ w.heap.size + 1 := by
        rintro rfl
        have := (show W.heap[w.heap.size + 1]? = _ from y1).symm.trans e3
        simp at this
      have nD : g ≠ D := by
        rintro rfl
        have := hK.symm.trans e3
        simp at this
      refine ⟨g, cur, e1, e2, ?_, e4, e5⟩
      exact (World.putObj_heap_other (by omega)).trans ((e3.setNe (a := ⟨w.heap.size, 0, none⟩) n0 _).setNe (a := ⟨w.heap.size + 1, 0, none⟩) n1 _)
  case stop =>
    rintro D cd pre W hD _ ⟨⟨rfl, hwf, y0, y1⟩, hB⟩ hK
    have hok : okB L (8 * q) = false := by simp [okB, hwf]
    have hcn : cntB L (8 * q) = 0 := by simp [cntB, hok]
    gi_wp2
    refine ⟨by simp, .inl ⟨_, _, rfl, run_takeDeferred hK, ?_⟩⟩
    have z0 := boxed_kept y0 (grownBy_putObj' _ D (.deferred none)) (fun r e => by cases e; exact ⟨_, hK, rfl⟩)
    have z1 := boxed_kept y1 (grownBy_putObj' _ D (.deferred none)) (fun r e => by cases e; exact ⟨_, hK, rfl⟩)
    refine ⟨.tuple #[.slice none 0 0, .bool false], ?_, none, by rw [hok, hcn], by rw [hcn]; exact Mine.nil _ _ _ _ _ _, hB.trans (belowK_b (w := w) (Nat.le_refl _) W D _ _ (by omega) hK rfl rfl)⟩
    simp [results, Try.results74, go_sem, z0.cell, z1.cell]
theorem bitsBytes (w : World) (ao : Option Addr) (n c : Nat) (L : Nat → Int) (ha : Rd .u8 w ao n L) (hnil : NilOk ao n c) (hn : n ≤ 800000) :
    Calls Try.prog 74 #[.slice ao n c] w fun e w' => ∃ a, e = .returned (.tuple #[.slice a (cntB L n) (cntB L n), .bool (okB L n)]) ∧ Mine .u8 5 w.heap.size w' a (cntB L n) (bytesL L) ∧ Below w.heap.size w w' := by
  by_cases h8 : n % 8 = 0
  · obtain ⟨q, rfl⟩ : ∃ q, n = 8 * q := ⟨n / 8, by omega⟩
    exact bitsBytes_8 w ao q c L ha hnil (by omega)
  · refine (bitsBytes_odd w ao n c h8 (by omega)).mono ?_
    rintro e w' ⟨rfl, hb⟩
    have hok : okB L n = false := by simp [okB, h8]
    have hcn : cntB L n = 0 := by simp [cntB, hok]
    exact ⟨none, by rw [hok, hcn], by rw [hcn]; exact Mine.nil _ _ _ _ _ _, hb⟩
end Go.Proofs.Ytmdohnbhogfopaa
/- The document's Bytes: what it answers. -/
namespace Go.Proofs.Ytmdohnbhogfopaa
open Go.RowKit
set_option linter.unusedSimpArgs false
set_option linter.unusedVariables false
set_option maxRecDepth 100000
def InvRBytes (w : World) (ao : Option Addr) (q c : Nat) (L : Nat → Int) (k : Nat) (a : Act) (wr : World) : Prop :=
  ∃ (i : Nat) (v : Value), i + k = q ∧ wr.ownsRow w.heap.size 5 1 v i (nums .u8 (bytesL L) i) ∧ Below w.heap.size w wr ∧ a.tmps.size = 38 ∧ a.defers = [] ∧ slot a 0 = .slice ao (8 * q) c ∧ slot a 4 = v ∧ slot a 5 = .int .i64 (8 * i : Nat)
set_option maxHeartbeats 1000000 in
theorem refBytesN_8 (w : World) (ao : Option Addr) (q c : Nat) (L : Nat → Int) (ha : Rd .u8 w ao (8 * q) L) (hnil : NilOk ao (8 * q) c) (hq : q ≤ 100000) :
    Calls Try.prog 101 #[.slice ao (8 * q) c] w fun e w' => ∃ a c', e = .returned (.tuple #[.slice a (cntB L (8 * q)) c', .bool (okB L (8 * q))]) ∧ Mine .u8 5 w.heap.size w' a (cntB L (8 * q)) (bytesL L) ∧ Below w.heap.size w w' ∧ NilOk a (cntB L (8 * q)) c' := by
  obtain ⟨i0, hf0, hz0, hz1, hz2⟩ := info_parts elemHBytes
  have hcq : 8 * q ≤ c := hnil.1
  have hc63 := hnil.2.1
  replace ha := Lib.hid ha
  have hmod : (((8 * q : Nat) : Int) % 8 != 0) = false := by simp
  have hne : (8 * q) % 8 = 0 := by omega
  clear hnil
  cases hw : wholeL L (8 * q) with
  | false =>
    have hok : okB L (8 * q) = false := by simp [okB, hw]
    have hcn : cntB L (8 * q) = 0 := by simp [cntB, hok]
    rw [hok, hcn]
    replace hw := Lib.hid hw
    clear hok hcn
    go_enter Try.func101, Try.ntmps101
    go_wp2_with fail
    refine (refWhole _ _ _ _ L ha.out (by omega)).mono ?_
    rintro e w1 ⟨rfl, q1, rfl⟩
    rw [hw.out]
    go_wp2_with fail
    go_ret2
    exact ⟨none, 0, rfl, Mine.nil _ _ _ _ _ _, below_drewN _ _, Nat.le_refl _, by omega, fun _ => ⟨rfl, rfl⟩⟩
  | true =>
    have hok : okB L (8 * q) = true := by simp [okB, hw]
    have hcn : cntB L (8 * q) = q := by simp [cntB, hok]
    rw [hok, hcn]
    replace hw := Lib.hid hw
    clear hok hcn
    go_enter Try.func101, Try.ntmps101
    go_wp2_with fail
    refine (refWhole _ _ _ _ L ha.out (by omega)).mono ?_
    rintro e w1 ⟨rfl, q1, rfl⟩
    rw [hw.out]
    have hb0 := below_drewN w q1
    generalize w.drewN q1 = w1 at *
    go_wp2_with fail
    refine wp_loop_k (InvRBytes w ao q c L) q ?_ ?_
    · exact ⟨0, .slice none 0 0, by omega, World.ownsRow_nil _ _ _ _, hb0, by kernel_rfl, rfl, by kernel_rfl, by kernel_rfl, by kernel_rfl⟩
    · intro gk a wr hI K hK
      obtain ⟨i, v, hi, hown, hb, hs', hd', k0', k4', k5'⟩ := hI
      rw [fr38 a hs' hd']; simp only [k0', k4', k5']; clear hs' hd' k0' k4' k5'
      have hown' := Lib.hid hown
      clear hown hb0
      by_cases hlt : i < q
      · obtain ⟨b, o, rfl, _⟩ := ha.out (8 * i) (by omega)
        have hin : ((8 * i : Nat) : Int) < ((8 * q : Nat) : Int) := by omega
        have hsub := Lib.hid ((ha.out.below hb (Nat.le_refl _)).sub' (8 * i) 8 (by omega))
        have hwc : wholeB L i = true := wholeL_iff.2 fun j hj => wholeL_iff.1 hw.out (8 * i + j) (by omega)
        have hnum : Hid (numR (fun j => L (8 * i + j)) 8 = (bytesL L i, true)) := by
          show numR (fun j => L (8 * i + j)) 8 = (bytesL L i, true)
          rw [num_chunk, if_pos hwc]
        have hbd : 0 ≤ bytesL L i ∧ bytesL L i < 256 := by
          have := numL_bd hwc
          unfold bytesL
          exact ⟨this.1, by have h2 := this.2; have : ((2 : Int) ^ 8) = 256 := by decide
                            omega⟩
        have hns : Hid (nums .u8 (bytesL L) (i + 1) = nums .u8 (bytesL L) i ++ [.int .u8 (bytesL L i)]) := nums_succ _ _ _
        generalize bytesL L i = t at *
        have hw8 : IntKind.u8.wrap t = t := by rw [IntKind.wrap_u8]; omega
        clear hwc
        go_wp2_with fail
        refine (refNum _ _ _ _ _ hsub.out (by omega)).mono ?_
        rintro e w2 ⟨rfl, q2, rfl⟩
        rw [hnum.out]
        have hb2 := hb.trans ((below_drewN wr q2).mono hb.size)
        have hown2 := Lib.hid (show (wr.drewN q2).ownsRow w.heap.size 5 1 v i (nums .u8 (bytesL L) i) from hown'.out)
        generalize wr.drewN q2 = w2 at *
        clear hnum hsub hb hown'
        go_wp2_with (at_builtin; refine append_one rfl _ _ 22 rfl w.heap.size 5 i0 (.int .u8 0) 1 Try.underlying22 hf0 hz0 hz1 hz2 rfl _ _ _ rfl hown2.out _ rfl rfl (by omega) (by omega) hb2.size ?_)
        intro g cc w3 hown3 hg3 hb3
        rw [← hns.out] at hown3
        replace hown3 := Lib.hid hown3
        have hb4 := hb2.trans hb3
        clear hb3 hg3 hown2 hb2
        go_wp2_with fail
        refine hK (q - (i + 1)) _ _ (by omega) ⟨i + 1, _, by omega, hown3.out, hb4, by kernel_rfl, rfl, by kernel_rfl, by kernel_rfl, ?_⟩
        show Value.int _ _ = Value.int _ _
        congr 1
      · obtain rfl : i = q := by omega
        obtain ⟨al, cl, rfl, q1, q2, q3, hmine⟩ := own_mine hown'.out
        replace hmine := Lib.hid hmine
        have q123 := Lib.hid (⟨q1, q2, q3⟩ : NilOk al _ cl)
        clear hown' q3
        go_wp2_with fail
        go_ret2
        exact ⟨al, cl, rfl, hmine.out, hb, q123.out⟩
theorem refBytesN (w : World) (ao : Option Addr) (n c : Nat) (L : Nat → Int) (ha : Rd .u8 w ao n L) (hnil : NilOk ao n c) (hn : n ≤ 800000) :
    Calls Try.prog 101 #[.slice ao n c] w fun e w' => ∃ a c', e = .returned (.tuple #[.slice a (cntB L n) c', .bool (okB L n)]) ∧ Mine .u8 5 w.heap.size w' a (cntB L n) (bytesL L) ∧ Below w.heap.size w w' ∧ NilOk a (cntB L n) c' := by
  by_cases h8 : n % 8 = 0
  · obtain ⟨q, rfl⟩ : ∃ q, n = 8 * q := ⟨n / 8, by omega⟩
    exact refBytesN_8 w ao q c L ha hnil (by omega)
  · have hok : okB L n = false := by simp [okB, h8]
    have hcn : cntB L n = 0 := by simp [cntB, hok]
    have hmod : (((n : Nat) : Int) % 8 != 0) = true := by simp; omega
    rw [hok, hcn]
    clear h8 hok hcn ha hnil
    go_enter Try.func101, Try.ntmps101
    go_wp2_with fail
    go_ret2
    exact ⟨none, 0, rfl, Mine.nil _ _ _ _ _ _, Below.refl _ _, Nat.le_refl _, by omega, fun _ => ⟨rfl, rfl⟩⟩
theorem refBytes (w : World) (ao : Option Addr) (n c : Nat) (L : Nat → Int) (ha : Rd .u8 w ao n L) (hnil : NilOk ao n c) (hn : n ≤ 800000) :
    Calls Try.prog 101 #[.slice ao n c] w fun e w' => ∃ a c', e = .returned (.tuple #[.slice a (cntB L n) c', .bool (okB L n)]) ∧ Mine .u8 5 w.heap.size w' a (cntB L n) (bytesL L) ∧ Below w.heap.size w w' :=
  (refBytesN w ao n c L ha hnil hn).mono fun e w' ⟨a, c', h1, h2, h3, _⟩ => ⟨a, c', h1, h2, h3⟩
end Go.Proofs.Ytmdohnbhogfopaa
