/- The document's bits: bit, Put, Of, Whole, Num: what they answer. -/
import Derived.Test.YtdcfoapgafiigaaBitsC
import Derived.Deep.CutBlock
namespace Go.Proofs.Ytdcfoapgafiigaa
open Go.RowKit
set_option linter.unusedSimpArgs false
set_option linter.unusedVariables false
set_option maxRecDepth 100000
def InvBit (w : World) (z i : Nat) (k : Nat) (a : Act) (wr : World) : Prop :=
  ∃ j : Nat, j + k = i ∧ wr = w ∧ a.tmps.size = 16 ∧ a.defers = [] ∧ slot a 0 = .int .u64 (z / 2 ^ j : Nat) ∧ slot a 1 = .int .i64 i ∧ slot a 5 = .int .i64 j
theorem refBit (w : World) (z i : Nat) (hz : z < 18446744073709551616) (hi : i ≤ 1000000) :
    Calls Try.prog 35 #[.int .u64 z, .int .i64 i] w fun e w' => e = .returned (.int .u8 (1 + (bitN z i : Nat))) ∧ w = w' := by
  go_enter Try.func35, Try.ntmps35
  go_wp2
  refine wp_loop_k (InvBit w z i) i ?_ ?_
  · refine ⟨0, by omega, rfl, by kernel_rfl, rfl, ?_, by kernel_rfl, by kernel_rfl⟩
    show Value.int _ _ = Value.int _ _
    simp
  · intro gk a wr hI K hK
    obtain ⟨j, hj, rfl, hs', hd', k0', k1', k5'⟩ := hI
    rw [fr16 a hs' hd']; simp only [k0', k1', k5']; clear hs' hd' k0' k1' k5'
    have hq : z / 2 ^ j ≤ z := Nat.div_le_self _ _
    have hd : z / 2 ^ (j + 1) = z / 2 ^ j / 2 := by rw [Nat.pow_succ, Nat.div_div_eq_div_mul]
    have hb : bitN z j = z / 2 ^ j % 2 := rfl
    replace hd := Lib.hid hd
    replace hb := Lib.hid hb
    generalize z / 2 ^ j = y at *
    by_cases hlt : j < i
    · go_wp2
      refine hK (i - (j + 1)) _ _ (by omega) ⟨j + 1, by omega, rfl, by kernel_rfl, rfl, ?_, by kernel_rfl, ?_⟩
      · show Value.int _ _ = Value.int _ _
        rw [hd.out]
        simp
      · show Value.int _ _ = Value.int _ _
        simp
    · obtain rfl : j = i := by omega
      by_cases h1 : y % 2 = 1
      · have e1 : ((y : Int) % 2 == 1) = true := by simp; omega
        have hx : Hid (bitN z j = 1) := by have := hb.out; show bitN z j = 1; omega
        clear h1
        go_wp2
        go_ret
        exact ⟨by rw [hx.out]; rfl, rfl⟩
      · have e1 : ((y : Int) % 2 == 1) = false := by simp; omega
        have hx : Hid (bitN z j = 0) := by have := hb.out; show bitN z j = 0; omega
        clear h1
        go_wp2
        go_ret
        exact ⟨by rw [hx.out]; rfl, rfl⟩
def InvRPut1 (w : World) (ao : Option Addr) (n c : Nat) (T : Nat → Int) (z : Nat) (many : Int) (k : Nat) (a : Act) (wr : World) : Prop :=
  ∃ (i : Nat) (v : Value), i + k = n ∧ wr.ownsRow w.heap.size 50 1 v i (nums .u8 T i) ∧ Below w.heap.size w wr ∧ a.tmps.size = 40 ∧ a.defers = [] ∧ slot a 0 = .slice ao n c ∧ slot a 1 = .int .u64 z ∧ slot a 2 = .int .i64 many ∧ slot a 7 = v ∧ slot a 8 = .int .i64 i
def InvRPut2 (w : World) (n b : Nat) (T : Nat → Int) (z : Nat) (k : Nat) (a : Act) (wr : World) : Prop :=
  ∃ (v : Value), k ≤ b ∧ wr.ownsRow w.heap.size 50 1 v (n + (b - k)) (nums .u8 T (n + (b - k))) ∧ Below w.heap.size w wr ∧ a.tmps.size = 40 ∧ a.defers = [] ∧ slot a 1 = .int .u64 z ∧ slot a 7 = v ∧ slot a 9 = .int .i64 ((k : Int) - 1)
set_option maxHeartbeats 1000000 in
theorem refPut (w : World) (ao : Option Addr) (n c : Nat) (L : Nat → Int) (z : Nat) (many : Int) (ha : Rd .u8 w ao n L) (hn : n ≤ 1000000) (hz : z < 18446744073709551616) :
    Calls Try.prog 15 #[.slice ao n c, .int .u64 z, .int .i64 many] w fun e w' => ∃ a c', e = .returned (.slice a (n + bitsOf many) c') ∧ Mine .u8 50 w.heap.size w' a (n + bitsOf many) (putL L n z (bitsOf many)) ∧ Below w.heap.size w w' := by
  have hb64 : bitsOf many ≤ 64 := by unfold bitsOf; omega
  have hbo : Hid (bitsOf many = (min many 64).toNat) := rfl
  obtain ⟨i0, hf0, hz0, hz1, hz2⟩ := info_parts elemS
  replace ha := Lib.hid ha
  go_enter Try.func15, Try.ntmps15
  go_upto_block 0 with fail
  refine wp_cut (fun a wx => (∃ v, wx.ownsRow w.heap.size 50 1 v n (nums .u8 (putL L n z (bitsOf many)) n) ∧ Below w.heap.size w wx ∧ slot a 7 = v) ∧ a.tmps.size = 40 ∧ a.defers = [] ∧ slot a 1 = .int .u64 z ∧ slot a 2 = .int .i64 many) ?_ ?_
  · intro K' hK'
    apply wp_block
    refine wp_loop_k (InvRPut1 w ao n c (putL L n z (bitsOf many)) z many) n ?_ ?_
    · exact ⟨0, .slice none 0 0, by omega, World.ownsRow_nil _ _ _ _, Below.refl _ _, by kernel_rfl, rfl, by kernel_rfl, by kernel_rfl, by kernel_rfl, by kernel_rfl, by kernel_rfl⟩
    · intro gk a wr hI K hK
      obtain ⟨i, v, hi, hown, hb, hs', hd', k0', k1', k2', k7', k8'⟩ := hI
      rw [fr40 a hs' hd']; simp only [k0', k1', k2', k7', k8']; clear hs' hd' k0' k1' k2' k7' k8'
      have hown' := Lib.hid hown
      clear hown
      by_cases hlt : i < n
      · obtain ⟨b, o, rfl, hc0⟩ := ha.out i hlt
        have hc := below_cell hc0 hb (World.block_lt_of_cell? w _ hc0)
        have hin : (i : Int) < n := by omega
        have hT : Hid (putL L n z (bitsOf many) i = L i) := by show putL L n z (bitsOf many) i = L i; simp [putL, hlt]
        clear hc0
        go_wp2_with (at_builtin; refine append_one rfl _ _ 22 rfl w.heap.size 50 i0 (.int .u8 0) 1 Try.underlying22 hf0 hz0 hz1 hz2 rfl _ _ _ rfl hown'.out _ rfl rfl (by omega) (by omega) hb.size ?_)
        intro g cc w1 hown1 hg1 hb1
        rw [← hT.out, ← nums_succ] at hown1
        replace hown1 := Lib.hid hown1
        have hb2 := hb.trans hb1
        clear hb1 hg1 hown' hb
        go_wp2_with fail
        refine hK (n - (i + 1)) _ _ (by omega) ⟨i + 1, _, by omega, hown1.out, hb2, by kernel_rfl, rfl, by kernel_rfl, by kernel_rfl, by kernel_rfl, by kernel_rfl, ?_⟩
        show Value.int _ _ = Value.int _ _
        simp
      · obtain rfl : i = n := by omega
        go_wp2_with fail
        refine hK' _ _ trivial ⟨⟨v, hown'.out, hb, by kernel_rfl⟩, by kernel_rfl, rfl, by kernel_rfl, by kernel_rfl⟩
  · rintro a wx ⟨⟨v, hown, hb, k7'⟩, hs', hd', k1', k2'⟩
    rw [fr40 a hs' hd']; simp only [k1', k2', k7']; clear hs' hd' k1' k2' k7'
    have hown' := Lib.hid hown
    clear hown
    have h3 : (64 < many ∧ bitsOf many = 64) ∨ (many < 0 ∧ bitsOf many = 0) ∨ (0 ≤ many ∧ many ≤ 64 ∧ many = (bitsOf many : Nat)) := by unfold bitsOf; omega
    obtain ⟨b, hbe⟩ : ∃ b, bitsOf many = b := ⟨_, rfl⟩
    rw [hbe] at h3 hb64 hown'
    replace hbe := Lib.hid hbe
    clear hbo
    have hgo : many ≤ 64 ∨ 64 < many := by omega
    rcases h3 with ⟨h1, h2⟩ | ⟨h1, h2⟩ | ⟨h1, h1', h2⟩
    all_goals
      replace h2 := Lib.hid h2
      try have h1'' : ¬ (64 < many) := by omega
      go_wp2_with fail
      refine wp_loop_k (InvRPut2 w n b (putL L n z b) z) b ?_ ?_
      · refine ⟨v, Nat.le_refl _, by simpa using hown'.out, hb, by kernel_rfl, rfl, by kernel_rfl, by kernel_rfl, ?_⟩
        show Value.int _ _ = Value.int _ _
        have := h2.out
        congr 1
        omega
      · intro k a wr hI K hK
        clear hown' hb
        obtain ⟨v, hk, hown, hb, hs', hd', k1', k7', k9'⟩ := hI
        rw [fr40 a hs' hd']; simp only [k1', k7', k9']; clear hs' hd' k1' k7' k9'
        have hown' := Lib.hid hown
        clear hown
        by_cases hlt : 0 < k
        · obtain ⟨j, rfl⟩ : ∃ j, k = j + 1 := ⟨k - 1, by omega⟩
          have ej : ((j + 1 : Nat) : Int) - 1 = j := by omega
          rw [ej]
          clear ej
          have hT : Hid (putL L n z b (n + (b - (j + 1))) = 1 + (bitN z j : Nat)) := by
            have h2 : ¬ n + (b - (j + 1)) < n := by omega
            have h3 : b - 1 - (n + (b - (j + 1)) - n) = j := by omega
            show putL L n z b (n + (b - (j + 1))) = 1 + (bitN z j : Nat)
            simp only [putL, h2, if_false, h3]
          go_wp2_with (first
            | (go_at_call 35; refine (refBit _ z j hz (by omega)).mono ?_; rintro e w1 ⟨rfl, rfl⟩)
            | (at_builtin; refine append_one rfl _ _ 22 rfl w.heap.size 50 i0 (.int .u8 0) 1 Try.underlying22 hf0 hz0 hz1 hz2 rfl _ _ _ rfl hown'.out _ rfl rfl (by omega) (by omega) hb.size ?_))
          intro g cc w1 hown1 hg1 hb1
          have e1 : n + (b - (j + 1)) + 1 = n + (b - j) := by omega
          rw [← hT.out, ← nums_succ, e1] at hown1
          rw [e1]
          replace hown1 := Lib.hid hown1
          have hb2 := hb.trans hb1
          clear hb1 hg1 hown' hb e1
          go_wp2_with fail
          exact hK j _ _ (by omega) ⟨_, by omega, hown1.out, hb2, by kernel_rfl, rfl, by kernel_rfl, by kernel_rfl, by kernel_rfl⟩
        · obtain rfl : k = 0 := by omega
          have hown2 := hown'.out
          simp only [Nat.sub_zero] at hown2
          obtain ⟨al, cl, rfl, q1, q2, q3, hmine⟩ := own_mine hown2
          replace hmine := Lib.hid hmine
          clear hown' q3 hown2
          go_wp2_with fail
          go_ret
          rw [hbe.out]
          exact ⟨al, cl, rfl, hmine.out, hb⟩
end Go.Proofs.Ytdcfoapgafiigaa
