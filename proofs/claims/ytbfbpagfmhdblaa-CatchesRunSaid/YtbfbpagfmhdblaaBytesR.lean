/- The document's Bytes: what it answers. -/
import Derived.Test.YtbfbpagfmhdblaaBytesC
namespace Go.Proofs.Ytbfbpagfmhdblaa
open Go.RowKit
set_option linter.unusedSimpArgs false
set_option linter.unusedVariables false
set_option maxRecDepth 100000
def InvRBytes (w : World) (ao : Option Addr) (q c : Nat) (L : Nat → Int) (k : Nat) (a : Act) (wr : World) : Prop :=
  ∃ (i : Nat) (v : Value), i + k = q ∧ wr.ownsRow w.heap.size 5 1 v i (nums .u8 (bytesL L) i) ∧ Below w.heap.size w wr ∧ a.tmps.size = 38 ∧ a.defers = [] ∧ slot a 0 = .slice ao (8 * q) c ∧ slot a 4 = v ∧ slot a 5 = .int .i64 (8 * i : Nat)
set_option maxHeartbeats 1000000 in
theorem refBytesN_8 (w : World) (ao : Option Addr) (q c : Nat) (L : Nat → Int) (ha : Rd .u8 w ao (8 * q) L) (hnil : NilOk ao (8 * q) c) (hq : q ≤ 100000) :
    Calls Try.prog 72 #[.slice ao (8 * q) c] w fun e w' => ∃ a c', e = .returned (.tuple #[.slice a (cntB L (8 * q)) c', .bool (okB L (8 * q))]) ∧ Mine .u8 5 w.heap.size w' a (cntB L (8 * q)) (bytesL L) ∧ Below w.heap.size w w' ∧ NilOk a (cntB L (8 * q)) c' := by
  obtain ⟨i0, hf0, hz0, hz1, hz2⟩ := info_parts elemHBytes
  have hcq : 8 * q ≤ c := hnil.1
  have hc63 := hnil.2.1
  replace ha := Lib.hid ha
  have hmod : (((8 * q : Nat) : Int) % 8 != 0) = false := by simp
  have hne : (8 * q) % 8 = 0 := by omega
  clear hnil
  cases hw : wholeL L (8 * q) with
  | false =>
    have hok : okB L (8 * q) = false := by simp [okB, hw]
    have hcn : cntB L (8 * q) = 0 := by simp [cntB, hok]
    rw [hok, hcn]
    replace hw := Lib.hid hw
    clear hok hcn
    go_enter Try.func72, Try.ntmps72
    go_wp2_with fail
    refine (refWhole _ _ _ _ L ha.out (by omega)).mono ?_
    rintro e w1 ⟨rfl, q1, rfl⟩
    rw [hw.out]
    go_wp2_with fail
    go_ret2
    exact ⟨none, 0, rfl, Mine.nil _ _ _ _ _ _, below_drewN _ _, Nat.le_refl _, by omega, fun _ => ⟨rfl, rfl⟩⟩
  | true =>
    have hok : okB L (8 * q) = true := by simp [okB, hw]
    have hcn : cntB L (8 * q) = q := by simp [cntB, hok]
    rw [hok, hcn]
    replace hw := Lib.hid hw
    clear hok hcn
    go_enter Try.func72, Try.ntmps72
    go_wp2_with fail
    refine (refWhole _ _ _ _ L ha.out (by omega)).mono ?_
    rintro e w1 ⟨rfl, q1, rfl⟩
    rw [hw.out]
    have hb0 := below_drewN w q1
    generalize w.drewN q1 = w1 at *
    go_wp2_with fail
    refine wp_loop_k (InvRBytes w ao q c L) q ?_ ?_
    · exact ⟨0, .slice none 0 0, by omega, World.ownsRow_nil _ _ _ _, hb0, by kernel_rfl, rfl, by kernel_rfl, by kernel_rfl, by kernel_rfl⟩
    · intro gk a wr hI K hK
      obtain ⟨i, v, hi, hown, hb, hs', hd', k0', k4', k5'⟩ := hI
      rw [fr38 a hs' hd']; simp only [k0', k4', k5']; clear hs' hd' k0' k4' k5'
      have hown' := Lib.hid hown
      clear hown hb0
      by_cases hlt : i < q
      · obtain ⟨b, o, rfl, _⟩ := ha.out (8 * i) (by omega)
        have hin : ((8 * i : Nat) : Int) < ((8 * q : Nat) : Int) := by omega
        have hsub := Lib.hid ((ha.out.below hb (Nat.le_refl _)).sub' (8 * i) 8 (by omega))
        have hwc : wholeB L i = true := wholeL_iff.2 fun j hj => wholeL_iff.1 hw.out (8 * i + j) (by omega)
        have hnum : Hid (numR (fun j => L (8 * i + j)) 8 = (bytesL L i, true)) := by
          show numR (fun j => L (8 * i + j)) 8 = (bytesL L i, true)
          rw [num_chunk, if_pos hwc]
        have hbd : 0 ≤ bytesL L i ∧ bytesL L i < 256 := by
          have := numL_bd hwc
          unfold bytesL
          exact ⟨this.1, by have h2 := this.2; have : ((2 : Int) ^ 8) = 256 := by decide
                            omega⟩
        have hns : Hid (nums .u8 (bytesL L) (i + 1) = nums .u8 (bytesL L) i ++ [.int .u8 (bytesL L i)]) := nums_succ _ _ _
        generalize bytesL L i = t at *
        have hw8 : IntKind.u8.wrap t = t := by rw [IntKind.wrap_u8]; omega
        clear hwc
        go_wp2_with fail
        refine (refNum _ _ _ _ _ hsub.out (by omega)).mono ?_
        rintro e w2 ⟨rfl, q2, rfl⟩
        rw [hnum.out]
        have hb2 := hb.trans ((below_drewN wr q2).mono hb.size)
        have hown2 := Lib.hid (show (wr.drewN q2).ownsRow w.heap.size 5 1 v i (nums .u8 (bytesL L) i) from hown'.out)
        generalize wr.drewN q2 = w2 at *
        clear hnum hsub hb hown'
        go_wp2_with (at_builtin; refine append_one rfl _ _ 29 rfl w.heap.size 5 i0 (.int .u8 0) 1 Try.underlying29 hf0 hz0 hz1 hz2 rfl _ _ _ rfl hown2.out _ rfl rfl (by omega) (by omega) hb2.size ?_)
        intro g cc w3 hown3 hg3 hb3
        rw [← hns.out] at hown3
        replace hown3 := Lib.hid hown3
        have hb4 := hb2.trans hb3
        clear hb3 hg3 hown2 hb2
        go_wp2_with fail
        refine hK (q - (i + 1)) _ _ (by omega) ⟨i + 1, _, by omega, hown3.out, hb4, by kernel_rfl, rfl, by kernel_rfl, by kernel_rfl, ?_⟩
        show Value.int _ _ = Value.int _ _
        congr 1
      · obtain rfl : i = q := by omega
        obtain ⟨al, cl, rfl, q1, q2, q3, hmine⟩ := own_mine hown'.out
        replace hmine := Lib.hid hmine
        have q123 := Lib.hid (⟨q1, q2, q3⟩ : NilOk al _ cl)
        clear hown' q3
        go_wp2_with fail
        go_ret2
        exact ⟨al, cl, rfl, hmine.out, hb, q123.out⟩
theorem refBytesN (w : World) (ao : Option Addr) (n c : Nat) (L : Nat → Int) (ha : Rd .u8 w ao n L) (hnil : NilOk ao n c) (hn : n ≤ 800000) :
    Calls Try.prog 72 #[.slice ao n c] w fun e w' => ∃ a c', e = .returned (.tuple #[.slice a (cntB L n) c', .bool (okB L n)]) ∧ Mine .u8 5 w.heap.size w' a (cntB L n) (bytesL L) ∧ Below w.heap.size w w' ∧ NilOk a (cntB L n) c' := by
  by_cases h8 : n % 8 = 0
  · obtain ⟨q, rfl⟩ : ∃ q, n = 8 * q := ⟨n / 8, by omega⟩
    exact refBytesN_8 w ao q c L ha hnil (by omega)
  · have hok : okB L n = false := by simp [okB, h8]
    have hcn : cntB L n = 0 := by simp [cntB, hok]
    have hmod : (((n : Nat) : Int) % 8 != 0) = true := by simp; omega
    rw [hok, hcn]
    clear h8 hok hcn ha hnil
    go_enter Try.func72, Try.ntmps72
    go_wp2_with fail
    go_ret2
    exact ⟨none, 0, rfl, Mine.nil _ _ _ _ _ _, Below.refl _ _, Nat.le_refl _, by omega, fun _ => ⟨rfl, rfl⟩⟩
theorem refBytes (w : World) (ao : Option Addr) (n c : Nat) (L : Nat → Int) (ha : Rd .u8 w ao n L) (hnil : NilOk ao n c) (hn : n ≤ 800000) :
    Calls Try.prog 72 #[.slice ao n c] w fun e w' => ∃ a c', e = .returned (.tuple #[.slice a (cntB L n) c', .bool (okB L n)]) ∧ Mine .u8 5 w.heap.size w' a (cntB L n) (bytesL L) ∧ Below w.heap.size w w' :=
  (refBytesN w ao n c L ha hnil hn).mono fun e w' ⟨a, c', h1, h2, h3, _⟩ => ⟨a, c', h1, h2, h3⟩
end Go.Proofs.Ytbfbpagfmhdblaa
