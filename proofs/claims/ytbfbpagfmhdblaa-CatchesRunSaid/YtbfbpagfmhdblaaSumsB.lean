/- Sums: Of. -/
import Derived.Test.YtbfbpagfmhdblaaSumsA
import Derived.Test.YtbfbpagfmhdblaaParts
namespace Go.Proofs.Ytbfbpagfmhdblaa
open Go.RowKit
set_option linter.unusedSimpArgs false
set_option linter.unusedVariables false
set_option maxRecDepth 100000
def regAt (PN : Nat → Nat) (PL : Nat → Nat → Int) (K x : Nat) : Nat := regB 4294967295 (bitU (catL PN PL K)) (8 * x)
theorem regAt_lt (PN : Nat → Nat) (PL : Nat → Nat → Int) (K x : Nat) : regAt PN PL K x < 4294967296 := regB_lt (by decide) _
def InvOf1 (w : World) (ap : Option Addr) (K cp : Nat) (PN : Nat → Nat) (PL : Nat → Nat → Int) (g : Nat) (k : Nat) (a : Act) (wr : World) : Prop :=
  ∃ i : Nat, i + k = K ∧ Below w.heap.size w wr ∧ Blk wr g #[.int .u32 (regAt PN PL K (catN PN i) : Nat)] 137 ∧
    a.tmps.size = 29 ∧ a.defers = [] ∧ slot a 3 = .pointer (some ⟨g, 0, none⟩) ∧ slot a 4 = .func (.func 99) #[.pointer (some ⟨g, 0, none⟩)] #[] ∧ slot a 10 = .slice ap K cp ∧ slot a 11 = .int .i64 K ∧ slot a 12 = .int .i64 i
def InvOf2 (w : World) (ap : Option Addr) (K cp : Nat) (PN : Nat → Nat) (PL : Nat → Nat → Int) (g i : Nat) (pa : Option Addr) (pc : Nat) (k : Nat) (a : Act) (wr : World) : Prop :=
  ∃ j : Nat, j + k = PN i ∧ Below w.heap.size w wr ∧ Blk wr g #[.int .u32 (regAt PN PL K (catN PN i + j) : Nat)] 137 ∧
    a.tmps.size = 29 ∧ a.defers = [] ∧ slot a 3 = .pointer (some ⟨g, 0, none⟩) ∧ slot a 4 = .func (.func 99) #[.pointer (some ⟨g, 0, none⟩)] #[] ∧ slot a 10 = .slice ap K cp ∧ slot a 11 = .int .i64 K ∧ slot a 12 = .int .i64 i ∧ slot a 16 = .slice pa (PN i) pc ∧ slot a 17 = .int .i64 (PN i) ∧ slot a 18 = .int .i64 j
set_option maxHeartbeats 4000000 in
theorem sumsOf (w : World) (ap : Option Addr) (K cp : Nat) (PA : Nat → Option Addr) (PN PC : Nat → Nat) (PL : Nat → Nat → Int) (h : Parts w ap K PA PN PC PL) (hK : K ≤ 1000) (hN : catN PN K ≤ 1000000) :
    Calls Try.prog 85 #[.slice ap K cp] w fun e w' => e = .returned (.int .u32 (sumN (catL PN PL K) (catN PN K) : Nat)) ∧ Below w.heap.size w w' := by
  replace h := Lib.hid h
  go_enter Try.func85, Try.ntmps85
  go_wp2
  refine wp_loop_k (InvOf1 w ap K cp PN PL w.heap.size) K ?_ ?_
  · exact ⟨0, by omega, below_alloc _ _, Blk.new _ _ _, by kernel_rfl, rfl, by kernel_rfl, by kernel_rfl, by kernel_rfl, by kernel_rfl, by kernel_rfl⟩
  · generalize hgg : w.heap.size = g
    intro gk a wr hI K1 hK1
    obtain ⟨i, hi, hb, hB, hs', hd', k3', k4', k10', k11', k12'⟩ := hI
    rw [fr29 a hs' hd']; simp only [k3', k4', k10', k11', k12']; clear hs' hd' k3' k4' k10' k11' k12'
    by_cases hlt : i < K
    · have g1 : decide ((i : Int) < (K : Int)) = true := by simp; omega
      obtain ⟨b, o, rfl, hc, hr, hnl, hL⟩ := h.out i hlt
      have hc1 := below_cell hc hb (World.block_lt_of_cell? w _ hc)
      have hr1 := Lib.hid (hr.below hb (Nat.le_refl _))
      have hcat := catN_mono (PN := PN) (show i + 1 ≤ K by omega)
      have hPN : catN PN (i + 1) = catN PN i + PN i := rfl
      have hPN2 : PN i ≤ 1000000 := by omega
      have hcat' := Lib.hid hcat
      have hb' := Lib.hid hb
      have hB' := Lib.hid hB
      have ui : IntKind.i64.wrap ((i : Int) + 1) = ((i + 1 : Nat) : Int) := wrap_i64_small _ (by omega) (by omega)
      have hr0 := Lib.hid hr
      have hL' := Lib.hid hL
      have hnl' := Lib.hid hnl
      have hPN' := Lib.hid hPN
      clear hb hB hc hcat hr hL hnl hPN
      go_wp2
      refine wp_loop_k (InvOf2 w (some ⟨b, o, none⟩) K cp PN PL g i (PA i) (PC i)) (PN i) ?_ ?_
      · exact ⟨0, by omega, hb'.out, hB'.out, by kernel_rfl, rfl, by kernel_rfl, by kernel_rfl, by kernel_rfl, by kernel_rfl, by kernel_rfl, by kernel_rfl, by kernel_rfl, by kernel_rfl⟩
      · clear hb' hB' hc1 hr1 g1
        clear wr
        intro gk2 a wr hI K2 hK2
        obtain ⟨j, hj, hb, hB, hs', hd', k3', k4', k10', k11', k12', k16', k17', k18'⟩ := hI
        rw [fr29 a hs' hd']; simp only [k3', k4', k10', k11', k12', k16', k17', k18']; clear hs' hd' k3' k4' k10' k11' k12' k16' k17' k18'
        by_cases hlj : j < PN i
        · have g2 : decide ((j : Int) < (PN i : Int)) = true := by simp; omega
          have hx := hL'.out j hlj
          have hrB := (hr0.out.below hb (Nat.le_refl _)) j hlj
          obtain ⟨b2, o2, hpa, hc2⟩ := hrB
          have uj : IntKind.i64.wrap ((j : Int) + 1) = ((j + 1 : Nat) : Int) := wrap_i64_small _ (by omega) (by omega)
          have hreg := regB_byte 4294967295 (catL PN PL K) (catN PN i + j) (by rw [catL_at hlj hlt]; exact hx)
          rw [catL_at hlj hlt] at hreg
          have hreg' := Lib.hid hreg
          have hxx := Lib.hid hx
          have hb' := Lib.hid hb
          have hB' := Lib.hid hB
          generalize hpl : PL i j = x at *
          rw [hpa]
          clear hb hB hx hreg hpl
          go_wp2_with fail
          refine (sumsAdd _ _ _ _ (regAt_lt _ _ _ _) hxx.out hB'.out).mono ?_
          rintro e w2 ⟨rfl, hB2, hT⟩
          have hgb : w.heap.size ≤ g := by omega
          have hb2 := Lib.hid (hT.below hb'.out hb'.out.size (by simpa using hgb))
          have hB2' := Lib.hid hB2
          clear hB2 hT hb' hB'
          go_wp2
          exact hK2 (PN i - (j + 1)) _ _ (by omega) ⟨j + 1, by omega, hb2.out, by rw [regAt, ← Nat.add_assoc, ← hreg'.out]; exact hB2'.out, by kernel_rfl, rfl, by kernel_rfl, by kernel_rfl, by kernel_rfl, by kernel_rfl, by kernel_rfl, by show Value.slice _ _ _ = Value.slice _ _ _; rw [hpa], by kernel_rfl, by kernel_rfl⟩
        · obtain hji : j = PN i := by omega
          have g2 : decide ((j : Int) < (PN i : Int)) = false := by simp; omega
          have hb' := Lib.hid hb
          have hB' := Lib.hid hB
          clear hb hB
          go_wp2
          exact hK1 (K - (i + 1)) _ _ (by omega) ⟨i + 1, by omega, hb'.out, by rw [hPN'.out, ← hji]; exact hB'.out, by kernel_rfl, rfl, by kernel_rfl, by kernel_rfl, by kernel_rfl, by kernel_rfl, by kernel_rfl⟩
    · obtain rfl : i = K := by omega
      have g1 : decide ((i : Int) < (i : Int)) = false := by simp
      have c0 := hB.cell (i := 0) rfl
      have hlr := regAt_lt PN PL i (catN PN i)
      have hs : Hid (sumN (catL PN PL i) (catN PN i) = 4294967295 - regAt PN PL i (catN PN i)) := rfl
      generalize regAt PN PL i (catN PN i) = R at *
      have ux : bits .xor .u32 IntKind.u32.max (R : Int) = ((4294967295 - R : Nat) : Int) := by
        rw [sub_xor hlr, ← u32_xor_nat 4294967295 R (by decide) hlr]
        rfl
      go_wp2
      go_ret
      exact ⟨by rw [hs.out]; rfl, hgg ▸ hb⟩
end Go.Proofs.Ytbfbpagfmhdblaa
