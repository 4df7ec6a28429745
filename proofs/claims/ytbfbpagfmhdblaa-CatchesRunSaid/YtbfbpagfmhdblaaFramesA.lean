/- Frames: may, four, number. -/
import Derived.Test.YtbfbpagfmhdblaaSumsU
import Derived.Test.YtbfbpagfmhdblaaBytesR
import Derived.Deep.RegionHeld3
namespace Go.Proofs.Ytbfbpagfmhdblaa
open Go.RowKit
set_option linter.unusedSimpArgs false
set_option linter.unusedVariables false
set_option maxRecDepth 100000
/-- A payload's value; a frame's. -/
def payV (k st sq v : Int) : Value := .agg #[.int .u8 k, .int .u8 st, .int .u32 sq, .int .u32 v]
def frV (o k st sq v : Int) : Value := .agg #[.int .i64 o, .int .u8 k, .int .u8 st, .int .u32 sq, .int .u32 v]
def mayB (o k : Int) : Bool := decide (0 ≤ o) && (decide (o < 8) && (decide (k = 1) || decide (k = 2)))
set_option maxHeartbeats 1000000 in
theorem frMay (w : World) (o k st sq v : Int) : Calls Try.prog 52 #[frV o k st sq v] w fun e w' => e = .returned (.bool (mayB o k)) ∧ Below w.heap.size w w' := by
  unfold frV
  go_enter Try.func52, Try.ntmps52
  go_wp2
  all_goals
    go_ret
    refine ⟨?_, below_alloc _ _⟩
    simp_all [mayB]
    try first | omega | (intros; omega) | (rw [Bool.eq_iff_iff]; simp; omega)
set_option maxHeartbeats 1000000 in
theorem refMay (w : World) (o k st sq v : Int) : Calls Try.prog 55 #[frV o k st sq v] w fun e w' => e = .returned (.bool (mayB o k)) ∧ Below w.heap.size w w' := by
  unfold frV
  go_enter Try.func55, Try.ntmps55
  go_wp2
  all_goals
    go_ret
    refine ⟨?_, below_alloc _ _⟩
    simp_all [mayB]
    try first | omega | (intros; omega) | (rw [Bool.eq_iff_iff]; simp; omega)
theorem tail_conv (s : Nat) : (((s / 16777216 : Nat) : Int) % 256 = tailB s 0 ∧ ((s / 65536 : Nat) : Int) % 256 = tailB s 1 ∧ ((s / 256 : Nat) : Int) % 256 = tailB s 2 ∧ ((s : Nat) : Int) % 256 = tailB s 3) := by
  simp [tailB]
set_option maxHeartbeats 1000000 in
theorem frFour (w : World) (s : Nat) (hs : s < 4294967296) : Calls Try.prog 54 #[.int .u32 s] w fun e w' => ∃ g, e = .returned (.slice (some ⟨g, 0, none⟩) 4 4) ∧ Mine .u8 5 w.heap.size w' (some ⟨g, 0, none⟩) 4 (tailB s) ∧ Below w.heap.size w w' := by
  go_enter Try.func54, Try.ntmps54
  go_wp2
  go_ret
  obtain ⟨t0, t1, t2, t3⟩ := tail_conv s
  have t0' : (s : Int) / 16777216 = tailB s 0 := by rw [← t0]; simp; omega
  simp only [Int.natCast_ediv] at t0 t1 t2 t3
  refine ⟨_, rfl, fun _ => ⟨_, _, rfl, Nat.le_refl _, Blk.new _ _ _, Nat.le_refl _, fun i hi => ?_⟩, below_alloc _ _⟩
  rcases i with _ | _ | _ | _ | i
  · simp [← t0']
  · rw [← t1]; rfl
  · rw [← t2]; rfl
  · rw [← t3]; rfl
  · omega
/-- The number of i bytes. -/
def numU (L : Nat → Int) : Nat → Nat
  | 0 => 0
  | i + 1 => (256 * numU L i) % 4294967296 + (L i).toNat
def InvNumber (w : World) (ao : Option Addr) (n c : Nat) (L : Nat → Int) (k : Nat) (a : Act) (wr : World) : Prop :=
  ∃ i : Nat, i + k = n ∧ wr = w ∧ a.tmps.size = 18 ∧ a.defers = [] ∧ slot a 0 = .slice ao n c ∧ slot a 2 = .int .u32 (numU L i) ∧ slot a 5 = .slice ao n c ∧ slot a 6 = .int .i64 n ∧ slot a 7 = .int .i64 i
theorem numU_lt (L : Nat → Int) (h : ∀ i, 0 ≤ L i ∧ L i < 256) : ∀ i, numU L i < 4294967296
  | 0 => by simp [numU]
  | i + 1 => by
    have := h i
    simp only [numU]
    omega
theorem num_or (L : Nat → Int) (i x : Nat) (hn : numU L i < 4294967296) (h : 0 ≤ L i ∧ L i < 256) : bits .or .u32 (IntKind.u32.wrap ((numU L i : Int) * 256)) (L i) = (numU L (i + 1) : Nat) := by
  have e1 : IntKind.u32.wrap ((numU L i : Int) * 256) = ((256 * numU L i % 4294967296 : Nat) : Int) := by rw [IntKind.wrap_u32]; simp; omega
  obtain ⟨y, hy⟩ : ∃ y, 256 * numU L i % 4294967296 = y * 2 ^ 8 := ⟨numU L i % 16777216, by omega⟩
  have e2 := u32_or_nat (256 * numU L i % 4294967296) (L i).toNat (Nat.mod_lt _ (by decide)) (by omega)
  rw [show (((L i).toNat : Nat) : Int) = L i by omega] at e2
  rw [e1, e2, numU]
  congr 1
  rw [hy, ← Nat.shiftLeft_eq, Nat.shiftLeft_add_eq_or_of_lt (by omega)]
set_option maxHeartbeats 1000000 in
theorem frNumber (w : World) (ao : Option Addr) (n c : Nat) (L : Nat → Int) (ha : Rd .u8 w ao n L) (hL : ∀ i, i < n → 0 ≤ L i ∧ L i < 256) (hn : n ≤ 100000) :
    Calls Try.prog 67 #[.slice ao n c] w fun e w' => e = .returned (.int .u32 (numU L n : Nat)) ∧ w = w' := by
  have hlt : ∀ i, i ≤ n → numU L i < 4294967296 := fun i => by
    induction i with
    | zero => intro _; simp [numU]
    | succ i ih => intro h; have := hL i (by omega); simp only [numU]; omega
  replace ha := Lib.hid ha
  replace hL := Lib.hid hL
  replace hlt := Lib.hid hlt
  go_enter Try.func67, Try.ntmps67
  go_wp2
  refine wp_loop_k (InvNumber w ao n c L) n ?_ ?_
  · exact ⟨0, by omega, rfl, by kernel_rfl, rfl, by kernel_rfl, by kernel_rfl, by kernel_rfl, by kernel_rfl, by kernel_rfl⟩
  intro gk1 a wr hI K1 hK1
  obtain ⟨i, hi, rfl, hs', hd', k0', k2', k5', k6', k7'⟩ := hI
  rw [fr18 a hs' hd']; simp only [k0', k2', k5', k6', k7']; clear hs' hd' k0' k2' k5' k6' k7'
  by_cases hin : i < n
  · have g1 : decide ((i : Int) < (n : Int)) = true := by simp; omega
    have g2 : (i : Int) < (n : Int) := by omega
    obtain ⟨b, o, rfl, c1⟩ := ha.out i hin
    have hor := num_or L i 0 (hlt.out i (by omega)) (hL.out i hin)
    rw [IntKind.wrap_u32] at hor
    have hb := hL.out i hin
    have hq := hlt.out i (by omega)
    go_wp2
    refine hK1 (n - (i + 1)) _ _ (by omega) ⟨i + 1, by omega, rfl, by kernel_rfl, rfl, by kernel_rfl, by kernel_rfl, by kernel_rfl, by kernel_rfl, by kernel_rfl⟩
  · have g1 : decide ((i : Int) < (n : Int)) = false := by simp; omega
    obtain rfl : n = i := by omega
    go_wp2
    go_ret
    exact ⟨rfl, rfl⟩
end Go.Proofs.Ytbfbpagfmhdblaa
