/- Several texts, one behind the other: FramesA Parts34 FramesB ConcatS FramesC. -/
import Derived.Test.YtmdohnbhogfopaaZSumsRU
import Derived.Test.YtmdohnbhogfopaaZBitsRS
import Derived.Deep.RegionHeld3
import Derived.Test.YtmdohnbhogfopaaZSumsAE
import Derived.Laws.StructEq
import Derived.ChangeKeysEq
/- Frames: may, four, number. -/
namespace Go.Proofs.Ytmdohnbhogfopaa
open Go.RowKit
set_option linter.unusedSimpArgs false
set_option linter.unusedVariables false
set_option maxRecDepth 100000
/-- A payload's value; a frame's. -/
def payV (k st sq v : Int) : Value := .agg #[.int .u8 k, .int .u8 st, .int .u32 sq, .int .u32 v]
def frV (o k st sq v : Int) : Value := .agg #[.int .i64 o, .int .u8 k, .int .u8 st, .int .u32 sq, .int .u32 v]
def mayB (o k : Int) : Bool := decide (0 ≤ o) && (decide (o < 8) && (decide (k = 1) || decide (k = 2)))
set_option maxHeartbeats 1000000 in
theorem frMay (w : World) (o k st sq v : Int) : Calls Try.prog 85 #[frV o k st sq v] w fun e w' => e = .returned (.bool (mayB o k)) ∧ Below w.heap.size w w' := by
  unfold frV
  go_enter Try.func85, Try.ntmps85
  go_wp2
  all_goals
    go_ret
    refine ⟨?_, below_alloc _ _⟩
    simp_all [mayB]
    try first | omega | (intros; omega) | (rw [Bool.eq_iff_iff]; simp; omega)
set_option maxHeartbeats 1000000 in
theorem refMay (w : World) (o k st sq v : Int) : Calls Try.prog 88 #[frV o k st sq v] w fun e w' => e = .returned (.bool (mayB o k)) ∧ Below w.heap.size w w' := by
  unfold frV
  go_enter Try.func88, Try.ntmps88
  go_wp2
  all_goals
    go_ret
    refine ⟨?_, below_alloc _ _⟩
    simp_all [mayB]
    try first | omega | (intros; omega) | (rw [Bool.eq_iff_iff]; simp; omega)
theorem tail_conv (s : Nat) : (((s / 16777216 : Nat) : Int) % 256 = tailB s 0 ∧ ((s / 65536 : Nat) : Int) % 256 = tailB s 1 ∧ ((s / 256 : Nat) : Int) % 256 = tailB s 2 ∧ ((s : Nat) : Int) % 256 = tailB s 3) := by
  simp [tailB]
set_option maxHeartbeats 1000000 in
theorem frFour (w : World) (s : Nat) (hs : s < 4294967296) : Calls Try.prog 87 #[.int .u32 s] w fun e w' => ∃ g, e = .returned (.slice (some ⟨g, 0, none⟩) 4 4) ∧ Mine .u8 5 w.heap.size w' (some ⟨g, 0, none⟩) 4 (tailB s) ∧ Below w.heap.size w w' := by
  go_enter Try.func87, Try.ntmps87
  go_wp2
  go_ret
  obtain ⟨t0, t1, t2, t3⟩ := tail_conv s
  have t0' : (s : Int) / 16777216 = tailB s 0 := by rw [← t0]; simp; omega
  simp only [Int.natCast_ediv] at t0 t1 t2 t3
  refine ⟨_, rfl, fun _ => ⟨_, _, rfl, Nat.le_refl _, Blk.new _ _ _, Nat.le_refl _, fun i hi => ?_⟩, below_alloc _ _⟩
  rcases i with _ | _ | _ | _ | i
  · simp [← t0']
  · rw [← t1]; rfl
  · rw [← t2]; rfl
  · rw [← t3]; rfl
  · omega
/-- The number of i bytes. -/
def numU (L : Nat → Int) : Nat → Nat
  | 0 => 0
  | i + 1 => (256 * numU L i) % 4294967296 + (L i).toNat
def InvNumber (w : World) (ao : Option Addr) (n c : Nat) (L : Nat → Int) (k : Nat) (a : Act) (wr : World) : Prop :=
  ∃ i : Nat, i + k = n ∧ wr = w ∧ a.tmps.size = 18 ∧ a.defers = [] ∧ slot a 0 = .slice ao n c ∧ slot a 2 = .int .u32 (numU L i) ∧ slot a 5 = .slice ao n c ∧ slot a 6 = .int .i64 n ∧ slot a 7 = .int .i64 i
theorem numU_lt (L : Nat → Int) (h : ∀ i, 0 ≤ L i ∧ L i < 256) : ∀ i, numU L i < 4294967296
  | 0 => by simp [numU]
  | i + 1 => by
    have := h i
    simp only [numU]
    omega
theorem num_or (L : Nat → Int) (i x : Nat) (hn : numU L i < 4294967296) (h : 0 ≤ L i ∧ L i < 256) : bits .or .u32 (IntKind.u32.wrap ((numU L i : Int) * 256)) (L i) = (numU L (i + 1) : Nat) := by
  have e1 : IntKind.u32.wrap ((numU L i : Int) * 256) = ((256 * numU L i % 4294967296 : Nat) : Int) := by rw [IntKind.wrap_u32]; simp; omega
  obtain ⟨y, hy⟩ : ∃ y, 256 * numU L i % 4294967296 = y * 2 ^ 8 := ⟨numU L i % 16777216, by omega⟩
  have e2 := u32_or_nat (256 * numU L i % 4294967296) (L i).toNat (Nat.mod_lt _ (by decide)) (by omega)
  rw [show (((L i).toNat : Nat) : Int) = L i by omega] at e2
  rw [e1, e2, numU]
  congr 1
  rw [hy, ← Nat.shiftLeft_eq, Nat.shiftLeft_add_eq_or_of_lt (by omega)]
set_option maxHeartbeats 1000000 in
theorem frNumber (w : World) (ao : Option Addr) (n c : Nat) (L : Nat → Int) (ha : Rd .u8 w ao n L) (hL : ∀ i, i < n → 0 ≤ L i ∧ L i < 256) (hn : n ≤ 100000) :
    Calls Try.prog 98 #[.slice ao n c] w fun e w' => e = .returned (.int .u32 (numU L n : Nat)) ∧ w = w' := by
  have hlt : ∀ i, i ≤ n → numU L i < 4294967296 := fun i => by
    induction i with
    | zero => intro _; simp [numU]
    | succ i ih => intro h; have := hL i (by omega); simp only [numU]; omega
  replace ha := Lib.hid ha
  replace hL := Lib.hid hL
  replace hlt := Lib.hid hlt
  go_enter Try.func98, Try.ntmps98
  go_wp2
  refine wp_loop_k (InvNumber w ao n c L) n ?_ ?_
  · exact ⟨0, by omega, rfl, by kernel_rfl, rfl, by kernel_rfl, by kernel_rfl, by kernel_rfl, by kernel_rfl, by kernel_rfl⟩
  intro gk1 a wr hI K1 hK1
  obtain ⟨i, hi, rfl, hs', hd', k0', k2', k5', k6', k7'⟩ := hI
  rw [fr18 a hs' hd']; simp only [k0', k2', k5', k6', k7']; clear hs' hd' k0' k2' k5' k6' k7'
  by_cases hin : i < n
  · have g1 : decide ((i : Int) < (n : Int)) = true := by simp; omega
    have g2 : (i : Int) < (n : Int) := by omega
    obtain ⟨b, o, rfl, c1⟩ := ha.out i hin
    have hor := num_or L i 0 (hlt.out i (by omega)) (hL.out i hin)
    rw [IntKind.wrap_u32] at hor
    have hb := hL.out i hin
    have hq := hlt.out i (by omega)
    go_wp2
    refine hK1 (n - (i + 1)) _ _ (by omega) ⟨i + 1, by omega, rfl, by kernel_rfl, rfl, by kernel_rfl, by kernel_rfl, by kernel_rfl, by kernel_rfl, by kernel_rfl⟩
  · have g1 : decide ((i : Int) < (n : Int)) = false := by simp; omega
    obtain rfl : n = i := by omega
    go_wp2
    go_ret
    exact ⟨rfl, rfl⟩
end Go.Proofs.Ytmdohnbhogfopaa
/- Sums: two, three, four parts that a text writes out. -/
namespace Go.Proofs.Ytmdohnbhogfopaa
open Go.RowKit
set_option linter.unusedSimpArgs false
set_option linter.unusedVariables false
/-- A part: its bytes, readable. -/
def Prt (w : World) (a : Option Addr) (n c : Nat) (L : Nat → Int) : Prop := Rd .u8 w a n L ∧ NilOk a n c ∧ ∀ j, j < n → 0 ≤ L j ∧ L j < 256
def at2 {α : Type} (x y : α) : Nat → α | 0 => x | _ => y
def at3 {α : Type} (x y z : α) : Nat → α | 0 => x | 1 => y | _ => z
def at4 {α : Type} (x y z u : α) : Nat → α | 0 => x | 1 => y | 2 => z | _ => u
theorem Prt.below {w w' : World} {a : Option Addr} {n c : Nat} {L : Nat → Int} {B : Nat} (h : Prt w a n c L) (hb : Below B w w') (hB : w.heap.size ≤ B) : Prt w' a n c L := ⟨h.1.below hb hB, h.2⟩
theorem prt_none (w : World) : Prt w none 0 0 (fun _ => 0) := ⟨fun i hi => by omega, ⟨Nat.le_refl _, by omega, fun _ => ⟨rfl, rfl⟩⟩, fun i hi => by omega⟩
theorem parts2 {w : World} {B : Nat} {t : TypeId} {a0 a1 : Option Addr} {n0 n1 c0 c1 : Nat} {L0 L1 : Nat → Int} (hB : Blk w B #[.slice a0 n0 c0, .slice a1 n1 c1] t) (p0 : Prt w a0 n0 c0 L0) (p1 : Prt w a1 n1 c1 L1) :
    Parts w (some ⟨B, 0, none⟩) 2 (at2 a0 a1) (at2 n0 n1) (at2 c0 c1) (at2 L0 L1) := fun i hi => by
  refine ⟨B, 0, rfl, ?_⟩
  rcases i with _ | _ | i
  · exact ⟨by simpa [at2] using hB.cell (i := 0) rfl, p0⟩
  · exact ⟨by simpa [at2] using hB.cell (i := 1) rfl, p1⟩
  · omega
theorem parts3 {w : World} {B : Nat} {t : TypeId} {a0 a1 a2 : Option Addr} {n0 n1 n2 c0 c1 c2 : Nat} {L0 L1 L2 : Nat → Int} (hB : Blk w B #[.slice a0 n0 c0, .slice a1 n1 c1, .slice a2 n2 c2] t) (p0 : Prt w a0 n0 c0 L0) (p1 : Prt w a1 n1 c1 L1) (p2 : Prt w a2 n2 c2 L2) :
    Parts w (some ⟨B, 0, none⟩) 3 (at3 a0 a1 a2) (at3 n0 n1 n2) (at3 c0 c1 c2) (at3 L0 L1 L2) := fun i hi => by
  refine ⟨B, 0, rfl, ?_⟩
  rcases i with _ | _ | _ | i
  · exact ⟨by simpa [at3] using hB.cell (i := 0) rfl, p0⟩
  · exact ⟨by simpa [at3] using hB.cell (i := 1) rfl, p1⟩
  · exact ⟨by simpa [at3] using hB.cell (i := 2) rfl, p2⟩
  · omega
theorem parts4 {w : World} {B : Nat} {t : TypeId} {a0 a1 a2 a3 : Option Addr} {n0 n1 n2 n3 c0 c1 c2 c3 : Nat} {L0 L1 L2 L3 : Nat → Int} (hB : Blk w B #[.slice a0 n0 c0, .slice a1 n1 c1, .slice a2 n2 c2, .slice a3 n3 c3] t) (p0 : Prt w a0 n0 c0 L0) (p1 : Prt w a1 n1 c1 L1) (p2 : Prt w a2 n2 c2 L2) (p3 : Prt w a3 n3 c3 L3) :
    Parts w (some ⟨B, 0, none⟩) 4 (at4 a0 a1 a2 a3) (at4 n0 n1 n2 n3) (at4 c0 c1 c2 c3) (at4 L0 L1 L2 L3) := fun i hi => by
  refine ⟨B, 0, rfl, ?_⟩
  rcases i with _ | _ | _ | _ | i
  · exact ⟨by simpa [at4] using hB.cell (i := 0) rfl, p0⟩
  · exact ⟨by simpa [at4] using hB.cell (i := 1) rfl, p1⟩
  · exact ⟨by simpa [at4] using hB.cell (i := 2) rfl, p2⟩
  · exact ⟨by simpa [at4] using hB.cell (i := 3) rfl, p3⟩
  · omega
theorem catN2 (x y : Nat) : catN (at2 x y) 2 = x + y := by simp [catN, at2]
theorem catN3 (x y z : Nat) : catN (at3 x y z) 3 = x + y + z := by simp [catN, at3]
theorem catN4 (x y z u : Nat) : catN (at4 x y z u) 4 = x + y + z + u := by simp [catN, at4]
theorem appL_zero (L M : Nat → Int) : appL L 0 M = M := by funext i; simp [appL]
theorem catL2 (x y : Nat) (L M : Nat → Int) : catL (at2 x y) (at2 L M) 2 = appL L x M := by simp [catL, catN, at2, appL_zero]
theorem catL3 (x y z : Nat) (L M N : Nat → Int) : catL (at3 x y z) (at3 L M N) 3 = appL (appL L x M) (x + y) N := by simp [catL, catN, at3, appL_zero]
theorem catL4 (x y z u : Nat) (L M N O : Nat → Int) : catL (at4 x y z u) (at4 L M N O) 4 = appL (appL (appL L x M) (x + y) N) (x + y + z) O := by simp [catL, catN, at4, appL_zero]
theorem appL_byte {L M : Nat → Int} {n m : Nat} (h : ∀ j, j < n → 0 ≤ L j ∧ L j < 256) (g : ∀ j, j < m → 0 ≤ M j ∧ M j < 256) : ∀ j, j < n + m → 0 ≤ appL L n M j ∧ appL L n M j < 256 := fun j hj => by
  unfold appL
  split
  · exact h j (by assumption)
  · exact g _ (by omega)
end Go.Proofs.Ytmdohnbhogfopaa
/- Frames: Put. -/
namespace Go.Proofs.Ytmdohnbhogfopaa
open Go.RowKit
set_option linter.unusedSimpArgs false
set_option linter.unusedVariables false
set_option maxRecDepth 100000
/-- The ten bytes ahead of the sum. -/
def headL (h st : Int) (sq v : Nat) : Nat → Int := appL (appL (at2 h st) 2 (tailB sq)) 6 (tailB v)
def lenF (o k : Int) : Nat := if mayB o k then 14 else 0
def errF (o k : Int) : Int := if mayB o k then 0 else 1
def frL (o k st sq v : Int) : Nat → Int := putS (headL (16 * k + o) st sq.toNat v.toNat) 10
theorem tailB_byte (s i : Nat) : 0 ≤ tailB s i ∧ tailB s i < 256 := by unfold tailB; omega
theorem headL_byte {h st : Int} {sq v : Nat} (h1 : 0 ≤ h ∧ h < 256) (h2 : 0 ≤ st ∧ st < 256) : ∀ i, i < 10 → 0 ≤ headL h st sq v i ∧ headL h st sq v i < 256 :=
  appL_byte (n := 6) (m := 4) (appL_byte (n := 2) (m := 4) (fun j hj => by
    rcases j with _ | _ | j
    · exact h1
    · exact h2
    · omega) fun j _ => tailB_byte _ _) fun j _ => tailB_byte _ _
theorem mayB_in {o k : Int} (h : mayB o k = true) : 0 ≤ o ∧ o < 8 ∧ (k = 1 ∨ k = 2) := by
  simp [mayB] at h
  omega
theorem frL_byte {o k st sq v : Int} (h : mayB o k = true) (hst : 0 ≤ st ∧ st < 256) : ∀ i, i < 14 → 0 ≤ frL o k st sq v i ∧ frL o k st sq v i < 256 := by
  have h1 := mayB_in h
  exact putS_byte (n := 10) (headL_byte (by omega) hst)
set_option maxHeartbeats 4000000 in
theorem frPut (w : World) (o k st sq v : Int) (hk : 0 ≤ k ∧ k < 256) (hst : 0 ≤ st ∧ st < 256) (hsq : 0 ≤ sq ∧ sq < 4294967296) (hv : 0 ≤ v ∧ v < 4294967296) :
    Calls Try.prog 40 #[frV o k st sq v] w fun e w' => ∃ a, e = .returned (.tuple #[.slice a (lenF o k) (lenF o k), .int .i64 (errF o k)]) ∧ Mine .u8 5 w.heap.size w' a (lenF o k) (frL o k st sq v) ∧ Below w.heap.size w w' := by
  obtain ⟨sqn, rfl⟩ := Int.eq_ofNat_of_zero_le hsq.1
  obtain ⟨vn, rfl⟩ := Int.eq_ofNat_of_zero_le hv.1
  cases hm : mayB o k with
  | false =>
    simp only [lenF, errF, hm]
    unfold frV
    go_enter Try.func40, Try.ntmps40
    go_wp2_with fail
    refine (frMay _ o k st sqn vn).mono ?_
    rintro e w1 ⟨rfl, hb1⟩
    rw [hm]
    go_wp2_with fail
    refine bodyPost_ret (v := .tuple #[.slice none 0 0, .int .i64 1]) (by simp [results, Try.results40, go_sem]) rfl ⟨_, rfl, Mine.nil _ _ _ _ _ _, bthen (below_alloc _ _) hb1⟩
  | true =>
    have hr := mayB_in hm
    have hh : (0 : Int) ≤ 16 * k + o ∧ 16 * k + o < 256 := by omega
    have u1 : IntKind.i64.wrap k = k := wrap_i64_small _ (by omega) (by omega)
    have u2 : IntKind.i64.wrap (16 * k) = 16 * k := wrap_i64_small _ (by omega) (by omega)
    have u3 : IntKind.i64.wrap (16 * k + o) = 16 * k + o := wrap_i64_small _ (by omega) (by omega)
    have u4 : IntKind.u8.wrap (16 * k + o) = 16 * k + o := by rw [IntKind.wrap_u8]; omega
    simp only [lenF, errF, hm, if_true]
    have hfr : Hid (frL o k st sqn vn = putS (headL (16 * k + o) st sqn vn) 10) := by show frL o k st sqn vn = _; simp [frL]
    rw [hfr.out]
    have hsq' := Lib.hid (show sqn < 4294967296 by omega)
    have hv' := Lib.hid (show vn < 4294967296 by omega)
    have hP := Lib.hid (fun (W : World) (B b g1 g2 : Nat) (hB : Blk W B #[.slice (some ⟨b, 0, none⟩) 2 2, .slice (some ⟨g1, 0, none⟩) 4 4, .slice (some ⟨g2, 0, none⟩) 4 4] 22) (hb : Blk W b #[.int .u8 (16 * k + o), .int .u8 st] 5)
        (h1 : Rd .u8 W (some ⟨g1, 0, none⟩) 4 (tailB sqn)) (h2 : Rd .u8 W (some ⟨g2, 0, none⟩) 4 (tailB vn)) => by
      have C := sumsPut W (some ⟨B, 0, none⟩) 3 3 _ _ _ _ (parts3 hB ⟨Rd.of_blk (L := at2 (16 * k + o) st) hb (fun i hi => by
        rcases i with _ | _ | i
        · rfl
        · rfl
        · omega), ⟨Nat.le_refl _, by omega, fun e => by simp at e⟩, fun j hj => by
          rcases j with _ | _ | j
          · exact hh
          · exact hst
          · omega⟩ ⟨h1, ⟨Nat.le_refl _, by omega, fun e => by simp at e⟩, fun j _ => tailB_byte _ _⟩ ⟨h2, ⟨Nat.le_refl _, by omega, fun e => by simp at e⟩, fun j _ => tailB_byte _ _⟩) (by omega) (by rw [catN3]; omega)
      rw [catN3, catL3] at C
      exact C)
    clear hm hsq hv
    unfold frV
    go_enter Try.func40, Try.ntmps40
    go_wp2_with fail
    have hB0 := Blk.new w #[.int .i64 o, .int .u8 k, .int .u8 st, .int .u32 sqn, .int .u32 vn] 58
    refine (frMay _ o k st sqn vn).mono ?_
    rintro e w1 ⟨rfl, hb1⟩
    have hB1 := hB0.below hb1 hB0.lt
    have hm2 : mayB o k = true := by simp [mayB]; omega
    rw [hm2]
    have hb01 := bthen (below_alloc _ _) hb1
    clear hB0 hb1 hm2
    have hB1d := Lib.hid hB1.drew
    have hlt := hb01.size
    have hcl : Hid (∀ W, Blk W w.heap.size #[.int .i64 o, .int .u8 k, .int .u8 st, .int .u32 sqn, .int .u32 vn] 58 → W.cell? ⟨w.heap.size, 0, none⟩ = some (.int .i64 o) ∧ W.cell? ⟨w.heap.size, 1, none⟩ = some (.int .u8 k) ∧ W.cell? ⟨w.heap.size, 2, none⟩ = some (.int .u8 st) ∧ W.cell? ⟨w.heap.size, 3, none⟩ = some (.int .u32 sqn) ∧ W.cell? ⟨w.heap.size, 4, none⟩ = some (.int .u32 vn)) := fun W h => ⟨h.cell (i := 0) rfl, h.cell (i := 1) rfl, h.cell (i := 2) rfl, h.cell (i := 3) rfl, h.cell (i := 4) rfl⟩
    have d0 := hcl.out _ hB1d.out
    have d00 := hcl.out _ (hB1d.out.alloc (.cells #[.int .u8 (16 * k + o), .int .u8 st] 5))
    go_wp2_with fail
    go_region_held3 (fun W => W.cell? ⟨w.heap.size, 0, none⟩ = some (.int .i64 o) ∧ W.cell? ⟨w.heap.size, 1, none⟩ = some (.int .u8 k) ∧ W.cell? ⟨w.heap.size, 2, none⟩ = some (.int .u8 st) ∧ W.cell? ⟨w.heap.size, 3, none⟩ = some (.int .u32 sqn) ∧ W.cell? ⟨w.heap.size, 4, none⟩ = some (.int .u32 vn)) (first | exact d0 | exact d00 | exact d9 | exact d99 | exact d10 | exact hcl.out _ (hB10.alloc _) | exact hcl.out _ ((hB10.alloc _).alloc _) | exact hcl.out _ (hB10.below (bthen hb11 hb12) hB10.lt))
      (first
        | (go_at_call 87
           (with_reducible refine (frFour _ sqn hsq'.out).mono ?_)
           rintro e w9 ⟨g9, rfl, m9, hb9⟩
           have hB9 := hB1d.out.below hb9 hB1d.out.lt
           have d9 := hcl.out _ hB9
           have d99 := hcl.out _ (hB9.alloc (.cells #[.int .u8 (16 * k + o), .int .u8 st] 5)))
        | (go_at_call 87
           (with_reducible refine (frFour _ sqn hsq'.out).mono ?_)
           rintro e w9 ⟨g9, rfl, m9, hb9⟩
           have hH9 : Blk w9 w1.heap.size #[.int .u8 (16 * k + o), .int .u8 st] 5 := (Blk.new w1.drew #[.int .u8 (16 * k + o), .int .u8 st] 5).below hb9 (Blk.lt (Blk.new _ _ _))
           have hB9 := (hB1d.out.alloc (.cells #[.int .u8 (16 * k + o), .int .u8 st] 5)).below hb9 (Blk.lt (hB1d.out.alloc _))
           have d9 := hcl.out _ hB9)
        | (go_at_call 87
           (with_reducible refine (frFour _ vn hv'.out).mono ?_)
           rintro e w10 ⟨g10, rfl, m10, hb10⟩
           have hH10 := hH9.below hb10 hH9.lt
           have hB10 := hB9.below hb10 hB9.lt
           have d10 := hcl.out _ hB10
           have x9 := m9.rd.below hb10 (Nat.le_refl _)
           have hb010 := bthen (bthen (bthen (bthen hb01 (below_drewN w1 1)) (below_alloc _ (.cells #[.int .u8 (16 * k + o), .int .u8 st] 5))) hb9) hb10)
        | (go_at_call 87
           (with_reducible refine (frFour _ vn hv'.out).mono ?_)
           rintro e w10 ⟨g10, rfl, m10, hb10⟩
           have hb910 := bthen (below_alloc w9 (.cells #[.int .u8 (16 * k + o), .int .u8 st] 5)) hb10
           have hH10 := (Blk.new w9 #[.int .u8 (16 * k + o), .int .u8 st] 5).below hb10 (Blk.lt (Blk.new _ _ _))
           have hB10 := hB9.below hb910 hB9.lt
           have d10 := hcl.out _ hB10
           have x9 := m9.rd.below hb910 (Nat.le_refl _)
           have hb010 := bthen (bthen (bthen hb01 (below_drewN w1 1)) hb9) hb910)
        | (go_at_call 87
           (with_reducible refine (frFour _ vn hv'.out).mono ?_)
           rintro e w10 ⟨g10, rfl, m10, hb10⟩
           have hB10 := hB9.below hb10 hB9.lt
           have d10 := hcl.out _ hB10
           have d100 := hcl.out _ (hB10.alloc (.cells #[.int .u8 (16 * k + o), .int .u8 st] 5))
           have x9 := m9.rd.below hb10 (Nat.le_refl _)
           have hb010 := bthen (bthen (bthen hb01 (below_drewN w1 1)) hb9) hb10)
        | (go_at_call 86
           refine calls_abs (fun W => Below w10.heap.size w10 W ∧ Blk W w10.heap.size #[.slice (some ⟨w1.heap.size, 0, none⟩) 2 2, .slice (some ⟨g9, 0, none⟩) 4 4, .slice (some ⟨g10, 0, none⟩) 4 4] 22) ⟨below_alloc _ _, Blk.new _ _ _⟩ ?_
           rintro w11 ⟨hb11, hB11⟩
           (with_reducible refine (hP.out _ _ _ _ _ hB11 (hH10.below hb11 hH10.lt) (x9.below hb11 (Nat.le_refl _)) (m10.rd.below hb11 (Nat.le_refl _))).mono ?_)
           rintro e w12 ⟨a12, rfl, m12, hb12⟩
           have hb011 := bthen hb010 hb11)
        | (go_at_call 86
           refine calls_abs (fun W => Below w10.heap.size w10 W ∧ Blk W w10.heap.size #[.slice (some ⟨w9.heap.size, 0, none⟩) 2 2, .slice (some ⟨g9, 0, none⟩) 4 4, .slice (some ⟨g10, 0, none⟩) 4 4] 22) ⟨below_alloc _ _, Blk.new _ _ _⟩ ?_
           rintro w11 ⟨hb11, hB11⟩
           (with_reducible refine (hP.out _ _ _ _ _ hB11 (hH10.below hb11 hH10.lt) (x9.below hb11 (Nat.le_refl _)) (m10.rd.below hb11 (Nat.le_refl _))).mono ?_)
           rintro e w12 ⟨a12, rfl, m12, hb12⟩
           have hb011 := bthen hb010 hb11)
        | (go_at_call 86
           refine calls_abs (fun W => Below w10.heap.size w10 W ∧ Blk W w10.heap.size #[.int .u8 (16 * k + o), .int .u8 st] 5 ∧ Blk W (w10.heap.size + 1) #[.slice (some ⟨w10.heap.size, 0, none⟩) 2 2, .slice (some ⟨g9, 0, none⟩) 4 4, .slice (some ⟨g10, 0, none⟩) 4 4] 22) ⟨(below_alloc _ _).trans ((below_alloc _ _).mono (by simp)), (Blk.new _ _ _).alloc _, by have := Blk.new (w10.alloc (.cells #[.int .u8 (16 * k + o), .int .u8 st] 5)) #[.slice (some ⟨w10.heap.size, 0, none⟩) 2 2, .slice (some ⟨g9, 0, none⟩) 4 4, .slice (some ⟨g10, 0, none⟩) 4 4] 22; simpa using this⟩ ?_
           rintro w11 ⟨hb11, hH11, hB11⟩
           (with_reducible refine (hP.out _ _ _ _ _ hB11 hH11 (x9.below hb11 (Nat.le_refl _)) (m10.rd.below hb11 (Nat.le_refl _))).mono ?_)
           rintro e w12 ⟨a12, rfl, m12, hb12⟩
           have hb011 := bthen hb010 hb11)
        | fail)
    all_goals
      go_wp2_with fail
      refine bodyPost_ret (v := .tuple #[.slice a12 14 14, .int .i64 0]) (by simp [results, Try.results40, go_sem]) rfl ⟨_, rfl, m12.mono hb011.size, bthen hb011 hb12⟩
end Go.Proofs.Ytmdohnbhogfopaa
/- Frames: slices.Concat of symbols (the text of SumsC and SumsD, the types turned). -/
namespace Go.Proofs.Ytmdohnbhogfopaa
open Go.RowKit
set_option linter.unusedSimpArgs false
set_option linter.unusedVariables false
set_option maxRecDepth 100000
/-- slices.Grow of nil symbols. -/
theorem growS (w : World) (n : Nat) (hn : n ≤ 1000000) :
    Calls Try.prog 124 #[.slice none 0 0, .int .i64 n] w fun e w' => ∃ v, e = .returned v ∧ w'.ownsRow w.heap.size 35 1 v 0 [] ∧ Below w.heap.size w w' := by
  obtain ⟨i0, hi, hz0, hz1, hz2⟩ := info_parts elemS
  have u1 : IntKind.i64.wrap (n : Int) = n := wrap_i64_small _ (by omega) (by omega)
  have g1 : decide ((n : Int) < 0) = false := by simp <;> omega
  rcases Nat.eq_zero_or_pos n with rfl | hp
  · go_enter Try.func124, Try.ntmps124
    go_wp2
    go_ret
    exact ⟨_, rfl, World.ownsRow_nil _ _ _ _, Below.refl _ _⟩
  · have g2 : decide (0 < (n : Int)) = true := by simp; omega
    have hu := Try.underlying47
    have happ := Lib.run_append_nil_zeros (P := Try.prog) w 47 3 47 35 i0 (.int .u8 0) .i64 .i64 Try.underlying47 Try.underlying3 hi hz0 n hp (by omega) (by omega) (by rw [hz2]; omega)
    have hcg : n ≤ grownCap w n 0 35 := grownCap_ge w _ 0 _
    have hcl : grownCap w n 0 35 ≤ maxLen := grownCap_le_maxLen w _ 0 _ (by unfold maxLen; omega)
    generalize grownCap w n 0 35 = cap at *
    generalize hZ : Builtin.zeroCells (Value.int .u8 0).cells n ++ Builtin.zeroCells (Value.int .u8 0).cells (cap - n) = Z at *
    have hZs : Z.size = cap := by rw [← hZ]; simp [size_zeroCells, Value.cells]; omega
    have hown := Lib.hid (World.ownsRow_made (base := w.heap.size) (e := 35) (size := 1) w.drew Z cap (Nat.le_refl _) hcl (by omega))
    have hbel := Lib.hid (show Below w.heap.size w (w.drew.alloc (.cells Z 35)) from (bdrewN (Below.refl _ w) 1).alloc (Nat.le_refl _) _)
    have hmx : cap ≤ 9223372036854775807 := by unfold maxLen at hcl; omega
    have hsz : w.drew.heap.size = w.heap.size := rfl
    clear hZ hcl
    go_enter Try.func124, Try.ntmps124
    go_wp2_with (at_builtin; refine Lib.wpList_append_run _ rfl _ _ _ _ rfl _ _ rfl rfl _ _ happ ?_)
    go_wp2
    go_ret
    exact ⟨_, rfl, hown.out, hbel.out⟩
def InvCatS1 (w : World) (ap : Option Addr) (K cp : Nat) (PN : Nat → Nat) (k : Nat) (a : Act) (wr : World) : Prop :=
  ∃ i : Nat, i + k = K ∧ wr = w ∧ a.tmps.size = 36 ∧ a.defers = [] ∧ slot a 0 = .slice ap K cp ∧ slot a 3 = .int .i64 (catN PN i : Nat) ∧ slot a 9 = .slice ap K cp ∧ slot a 10 = .int .i64 K ∧ slot a 11 = .int .i64 i
def InvCatS2 (w : World) (ap : Option Addr) (K cp : Nat) (PN : Nat → Nat) (PL : Nat → Nat → Int) (k : Nat) (a : Act) (wr : World) : Prop :=
  ∃ (i : Nat) (v : Value), i + k = K ∧ Below w.heap.size w wr ∧ wr.ownsRow w.heap.size 35 1 v (catN PN i) (nums .u8 (catL PN PL i) (catN PN i)) ∧ a.tmps.size = 36 ∧ a.defers = [] ∧ slot a 6 = v ∧ slot a 25 = .slice ap K cp ∧ slot a 26 = .int .i64 K ∧ slot a 27 = .int .i64 i
set_option maxHeartbeats 1000000 in
/-- slices.Concat of symbols. -/
theorem concatS (w : World) (ap : Option Addr) (K cp : Nat) (PA : Nat → Option Addr) (PN PC : Nat → Nat) (PL : Nat → Nat → Int) (h : Parts w ap K PA PN PC PL) (hK : K ≤ 1000) (hN : catN PN K ≤ 1000000) :
    Calls Try.prog 90 #[.slice ap K cp] w fun e w' => ∃ v, e = .returned v ∧ w'.ownsRow w.heap.size 35 1 v (catN PN K) (nums .u8 (catL PN PL K) (catN PN K)) ∧ Below w.heap.size w w' := by
  obtain ⟨i0, hi0, hz0, hz1, hz2⟩ := info_parts elemS
  replace h := Lib.hid h
  go_enter Try.func90, Try.ntmps90
  go_wp2
  refine wp_loop_k (InvCatS1 w ap K cp PN) K ?_ ?_
  · exact ⟨0, by omega, rfl, by kernel_rfl, rfl, by kernel_rfl, by kernel_rfl, by kernel_rfl, by kernel_rfl, by kernel_rfl⟩
  · intro gk a wr hI K1 hK1
    obtain ⟨i, hi, rfl, hs', hd', k0', k3', k9', k10', k11'⟩ := hI
    rw [fr36 a hs' hd']; simp only [k0', k3', k9', k10', k11']; clear hs' hd' k0' k3' k9' k10' k11'
    by_cases hlt : i < K
    · have g1 : decide ((i : Int) < (K : Int)) = true := by simp; omega
      obtain ⟨b, o, rfl, hc, hr, hnl, hL⟩ := h.out i hlt
      have hcat := catN_mono (PN := PN) (show i + 1 ≤ K by omega)
      have hPN : catN PN (i + 1) = catN PN i + PN i := rfl
      have ui : IntKind.i64.wrap ((i : Int) + 1) = ((i + 1 : Nat) : Int) := wrap_i64_small _ (by omega) (by omega)
      have us : IntKind.i64.wrap ((catN PN i : Int) + (PN i : Int)) = ((catN PN (i + 1) : Nat) : Int) := by rw [wrap_i64_small _ (by omega) (by omega)]; omega
      have g2 : decide (((catN PN (i + 1) : Nat) : Int) < 0) = false := by simp <;> omega
      generalize catN PN (i + 1) = s1 at *
      have hs1 : Hid (s1 = catN PN (i + 1)) := hPN
      clear hr hL hnl hPN hcat
      go_wp2
      exact hK1 (K - (i + 1)) _ _ (by omega) ⟨i + 1, by omega, rfl, by kernel_rfl, rfl, by kernel_rfl, by show Value.int _ _ = Value.int _ _; rw [hs1.out], by kernel_rfl, by kernel_rfl, by kernel_rfl⟩
    · obtain rfl : K = i := by omega
      have g1 : decide ((K : Int) < (K : Int)) = false := by simp
      go_wp2_with fail
      refine (growS _ _ hN).mono ?_
      rintro e w1 ⟨v, rfl, hown, hb⟩
      have hown' := Lib.hid hown
      have hb' := Lib.hid hb
      clear hown hb
      go_wp2
      refine wp_loop_k (InvCatS2 wr ap K cp PN PL) K ?_ ?_
      · exact ⟨0, v, by omega, hb'.out, hown'.out, by kernel_rfl, rfl, by kernel_rfl, by kernel_rfl, by kernel_rfl, by kernel_rfl⟩
      · clear hown' hb' g1
        clear v w1 hlt hi
        intro gk2 a w2 hI K2 hK2
        obtain ⟨i, v, hi, hb, hown, hs', hd', k6', k25', k26', k27'⟩ := hI
        rw [fr36 a hs' hd']; simp only [k6', k25', k26', k27']; clear hs' hd' k6' k25' k26' k27'
        by_cases hlt : i < K
        · have g1 : decide ((i : Int) < (K : Int)) = true := by simp; omega
          obtain ⟨b, o, rfl, hc, hr, hnl, hL⟩ := h.out i hlt
          have hcat := catN_mono (PN := PN) (show i + 1 ≤ K by omega)
          have hPN : catN PN (i + 1) = catN PN i + PN i := rfl
          have ui : IntKind.i64.wrap ((i : Int) + 1) = ((i + 1 : Nat) : Int) := wrap_i64_small _ (by omega) (by omega)
          have hc2 := below_cell hc hb (World.block_lt_of_cell? wr _ hc)
          have hr2 := hr.below hb (Nat.le_refl _)
          have hnews := nums_news hr2
          have hown' := Lib.hid hown
          have hb' := Lib.hid hb
          have hnews' := Lib.hid hnews
          have hnl' := Lib.hid hnl
          have hPN' := Lib.hid hPN
          have hcat' := Lib.hid hcat
          clear hr hL hnl hPN hcat hc hr2 hnews hb hown
          go_wp2_with (at_builtin; refine append_src rfl _ _ 47 rfl wr.heap.size 35 i0 (.int .u8 0) 1 Try.underlying47 hi0 hz0 hz1 hz2 rfl _ _ _ rfl hown'.out (PA i) (PN i) (PC i) (nums .u8 (PL i) (PN i)) rfl hnl'.out.2.2 (nums_len _ _ _) hnews'.out (nums_one _ _ _) (by have := hcat'.out; have := hPN'.out; omega) (by have := hcat'.out; have := hPN'.out; omega) hb'.out.size ?_)
          intro v1 w3 hown1 hg1 _
          have hb3 := hb'.out.trans (Below.grown (Below.refl _ _) hg1 hb'.out.size (fun k hk => (hown'.out.lt k hk).1))
          rw [nums_app] at hown1
          have hown2 := Lib.hid hown1
          have hb4 := Lib.hid hb3
          clear hown1 hg1 hb3 hown' hb'
          go_wp2
          exact hK2 (K - (i + 1)) _ _ (by omega) ⟨i + 1, v1, by omega, hb4.out, hown2.out, by kernel_rfl, rfl, by kernel_rfl, by kernel_rfl, by kernel_rfl, by kernel_rfl⟩
        · obtain rfl : i = K := by omega
          have g1 : decide ((i : Int) < (i : Int)) = false := by simp
          have hown' := Lib.hid hown
          have hb' := Lib.hid hb
          clear hown hb
          go_wp2
          go_ret
          exact ⟨_, rfl, hown'.out, hb'.out⟩
end Go.Proofs.Ytmdohnbhogfopaa
/- Frames: tails, Syms. -/
namespace Go.Proofs.Ytmdohnbhogfopaa
open Go.RowKit
set_option linter.unusedSimpArgs false
set_option linter.unusedVariables false
set_option maxRecDepth 100000
/-- A tail's value; its symbols. -/
def tailV (wh un : Bool) : Value := .agg #[.bool wh, .bool un]
def symI (b : Bool) : Int := if b then 2 else 1
def tailSL (wh un : Bool) : Nat → Int := at2 (symI wh) (symI un)
def goodB (wh un : Bool) : Bool := wh && !un
def lenS (o k : Int) : Nat := if mayB o k then 114 else 0
def frSL (o k st sq v : Int) (wh un : Bool) : Nat → Int := appL (ofL (frL o k st sq v)) 112 (tailSL wh un)
theorem elemB : (Try.prog.info? 4).map (fun i => (i.zero, i.size, i.bytes)) = some (some (.bool false), 1, 1) := by kernel_rfl
theorem eq_two (W : World) (a b c d : Bool) : (Op.equalIn 10000 108 (.agg #[.bool a, .bool b]) (.agg #[.bool c, .bool d])).run Try.prog W = .ok ((a == c) && (b == d)) W := by
  obtain ⟨i0, hi, hz0, hz1, hz2⟩ := info_parts elemB
  rw [run_equalIn_array W 9999 _ _ Try.underlying108 hi]
  have hc : Try.prog.cellsOf 4 = 1 := by kernel_rfl
  rw [hc]
  have hr : List.range 2 = [0, 1] := rfl
  rw [hr]
  cases a <;> cases b <;> cases c <;> cases d <;> simp [Op.eqItems, go_sem]
theorem idx_two (W : World) (a b : Bool) : (Instr.index 108 (.agg #[.bool a, .bool b]) (.int .i64 0)).run Try.prog W = .ok (.bool a) W ∧ (Instr.index 108 (.agg #[.bool a, .bool b]) (.int .i64 1)).run Try.prog W = .ok (.bool b) W := by
  have h1 := Try.underlying108
  constructor <;> simp [Instr.index, go_sem, run_underlying h1]
theorem symI_byte (b : Bool) : 1 ≤ symI b ∧ symI b ≤ 2 := by cases b <;> simp [symI]
theorem frTailParts (w : World) (wh un : Bool) : Calls Try.prog 75 #[tailV wh un] w fun e w' => e = .returned (tailV wh un) ∧ Below w.heap.size w w' := by
  unfold tailV
  go_enter Try.func75, Try.ntmps75
  go_wp2
  refine bodyPost_ret (v := .agg #[.bool wh, .bool un]) (by simp [results, Try.results75, go_sem]) rfl ⟨rfl, (below_alloc _ _).trans ((below_alloc _ _).mono (by simp))⟩
theorem frGoodT (w : World) : Calls Try.prog 76 #[] w fun e w' => e = .returned (tailV true false) ∧ Below w.heap.size w w' := by
  unfold tailV
  go_enter Try.func76, Try.ntmps76
  go_wp2
  refine bodyPost_ret (v := .agg #[.bool true, .bool false]) (by simp [results, Try.results76, go_sem]) rfl ⟨rfl, below_alloc _ _⟩
theorem frGood (w : World) (wh un : Bool) : Calls Try.prog 26 #[tailV wh un] w fun e w' => e = .returned (.bool (goodB wh un)) ∧ Below w.heap.size w w' := by
  unfold tailV
  go_enter Try.func26, Try.ntmps26
  go_wp2_with fail
  refine (frTailParts _ wh un).mono ?_
  rintro e w1 ⟨rfl, hb1⟩
  go_wp2_with fail
  refine (frGoodT _).mono ?_
  rintro e w2 ⟨rfl, hb2⟩
  have hb := bthen (bthen (below_alloc _ _) hb1) hb2
  clear hb1 hb2
  have hq := fun W => eq_two W wh un true false
  have hg : (wh == true && un == false) = goodB wh un := by cases wh <;> cases un <;> rfl
  rw [hg] at hq
  simp only [tailV]
  go_wp2
  go_ret
  exact ⟨rfl, hb⟩
def InvTS (w : World) (B : Nat) (wh un : Bool) (k : Nat) (a : Act) (wr : World) : Prop :=
  ∃ (i : Nat) (ao : Option Addr), i + k = 2 ∧ Below w.heap.size w wr ∧ Mine .u8 35 w.heap.size wr ao i (tailSL wh un) ∧ (ao = none → i = 0) ∧ a.tmps.size = 18 ∧ a.defers = [] ∧ slot a 3 = .slice ao i i ∧ slot a 8 = tailV wh un ∧ slot a 9 = .int .i64 i
theorem put_one (L : Nat → Int) (n : Nat) (b : Bool) : ∀ i, putL L n (if b then 1 else 0) 1 i = if i < n then L i else if i = n then symI b else putL L n (if b then 1 else 0) 1 i := fun i => by
  unfold putL
  by_cases h : i < n
  · simp [h]
  · by_cases h2 : i = n
    · subst h2
      cases b <;> simp [symI, bitN]
    · simp [h, h2]
theorem bitsOf_one : bitsOf 1 = 1 := by decide
set_option maxHeartbeats 2000000 in
theorem frTailSyms (w : World) (wh un : Bool) : Calls Try.prog 47 #[tailV wh un] w fun e w' => ∃ a, e = .returned (.slice a 2 2) ∧ Mine .u8 35 w.heap.size w' a 2 (tailSL wh un) ∧ Below w.heap.size w w' := by
  have hT : Hid (tailV wh un = tailV wh un) := rfl
  have hu : tailV wh un = .agg #[.bool wh, .bool un] := rfl
  rw [hu]
  go_enter Try.func47, Try.ntmps47
  go_wp2_with fail
  refine (frTailParts _ wh un).mono ?_
  rintro e w1 ⟨rfl, hb1⟩
  have hb := bthen (below_alloc _ _) hb1
  clear hb1 hu
  go_wp2
  refine wp_loop_k (InvTS w 0 wh un) 2 ?_ ?_
  · exact ⟨0, none, by omega, hb, Mine.nil _ _ _ _ _ _, fun _ => rfl, by kernel_rfl, rfl, by kernel_rfl, by kernel_rfl, by kernel_rfl⟩
  intro gk1 a wr hI K1 hK1
  obtain ⟨i, ao, hi, hbw, hm, hnil, hs', hd', k3', k8', k9'⟩ := hI
  rw [fr18 a hs' hd']; simp only [k3', k8', k9']; clear hs' hd' k3' k8' k9'
  clear hb
  have hstep : Hid (∀ (b : Bool), i < 2 → tailSL wh un i = symI b → Calls Try.prog 93 #[.slice ao i i, .int .u64 (if b then 1 else 0), .int .i64 1] wr fun e w' => ∃ a, e = .returned (.slice a (i + 1) (i + 1)) ∧ Mine .u8 35 w.heap.size w' a (i + 1) (tailSL wh un) ∧ Below w.heap.size w w') := fun b hi2 hb => by
    have C := bitsPut wr ao i i (tailSL wh un) (if b then 1 else 0) 1 hm.rd (fun e => ⟨hnil e, hnil e⟩) (by omega) (by cases b <;> simp)
    rw [bitsOf_one] at C
    have e1 : (((if b then 1 else 0 : Nat)) : Int) = if b then 1 else 0 := by cases b <;> rfl
    rw [e1] at C
    refine C.mono ?_
    rintro e w' ⟨a, rfl, m, hbb⟩
    refine ⟨a, rfl, (m.mono hbw.size).congr fun j hj => ?_, hbw.trans (hbb.mono hbw.size)⟩
    rw [put_one]
    by_cases h : j < i
    · rw [if_pos h]
    · obtain rfl : j = i := by omega
      rw [if_neg (by omega), if_pos rfl, hb]
  by_cases h0 : i = 0
  · subst h0
    simp only [tailV]
    have hix := fun W => (idx_two W wh un).1
    cases wh
    all_goals
      go_wp2_with fail
      first
        | (have C := hstep.out false (by omega) rfl
           simp only [Bool.false_eq_true, if_false] at C
           with_reducible refine C.mono ?_)
        | (have C := hstep.out true (by omega) rfl
           simp only [if_true] at C
           with_reducible refine C.mono ?_)
        | fail
      rintro e w2 ⟨a2, rfl, m2, hb2⟩
      go_wp2_with fail
      exact hK1 1 _ _ (by omega) ⟨1, a2, by omega, hb2, m2, fun e => by have := m2.none e; omega, by kernel_rfl, rfl, by kernel_rfl, by kernel_rfl, by kernel_rfl⟩
  by_cases h1 : i = 1
  · subst h1
    simp only [tailV]
    have hix := fun W => (idx_two W wh un).2
    cases un
    all_goals
      go_wp2_with fail
      first
        | (have C := hstep.out false (by omega) rfl
           simp only [Bool.false_eq_true, if_false] at C
           with_reducible refine C.mono ?_)
        | (have C := hstep.out true (by omega) rfl
           simp only [if_true] at C
           with_reducible refine C.mono ?_)
        | fail
      rintro e w2 ⟨a2, rfl, m2, hb2⟩
      go_wp2_with fail
      exact hK1 0 _ _ (by omega) ⟨2, a2, by omega, hb2, m2, fun e => by have := m2.none e; omega, by kernel_rfl, rfl, by kernel_rfl, by kernel_rfl, by kernel_rfl⟩
  · obtain rfl : i = 2 := by omega
    go_wp2
    go_ret
    exact ⟨_, rfl, hm, hbw⟩
set_option maxHeartbeats 2000000 in
theorem frSyms (w : World) (o k st sq v : Int) (wh un : Bool) (hk : 0 ≤ k ∧ k < 256) (hst : 0 ≤ st ∧ st < 256) (hsq : 0 ≤ sq ∧ sq < 4294967296) (hv : 0 ≤ v ∧ v < 4294967296) :
    Calls Try.prog 43 #[frV o k st sq v, tailV wh un] w fun e w' => ∃ a, e = .returned (.tuple #[.slice a (lenS o k) (lenS o k), .int .i64 (errF o k)]) ∧ Mine .u8 35 w.heap.size w' a (lenS o k) (frSL o k st sq v wh un) ∧ Below w.heap.size w w' := by
  have P1 := Lib.hid (fun W => frPut W o k st sq v hk hst hsq hv)
  have P2 := Lib.hid (fun W => frTailSyms W wh un)
  cases hm : mayB o k with
  | false =>
    simp only [lenS, errF, lenF, hm] at P1 ⊢
    unfold frV tailV
    go_enter Try.func43, Try.ntmps43
    go_wp2_with fail
    refine (P1.out _).mono ?_
    rintro e w1 ⟨a, rfl, _, hb1⟩
    go_wp2_with fail
    refine bodyPost_ret (v := .tuple #[.slice none 0 0, .int .i64 1]) (by simp [results, Try.results43, go_sem]) rfl ⟨_, rfl, Mine.nil _ _ _ _ _ _, bthen ((below_alloc _ _).trans ((below_alloc _ _).mono (by simp))) hb1⟩
  | true =>
    have hfb := Lib.hid (frL_byte (sq := sq) (v := v) hm hst)
    simp only [lenS, errF, lenF, hm, if_true] at P1 ⊢
    clear hm
    unfold frV tailV
    go_enter Try.func43, Try.ntmps43
    go_wp2_with fail
    have hT0 : Blk ((w.alloc (.cells #[.int .i64 o, .int .u8 k, .int .u8 st, .int .u32 sq, .int .u32 v] 58)).alloc (.cells #[.bool wh, .bool un] 60)) (w.heap.size + 1) #[.bool wh, .bool un] 60 := by
      have := Blk.new (w.alloc (.cells #[.int .i64 o, .int .u8 k, .int .u8 st, .int .u32 sq, .int .u32 v] 58)) #[.bool wh, .bool un] 60
      simpa using this
    refine (P1.out _).mono ?_
    rintro e w1 ⟨a, rfl, m1, hb1⟩
    have hT1 := hT0.below hb1 hT0.lt
    have hb01 := bthen ((below_alloc _ _).trans ((below_alloc _ _).mono (by simp))) hb1
    have x1 := Lib.hid m1.rd
    have hT1d := Lib.hid hT1.drew
    have hcl : Hid (∀ W, Blk W (w.heap.size + 1) #[.bool wh, .bool un] 60 → W.cell? ⟨w.heap.size + 1, 0, none⟩ = some (.bool wh) ∧ W.cell? ⟨w.heap.size + 1, 1, none⟩ = some (.bool un)) := fun W h => ⟨h.cell (i := 0) rfl, h.cell (i := 1) rfl⟩
    have d0 := hcl.out _ hT1d.out
    have hb01' := hb01
    clear m1 hT0 hb1 P1
    go_wp2_with fail
    unfold tailV at P2
    have P3 := Lib.hid (fun (W : World) (h : Rd .u8 W a 14 (frL o k st sq v)) => ofSyms W a 14 14 _ h hfb.out (by omega))
    have P4 := Lib.hid (fun (W : World) (B : Nat) (a1 a2 : Option Addr) (hB : Blk W B #[.slice a1 112 112, .slice a2 2 2] 47) (h1 : Rd .u8 W a1 112 (ofL (frL o k st sq v))) (h2 : Rd .u8 W a2 2 (tailSL wh un)) (n1 : a1 ≠ none) (n2 : a2 ≠ none) => by
      have C := concatS W (some ⟨B, 0, none⟩) 2 2 _ _ _ _ (parts2 hB ⟨h1, ⟨Nat.le_refl _, by omega, fun e => absurd e n1⟩, fun j _ => by unfold ofL bitN; omega⟩ ⟨h2, ⟨Nat.le_refl _, by omega, fun e => absurd e n2⟩, fun j _ => by
        have h3 := symI_byte wh
        have h4 := symI_byte un
        unfold tailSL at2
        split <;> omega⟩) (by omega) (by rw [catN2]; omega)
      rw [catN2, catL2] at C
      exact C)
    go_region_held3 (fun W => W.cell? ⟨w.heap.size + 1, 0, none⟩ = some (.bool wh) ∧ W.cell? ⟨w.heap.size + 1, 1, none⟩ = some (.bool un)) (first | exact d0 | exact d9 | exact d10 | exact hcl.out _ (hB10.alloc _) | exact hcl.out _ (hB10.below (bthen hb11 hb12) hB10.lt))
      (first
        | (go_at_call 91
           (with_reducible refine (P3.out _ x1.out.drew).mono ?_)
           rintro e w9 ⟨a9, rfl, m9, hb9⟩
           have hB9 := hT1d.out.below hb9 hT1d.out.lt
           have d9 := hcl.out _ hB9
           have hb09 := bthen (bthen hb01 (below_drewN w1 1)) hb9)
        | (go_at_call 47
           (with_reducible refine (P2.out _).mono ?_)
           rintro e w10 ⟨a10, rfl, m10, hb10⟩
           have hB10 := hB9.below hb10 hB9.lt
           have d10 := hcl.out _ hB10
           have hb010 := bthen hb09 hb10)
        | (go_at_call 90
           refine calls_abs (fun W => Below w10.heap.size w10 W ∧ Blk W w10.heap.size #[.slice a9 112 112, .slice a10 2 2] 47) ⟨below_alloc _ _, Blk.new _ _ _⟩ ?_
           rintro w11 ⟨hb11, hB11⟩
           (with_reducible refine (P4.out _ _ _ _ hB11 (m9.rd.below (bthen hb10 hb11) (Nat.le_refl _)) (m10.rd.below hb11 (Nat.le_refl _)) (fun e => by have := m9.none e; omega) (fun e => by have := m10.none e; omega)).mono ?_)
           rintro e w12 ⟨v12, rfl, hown, hb12⟩
           have hb011 := bthen hb010 hb11
           obtain ⟨a12, c12, rfl, q1, q2, q3, m12⟩ := own_mine hown
           have q4 : (114 : Int) ≤ (c12 : Int) := by omega
           have q5 : 114 ≤ c12 := q1)
        | fail)
    all_goals
      go_wp2_with fail
      refine bodyPost_ret (v := .tuple #[.slice a12 114 114, .int .i64 0]) (by simp [results, Try.results43, go_sem]) rfl ⟨_, rfl, m12.mono hb011.size, bthen hb011 hb12⟩
end Go.Proofs.Ytmdohnbhogfopaa
