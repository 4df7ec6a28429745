/- Several texts, one behind the other: SumsR SumsS SumsT SumsU. -/
import Derived.Test.YtmdohnbhogfopaaZSumsAE
import Derived.Lib.SlBytesConst
/- The document's sums: Of: a division, bit by bit. -/
namespace Go.Proofs.Ytmdohnbhogfopaa
open Go.RowKit
set_option linter.unusedSimpArgs false
set_option linter.unusedVariables false
set_option maxRecDepth 100000
def mB (L : Nat → Int) (n j : Nat) : Bool := decide (j < 8 * n) && bitU L j
def powN (k : Nat) : Nat := [26, 23, 22, 16, 12, 11, 10, 8, 7, 5, 4, 2, 1, 0].getD k 0
theorem powN_le : ∀ k, k < 14 → powN k ≤ 26 := by decide
def flA (i : Nat) : Nat → Nat → Bool
  | 0, j => decide (j = i)
  | k + 1, j => flA i k j ^^ decide (j = i + 32 - powN k)
def flZ : Nat → Nat → Bool
  | 0, _ => false
  | t + 1, k => flZ t k ^^ decide (k + powN t = 31)
theorem flA_at (i k : Nat) : ∀ t, t ≤ 14 → flA i t (i + 1 + k) = flZ t k
  | 0, _ => by simp [flA, flZ]; omega
  | t + 1, h => by
    have := powN_le t (by omega)
    rw [flA, flZ, flA_at i k t (by omega)]
    congr 1
    simp only [decide_eq_decide]
    omega
theorem flZ_poly : ∀ k, k < 32 → flZ 14 k = (79764919 : Nat).testBit (31 - k) := by decide
theorem flA_far (i j : Nat) (h : i + 33 ≤ j) : ∀ t, flA i t j = false
  | 0 => by simp [flA]; omega
  | t + 1 => by
    rw [flA, flA_far i j h t]
    simp
    omega
/-- The bits behind i steps of the division. -/
def dvB (m : Nat → Bool) : Nat → Nat → Bool
  | 0, j => decide (j < 32) ^^ m j
  | i + 1, j => dvB m i j ^^ (dvB m i i && flA i 14 j)
theorem dvB_win (m : Nat → Bool) : ∀ i, (∀ k, k < 32 → dvB m i (i + k) = ((regB 4294967295 m i).testBit (31 - k) ^^ m (i + k))) ∧ ∀ j, i + 32 ≤ j → dvB m i j = m j
  | 0 => by
    constructor
    · intro k hk
      have h1 : (4294967295 : Nat).testBit (31 - k) = true := by
        have := Nat.testBit_two_pow_sub_one 32 (31 - k)
        simp only [show (2 : Nat) ^ 32 - 1 = 4294967295 by decide] at this
        rw [this]
        simp
        omega
      rw [dvB, regB, h1]
      have h2 : decide (0 + k < 32) = true := by simp; omega
      rw [h2]
    · intro j hj
      have h2 : decide (j < 32) = false := by simp; omega
      rw [dvB, h2]
      simp
  | i + 1 => by
    obtain ⟨h1, h2⟩ := dvB_win m i
    have h0 := h1 0 (by omega)
    rw [Nat.add_zero, Nat.sub_zero] at h0
    constructor
    · intro k hk
      rw [dvB, h0, flA_at i k 14 (by omega), flZ_poly k hk, regB_bit]
      have e1 : decide (31 - k < 32) = true := by simp; omega
      rw [e1]
      by_cases hk31 : k = 31
      · subst hk31
        rw [h2 (i + 1 + 31) (by omega)]
        simp
        generalize m (i + 1 + 31) = x
        generalize (regB 4294967295 m i).testBit 31 = y
        generalize m i = z
        cases x <;> cases y <;> cases z <;> rfl
      · have e2 : decide (1 ≤ 31 - k) = true := by simp; omega
        have e3 : 31 - k - 1 = 31 - (k + 1) := by omega
        rw [e2, e3, show i + 1 + k = i + (k + 1) by omega, h1 (k + 1) (by omega)]
        generalize (regB 4294967295 m i).testBit (31 - (k + 1)) = p
        generalize (regB 4294967295 m i).testBit 31 = q
        generalize m (i + (k + 1)) = r
        generalize m i = s
        generalize (79764919 : Nat).testBit (31 - k) = t
        cases p <;> cases q <;> cases r <;> cases s <;> cases t <;> rfl
    · intro j hj
      rw [dvB, h2 j (by omega), flA_far i j (by omega)]
      simp
def numK (S : Nat) : Nat → Nat
  | 0 => 0
  | k + 1 => 2 * numK S k + (if S.testBit (31 - k) then 1 else 0)
theorem numK_div {S : Nat} (hS : S < 4294967296) : ∀ k, k ≤ 32 → numK S k = S / 2 ^ (32 - k)
  | 0, _ => by
    have e : (2 : Nat) ^ (32 - 0) = 4294967296 := by decide
    rw [numK, e, Nat.div_eq_of_lt hS]
  | k + 1, h => by
    have e1 : 32 - k = 31 - k + 1 := by omega
    have e2 : 32 - (k + 1) = 31 - k := by omega
    rw [numK, numK_div hS k (by omega), e2, e1, Nat.pow_succ, ← Nat.div_div_eq_div_mul, Nat.testBit_eq_decide_div_mod_eq]
    generalize S / 2 ^ (31 - k) = y
    by_cases hy : y % 2 = 1
    · simp [hy]; omega
    · simp [hy]; omega
theorem numK_lt {S : Nat} (hS : S < 4294967296) {k : Nat} (hk : k < 32) : numK S k < 2147483648 := by
  rw [numK_div hS k (by omega)]
  have e : 32 - k = 31 - k + 1 := by omega
  rw [e, Nat.pow_succ, ← Nat.div_div_eq_div_mul]
  have := Nat.div_le_self S (2 ^ (31 - k))
  omega
theorem numK_all {S : Nat} (hS : S < 4294967296) : numK S 32 = S := by
  rw [numK_div hS 32 (by omega)]
  simp
theorem regB_mB (L : Nat → Int) (n : Nat) : regB 4294967295 (mB L n) (8 * n) = regB 4294967295 (bitU L) (8 * n) := regB_congr fun j hj => by simp [mB, hj]
/-- The last 32 bits are the sum's, turned. -/
theorem dvB_sum (L : Nat → Int) (n k : Nat) (hk : k < 32) : dvB (mB L n) (8 * n) (8 * n + k) = !(sumN L n).testBit (31 - k) := by
  rw [(dvB_win (mB L n) (8 * n)).1 k hk, regB_mB, sumN_xor, Nat.testBit_xor]
  have h1 : (4294967295 : Nat).testBit (31 - k) = true := by
    have := Nat.testBit_two_pow_sub_one 32 (31 - k)
    simp only [show (2 : Nat) ^ 32 - 1 = 4294967295 by decide] at this
    rw [this]
    simp
    omega
  have h2 : mB L n (8 * n + k) = false := by simp [mB]; omega
  rw [h1, h2]
  simp
theorem bitU8 (z j : Nat) (hz : z < 256) : (bits .and .u8 ((z : Int) / 2 ^ j) 1 == 1) = z.testBit j := by
  have e : ((z : Int) / 2 ^ j) = ((z / 2 ^ j : Nat) : Int) := by simp
  rw [e]
  have hz2 : z / 2 ^ j < 256 := Nat.lt_of_le_of_lt (Nat.div_le_self _ _) hz
  have e2 : (1 : Int) = ((1 : Nat) : Int) := rfl
  conv => lhs; lhs; rw [e2]
  rw [u8_and_nat _ 1 hz2 (by decide), Nat.and_one_is_mod, Nat.testBit_eq_decide_div_mod_eq]
  generalize z / 2 ^ j % 2 = y
  simp only [Bool.beq_eq_decide_eq, decide_eq_decide]
  omega
def bools (T : Nat → Bool) (n : Nat) : List Value := (List.range n).map fun j => .bool (T j)
theorem bools_succ (T : Nat → Bool) (n : Nat) : bools T (n + 1) = bools T n ++ [.bool (T n)] := by simp [bools, List.range_succ]
theorem bools_get {T : Nat → Bool} {n j : Nat} (h : j < n) : (bools T n)[j]? = some (.bool (T j)) := by simp [bools, h]
theorem bools_congr {T T' : Nat → Bool} {n : Nat} (h : ∀ j, j < n → T j = T' j) : bools T n = bools T' n := by
  simp only [bools]
  exact List.map_congr_left fun i hi => by rw [h i (by simpa using hi)]
theorem bools_own {E : TypeId} {B : Nat} {w : World} {v : Value} {n : Nat} {T : Nat → Bool} (h : w.ownsRow B E 1 v n (bools T n)) (hn : 0 < n) :
    ∃ g c cur, v = .slice (some ⟨g, 0, none⟩) n c ∧ n ≤ c ∧ c ≤ 9223372036854775807 ∧ B ≤ g ∧ Blk w g cur E ∧ ∀ j, j < n → cur[j]? = some (.bool (T j)) := by
  rcases h.2 with ⟨_, h0⟩ | ⟨g, cap, cur, rfl, h2, h3, h4, h5, h6, h7⟩
  · omega
  · refine ⟨g, cap, cur, rfl, h4, by unfold maxLen at h5; omega, h2, h3, fun j hj => ?_⟩
    have h1 := bools_get (T := T) hj
    rw [← h7, List.getElem?_take] at h1
    split at h1
    · simpa using h1
    · simp at h1
end Go.Proofs.Ytmdohnbhogfopaa
/- The document's sums: Of: the walk. -/
namespace Go.Proofs.Ytmdohnbhogfopaa
open Go.RowKit
set_option linter.unusedSimpArgs false
set_option linter.unusedVariables false
set_option maxRecDepth 100000
theorem elemBoolS : (Try.prog.info? 4).map (fun i => (i.zero, i.size, i.bytes)) = some (some (.bool false), 1, 1) := by kernel_rfl
def powC : Array Value := #[.int .i64 26, .int .i64 23, .int .i64 22, .int .i64 16, .int .i64 12, .int .i64 11, .int .i64 10, .int .i64 8, .int .i64 7, .int .i64 5, .int .i64 4, .int .i64 2, .int .i64 1, .int .i64 0]
theorem powC_at : ∀ k, k < 14 → powC[k]? = some (.int .i64 (powN k)) := by
  intro k hk
  rcases show k = 0 ∨ k = 1 ∨ k = 2 ∨ k = 3 ∨ k = 4 ∨ k = 5 ∨ k = 6 ∨ k = 7 ∨ k = 8 ∨ k = 9 ∨ k = 10 ∨ k = 11 ∨ k = 12 ∨ k = 13 by omega with rfl | rfl | rfl | rfl | rfl | rfl | rfl | rfl | rfl | rfl | rfl | rfl | rfl | rfl <;> rfl
def InvRa (w : World) (ao : Option Addr) (n c : Nat) (L : Nat → Int) (gp : Nat) (k : Nat) (a : Act) (wr : World) : Prop :=
  ∃ (i : Nat) (v : Value), i + k = n ∧ Below w.heap.size w wr ∧ Blk wr gp powC 227 ∧ wr.ownsRow (gp + 1) 4 1 v (8 * i) (bools (bitU L) (8 * i)) ∧
    a.tmps.size = 107 ∧ a.defers = [] ∧ slot a 0 = .slice ao n c ∧ slot a 3 = .pointer (some ⟨gp, 0, none⟩) ∧ slot a 4 = v ∧ slot a 5 = .int .i64 i
def InvRb (w : World) (ao : Option Addr) (n c : Nat) (L : Nat → Int) (gp : Nat) (i : Nat) (k : Nat) (a : Act) (wr : World) : Prop :=
  ∃ (e : Nat) (v : Value), e + k = 8 ∧ Below w.heap.size w wr ∧ Blk wr gp powC 227 ∧ wr.ownsRow (gp + 1) 4 1 v (8 * i + e) (bools (bitU L) (8 * i + e)) ∧
    a.tmps.size = 107 ∧ a.defers = [] ∧ slot a 0 = .slice ao n c ∧ slot a 3 = .pointer (some ⟨gp, 0, none⟩) ∧ slot a 4 = v ∧ slot a 5 = .int .i64 i ∧ slot a 6 = .int .i64 (7 - e)
def InvRc (w : World) (n : Nat) (L : Nat → Int) (gp : Nat) (k : Nat) (a : Act) (wr : World) : Prop :=
  ∃ (i : Nat) (v : Value), i + k = 32 ∧ Below w.heap.size w wr ∧ Blk wr gp powC 227 ∧ wr.ownsRow (gp + 1) 4 1 v (8 * n + i) (bools (mB L n) (8 * n + i)) ∧
    a.tmps.size = 107 ∧ a.defers = [] ∧ slot a 3 = .pointer (some ⟨gp, 0, none⟩) ∧ slot a 4 = v ∧ slot a 7 = .int .i64 i
/-- The list of bits: T at each of its N places. -/
def Bits (w wr : World) (gp g N : Nat) (T : Nat → Bool) : Prop :=
  Below w.heap.size w wr ∧ Blk wr gp powC 227 ∧ gp < g ∧ w.heap.size ≤ gp ∧ ∃ cur, Blk wr g cur 4 ∧ ∀ j, j < N → cur[j]? = some (.bool (T j))
theorem Bits.congr {w wr : World} {gp g N : Nat} {T T' : Nat → Bool} (h : Bits w wr gp g N T) (e : ∀ j, j < N → T j = T' j) : Bits w wr gp g N T' := by
  obtain ⟨h1, h2, h3, h4, cur, h5, h6⟩ := h
  exact ⟨h1, h2, h3, h4, cur, h5, fun j hj => by rw [← e j hj]; exact h6 j hj⟩
theorem Bits.at {w wr : World} {gp g N : Nat} {T : Nat → Bool} (h : Bits w wr gp g N T) {j : Nat} (hj : j < N) : wr.cell? ⟨g, j, none⟩ = some (.bool (T j)) ∧ wr.frozen? ⟨g, j, none⟩ = false := by
  obtain ⟨h1, h2, h3, h4, cur, h5, h6⟩ := h
  exact ⟨h5.cell (h6 j hj), h5.free j⟩
theorem Bits.pow {w wr : World} {gp g N : Nat} {T : Nat → Bool} (h : Bits w wr gp g N T) {k : Nat} (hk : k < 14) : wr.cell? ⟨gp, k, none⟩ = some (.int .i64 (powN k)) := h.2.1.cell (powC_at k hk)
theorem Bits.set {w wr : World} {gp g N : Nat} {T : Nat → Bool} (h : Bits w wr gp g N T) {j : Nat} (hj : j < N) (b : Bool) (T' : Nat → Bool) (e : ∀ i, i < N → T' i = if i = j then b else T i) : Bits w (wr.setCell ⟨g, j, none⟩ (.bool b)) gp g N T' := by
  obtain ⟨h1, h2, h3, h4, cur, h5, h6⟩ := h
  have hsz : j < cur.size := (Array.getElem?_eq_some_iff.1 (h6 j hj)).1
  refine ⟨h1.setCell (by show w.heap.size ≤ g; omega) _, h2.setNe (by show gp ≠ g; omega) _, h3, h4, _, h5.set j _, fun i hi => ?_⟩
  rw [Array.getElem?_setIfInBounds, e i hi]
  by_cases hij : j = i
  · subst hij
    rw [if_pos rfl, if_pos hsz, if_pos rfl]
  · rw [if_neg hij, if_neg (fun e => hij e.symm)]
    exact h6 i hi
def InvRd (w : World) (gp g N c : Nat) (m : Nat → Bool) (k : Nat) (a : Act) (wr : World) : Prop :=
  ∃ i : Nat, i + k = 32 ∧ Bits w wr gp g N (fun j => decide (j < i) ^^ m j) ∧ a.tmps.size = 107 ∧ a.defers = [] ∧ slot a 3 = .pointer (some ⟨gp, 0, none⟩) ∧ slot a 4 = .slice (some ⟨g, 0, none⟩) N c ∧ slot a 8 = .int .i64 i
def InvRe (w : World) (gp g n N c : Nat) (m : Nat → Bool) (k : Nat) (a : Act) (wr : World) : Prop :=
  ∃ i : Nat, i + k = 8 * n ∧ Bits w wr gp g N (dvB m i) ∧ a.tmps.size = 107 ∧ a.defers = [] ∧ slot a 3 = .pointer (some ⟨gp, 0, none⟩) ∧ slot a 4 = .slice (some ⟨g, 0, none⟩) N c ∧ slot a 9 = .int .i64 i
def InvRf (w : World) (gp g N c : Nat) (m : Nat → Bool) (i : Nat) (k : Nat) (a : Act) (wr : World) : Prop :=
  ∃ t : Nat, t + k = 14 ∧ Bits w wr gp g N (fun j => dvB m i j ^^ flA i t j) ∧ a.tmps.size = 107 ∧ a.defers = [] ∧ slot a 3 = .pointer (some ⟨gp, 0, none⟩) ∧ slot a 4 = .slice (some ⟨g, 0, none⟩) N c ∧ slot a 9 = .int .i64 i ∧ slot a 10 = .int .i64 t
def InvRg (w : World) (gp g y N c : Nat) (T : Nat → Bool) (S : Nat) (k : Nat) (a : Act) (wr : World) : Prop :=
  ∃ i x : Nat, i + k = 32 ∧ x = y + i ∧ Bits w wr gp g N T ∧ a.tmps.size = 107 ∧ a.defers = [] ∧ slot a 4 = .slice (some ⟨g, 0, none⟩) N c ∧ slot a 12 = .int .u32 (numK S i : Nat) ∧ slot a 13 = .int .i64 x
set_option maxHeartbeats 8000000 in
theorem refSum (w : World) (ao : Option Addr) (n c : Nat) (L : Nat → Int) (ha : Rd .u8 w ao n L) (hL : ∀ i, i < n → 0 ≤ L i ∧ L i < 256) (hn : n ≤ 100000) :
    Calls Try.prog 123 #[.slice ao n c] w fun e w' => e = .returned (.int .u32 (sumN L n : Nat)) ∧ Below w.heap.size w w' := by
  obtain ⟨i0, hi0, hz0, hz1, hz2⟩ := info_parts elemBoolS
  replace ha := Lib.hid ha
  replace hL := Lib.hid hL
  go_enter Try.func123, Try.ntmps123
  go_wp2
  refine wp_loop_k (InvRa w ao n c L w.heap.size) n ?_ ?_
  · exact ⟨0, _, by omega, below_alloc _ _, Blk.new _ _ _, World.ownsRow_nil _ _ _ _, by kernel_rfl, rfl, by kernel_rfl, by kernel_rfl, by kernel_rfl, by kernel_rfl⟩
  · generalize hgg : w.heap.size = gp
    intro gk a wr hI K1 hK1
    obtain ⟨i, v, hi, hb, hP, hown, hs', hd', k0', k3', k4', k5'⟩ := hI
    rw [fr107 a hs' hd']; simp only [k0', k3', k4', k5']; clear hs' hd' k0' k3' k4' k5'
    have hb' := Lib.hid hb
    have hP' := Lib.hid hP
    have hown' := Lib.hid hown
    have hgl := hP.lt
    clear hb hP hown
    by_cases hlt : i < n
    · have g1 : decide ((i : Int) < (n : Int)) = true := by simp; omega
      have ui : IntKind.i64.wrap ((i : Int) + 1) = ((i + 1 : Nat) : Int) := wrap_i64_small _ (by omega) (by omega)
      go_wp2
      refine wp_loop_k (InvRb w ao n c L gp i) 8 ?_ ?_
      · exact ⟨0, v, by omega, hb'.out, hP'.out, hown'.out, by kernel_rfl, rfl, by kernel_rfl, by kernel_rfl, by kernel_rfl, by kernel_rfl, by kernel_rfl⟩
      · clear hb' hP' hown' hgl g1
        clear v wr
        intro gk2 a wr hI K2 hK2
        obtain ⟨e, v, he, hb, hP, hown, hs', hd', k0', k3', k4', k5', k6'⟩ := hI
        rw [fr107 a hs' hd']; simp only [k0', k3', k4', k5', k6']; clear hs' hd' k0' k3' k4' k5' k6'
        have hgl := hP.lt
        have hb' := Lib.hid hb
        have hP' := Lib.hid hP
        have hown' := Lib.hid hown
        clear hb hP hown
        by_cases hle : e < 8
        · obtain ⟨s, hs⟩ : ∃ s : Nat, s + e = 7 := ⟨7 - e, by omega⟩
          have es : (7 : Int) - (e : Int) = (s : Int) := by omega
          have g2 : decide ((0 : Int) ≤ (s : Int)) = true := by simp
          have hx := hL.out i hlt
          have hrB := (ha.out.below hb'.out (Nat.le_refl _)) i hlt
          obtain ⟨b2, o2, hpa, hc2⟩ := hrB
          obtain ⟨z, hz⟩ : ∃ z : Nat, L i = z := ⟨(L i).toNat, by omega⟩
          rw [hz] at hc2 hx
          have hbit := bitU8 z s (by omega)
          have hU : Hid (z.testBit s = bitU L (8 * i + e)) := by
            show z.testBit s = bitU L (8 * i + e)
            have q1 : (8 * i + e) / 8 = i := by omega
            have q2 : 7 - (8 * i + e) % 8 = s := by omega
            rw [bitU, q1, q2, hz]
            rfl
          have us : IntKind.i64.wrap ((s : Int) - 1) = (s : Int) - 1 := wrap_i64_small _ (by omega) (by omega)
          have hs' := Lib.hid hs
          have hown2 : Hid (wr.ownsRow (gp + 1) 4 1 v (8 * i + e) (bools (bitU L) (8 * i + e))) := hown'
          have hi8 : 8 * i + e ≤ 1000000 := by omega
          rw [es]
          subst hpa
          clear hz hx es hown'
          go_wp2_with (at_builtin; refine append_one rfl _ _ 228 rfl (gp + 1) 4 i0 (.bool false) 1 Try.underlying228 hi0 hz0 hz1 hz2 rfl _ _ _ rfl hown2.out _ rfl rfl (by omega) (by omega) hgl ?_)
          intro g1 c1 w3 hown3 hg3 hb3
          rw [hU.out, ← bools_succ] at hown3
          have hb4 := Lib.hid (hb'.out.trans (hb3.mono (by have := hb'.out.size; omega)))
          have hP4 := Lib.hid (hP'.out.below hb3 (Nat.lt_succ_self _))
          have hown4 := Lib.hid hown3
          clear hown3 hg3 hb3 hb' hP' hown2 hc2
          go_wp2
          exact hK2 (8 - (e + 1)) _ _ (by omega) ⟨e + 1, _, by omega, hb4.out, hP4.out, hown4.out, by kernel_rfl, rfl, by kernel_rfl, by kernel_rfl, by kernel_rfl, by kernel_rfl, by show Value.int _ _ = Value.int _ _; congr 1; have := hs'.out; omega⟩
        · obtain rfl : e = 8 := by omega
          have g2 : decide ((0 : Int) ≤ 7 - ((8 : Nat) : Int)) = false := by decide
          go_wp2
          exact hK1 (n - (i + 1)) _ _ (by omega) ⟨i + 1, _, by omega, hb'.out, hP'.out, hown'.out, by kernel_rfl, rfl, by kernel_rfl, by kernel_rfl, by kernel_rfl, by kernel_rfl⟩
    · obtain rfl : n = i := by omega
      have g1 : decide ((n : Int) < (n : Int)) = false := by simp
      have e1 : bools (bitU L) (8 * n) = bools (mB L n) (8 * n) := bools_congr fun j hj => by simp [mB, hj]
      have hown2 := hown'.out
      rw [e1] at hown2
      replace hown2 := Lib.hid hown2
      clear hown' e1 hK1 hi
      go_wp2
      refine wp_loop_k (InvRc w n L gp) 32 ?_ ?_
      · exact ⟨0, v, by omega, hb'.out, hP'.out, hown2.out, by kernel_rfl, rfl, by kernel_rfl, by kernel_rfl, by kernel_rfl⟩
      · clear hb' hP' hown2 hgl g1 hlt
        clear v wr
        intro gk2 a wr hI K2 hK2
        obtain ⟨i, v, hi, hb, hP, hown, hs', hd', k3', k4', k7'⟩ := hI
        rw [fr107 a hs' hd']; simp only [k3', k4', k7']; clear hs' hd' k3' k4' k7'
        have hgl := hP.lt
        have hb' := Lib.hid hb
        have hP' := Lib.hid hP
        have hown' := Lib.hid hown
        clear hb hP hown
        by_cases hlt : i < 32
        · have g1 : decide ((i : Int) < 32) = true := by simp; omega
          have ui : IntKind.i64.wrap ((i : Int) + 1) = ((i + 1 : Nat) : Int) := wrap_i64_small _ (by omega) (by omega)
          go_wp2_with (at_builtin; refine append_one rfl _ _ 228 rfl (gp + 1) 4 i0 (.bool false) 1 Try.underlying228 hi0 hz0 hz1 hz2 rfl _ _ _ rfl hown'.out _ rfl rfl (by omega) (by omega) hgl ?_)
          intro g1 c1 w3 hown3 hg3 hb3
          have hm0 : (false : Bool) = mB L n (8 * n + i) := by simp [mB]; omega
          rw [hm0, ← bools_succ] at hown3
          have hb4 := Lib.hid (hb'.out.trans (hb3.mono (by have := hb'.out.size; omega)))
          have hP4 := Lib.hid (hP'.out.below hb3 (Nat.lt_succ_self _))
          have hown4 := Lib.hid hown3
          clear hown3 hg3 hb3 hb' hP' hown' hm0
          go_wp2
          exact hK2 (32 - (i + 1)) _ _ (by omega) ⟨i + 1, _, by omega, hb4.out, hP4.out, hown4.out, by kernel_rfl, rfl, by kernel_rfl, by kernel_rfl, by kernel_rfl⟩
        · obtain rfl : i = 32 := by omega
          have g1 : decide (((32 : Nat) : Int) < 32) = false := by decide
          obtain ⟨g, cc, cur, rfl, hcc, hcm, hgp, hB, hcell⟩ := bools_own hown'.out (by omega)
          obtain ⟨N, hN⟩ : ∃ N, 8 * n + 32 = N := ⟨_, rfl⟩
          have hBits : Bits w wr gp g N (fun j => decide (j < 0) ^^ mB L n j) := ⟨hb'.out, hP'.out, by omega, by omega, cur, hB, fun j hj => by simpa using hcell j (by omega)⟩
          rw [hN]
          replace hBits := Lib.hid hBits
          have hsum := Lib.hid (dvB_sum L n)
          have hSlt := sumN_lt L n
          have hdv0 : Hid (∀ j, (decide (j < 32) ^^ mB L n j) = dvB (mB L n) 0 j) := fun j => rfl
          have hSS : Hid (sumN L n = sumN L n) := rfl
          generalize hSe : sumN L n = S at *
          replace hSS := Lib.hid hSe
          clear hSe
          generalize mB L n = m at *
          clear hb' hP' hown' hB hcell hgl hK2
          clear hL ha
          have hN32 : N = 8 * n + 32 := hN.symm
          clear hN
          go_wp2
          refine wp_loop_k (InvRd w gp g N cc m) 32 ?_ ?_
          · exact ⟨0, by omega, hBits.out, by kernel_rfl, rfl, by kernel_rfl, by kernel_rfl, by kernel_rfl⟩
          · clear hBits g1 hlt hi
            clear wr cur
            intro gk3 a wr hI K3 hK3
            obtain ⟨i, hi, hBt, hs', hd', k3', k4', k8'⟩ := hI
            rw [fr107 a hs' hd']; simp only [k3', k4', k8']; clear hs' hd' k3' k4' k8'
            have hBt' := Lib.hid hBt
            by_cases hlt : i < 32
            · have g1 : decide ((i : Int) < 32) = true := by simp; omega
              have ui : IntKind.i64.wrap ((i : Int) + 1) = ((i + 1 : Nat) : Int) := wrap_i64_small _ (by omega) (by omega)
              have hiN : i < N := by omega
              obtain ⟨c0, f0⟩ := hBt.at hiN
              have c0' : wr.cell? ⟨g, i, none⟩ = some (.bool (m i)) := by simpa using c0
              have hBt2 := Lib.hid (hBt.set hiN (!m i) (fun j => decide (j < i + 1) ^^ m j) (fun j hj => by
                by_cases hji : j = i
                · subst hji
                  simp
                · have e : decide (j < i + 1) = decide (j < i) := by simp; omega
                  rw [if_neg hji, e]))
              clear hBt hBt' c0
              go_wp2
              exact hK3 (32 - (i + 1)) _ _ (by omega) ⟨i + 1, by omega, hBt2.out, by kernel_rfl, rfl, by kernel_rfl, by kernel_rfl, by kernel_rfl⟩
            · obtain rfl : i = 32 := by omega
              have g1 : decide (((32 : Nat) : Int) < 32) = false := by decide
              have hBt2 := Lib.hid (hBt.congr (fun j _ => hdv0.out j))
              clear hBt hBt' hdv0
              go_wp2
              refine wp_loop_k (InvRe w gp g n N cc m) (8 * n) ?_ ?_
              · exact ⟨0, by omega, hBt2.out, by kernel_rfl, rfl, by kernel_rfl, by kernel_rfl, by kernel_rfl⟩
              · clear hBt2 g1 hlt hi hK3
                clear wr
                intro gk4 a wr hI K4 hK4
                obtain ⟨i, hi, hBt, hs', hd', k3', k4', k9'⟩ := hI
                rw [fr107 a hs' hd']; simp only [k3', k4', k9']; clear hs' hd' k3' k4' k9'
                have hBt' := Lib.hid hBt
                have ui32 : IntKind.i64.wrap ((i : Int) + 32) = (i : Int) + 32 := wrap_i64_small _ (by omega) (by omega)
                by_cases hlt : i < 8 * n
                · have g1 : decide ((i : Int) + 32 < (N : Int)) = true := by simp; omega
                  have ui : IntKind.i64.wrap ((i : Int) + 1) = ((i + 1 : Nat) : Int) := wrap_i64_small _ (by omega) (by omega)
                  have hiN : i < N := by omega
                  obtain ⟨c0, f0⟩ := hBt.at hiN
                  cases hd : dvB m i i with
                  | false =>
                    rw [hd] at c0
                    have hBt2 := Lib.hid (hBt.congr (T' := dvB m (i + 1)) (fun j _ => by simp [dvB, hd]))
                    clear hBt hBt' hd
                    go_wp2
                    exact hK4 (8 * n - (i + 1)) _ _ (by omega) ⟨i + 1, by omega, hBt2.out, by kernel_rfl, rfl, by kernel_rfl, by kernel_rfl, by kernel_rfl⟩
                  | true =>
                    rw [hd] at c0
                    have hBt2 := Lib.hid (hBt.set hiN false (fun j => dvB m i j ^^ flA i 0 j) (fun j hj => by
                      by_cases hji : j = i
                      · subst hji
                        simp [flA, hd]
                      · simp [flA, hji]))
                    have hend := Lib.hid (show ∀ j, (dvB m i j ^^ flA i 14 j) = dvB m (i + 1) j from fun j => by simp [dvB, hd])
                    clear hBt hBt' hd
                    go_wp2
                    refine wp_loop_k (InvRf w gp g N cc m i) 14 ?_ ?_
                    · exact ⟨0, by omega, hBt2.out, by kernel_rfl, rfl, by kernel_rfl, by kernel_rfl, by kernel_rfl, by kernel_rfl⟩
                    · clear hBt2 g1 c0 f0
                      clear wr
                      intro gk5 a wr hI K5 hK5
                      obtain ⟨t, ht, hBt, hs', hd', k3', k4', k9', k10'⟩ := hI
                      rw [fr107 a hs' hd']; simp only [k3', k4', k9', k10']; clear hs' hd' k3' k4' k9' k10'
                      have hBt' := Lib.hid hBt
                      by_cases hlt2 : t < 14
                      · have g1 : decide ((t : Int) < 14) = true := by simp; omega
                        have ut : IntKind.i64.wrap ((t : Int) + 1) = ((t + 1 : Nat) : Int) := wrap_i64_small _ (by omega) (by omega)
                        have cp := hBt.pow hlt2
                        have hp := powN_le t hlt2
                        have hfl : ∀ j, flA i (t + 1) j = (flA i t j ^^ decide (j = i + 32 - powN t)) := fun j => rfl
                        generalize powN t = p at *
                        obtain ⟨A, hA⟩ : ∃ A : Nat, A = i + 32 - p := ⟨_, rfl⟩
                        have uA : IntKind.i64.wrap ((i : Int) + 32 - (p : Int)) = (A : Int) := by rw [wrap_i64_small _ (by omega) (by omega)]; omega
                        have hAN : A < N := by omega
                        obtain ⟨c1, f1⟩ := hBt.at hAN
                        have hBt2 := Lib.hid (hBt.set hAN (!(dvB m i A ^^ flA i t A)) (fun j => dvB m i j ^^ flA i (t + 1) j) (fun j hj => by
                          rw [hfl, ← hA]
                          by_cases hji : j = A
                          · subst hji
                            simp
                          · simp [hji]))
                        generalize hq : (dvB m i A ^^ flA i t A) = q at *
                        have c1' : wr.cell? ⟨g, A, none⟩ = some (.bool q) := c1
                        clear hBt hBt' c1 hfl hq hA
                        go_wp2
                        exact hK5 (14 - (t + 1)) _ _ (by omega) ⟨t + 1, by omega, hBt2.out, by kernel_rfl, rfl, by kernel_rfl, by kernel_rfl, by kernel_rfl, by kernel_rfl⟩
                      · obtain rfl : t = 14 := by omega
                        have g1 : decide (((14 : Nat) : Int) < 14) = false := by decide
                        have hBt2 := Lib.hid (hBt.congr (fun j _ => hend.out j))
                        clear hBt hBt'
                        go_wp2
                        exact hK4 (8 * n - (i + 1)) _ _ (by omega) ⟨i + 1, by omega, hBt2.out, by kernel_rfl, rfl, by kernel_rfl, by kernel_rfl, by kernel_rfl⟩
                · have hin : i = 8 * n := by omega
                  have g1 : decide ((i : Int) + 32 < (N : Int)) = false := by simp; omega
                  have uN : IntKind.i64.wrap ((N : Int) - 32) = (i : Int) := by rw [wrap_i64_small _ (by omega) (by omega)]; omega
                  have hsum' := Lib.hid (show ∀ k, k < 32 → dvB m i (i + k) = !S.testBit (31 - k) from fun k hk => by rw [hin]; exact hsum.out k hk)
                  have hNy := Lib.hid (show N = i + 32 by omega)
                  have hNb : N ≤ 1000000 := by omega
                  clear hBt hK4 hi hlt hin hN32
                  generalize hyy : i = y at *
                  clear hyy
                  go_wp2
                  refine wp_loop_k (InvRg w gp g y N cc (dvB m y) S) 32 ?_ ?_
                  · exact ⟨0, y, by omega, by omega, hBt'.out, by kernel_rfl, rfl, by kernel_rfl, by kernel_rfl, by kernel_rfl⟩
                  · clear hBt' g1 ui32
                    clear wr
                    intro gk5 a wr hI K5 hK5
                    obtain ⟨i, x, hi, hx, hBt, hs', hd', k4', k12', k13'⟩ := hI
                    rw [fr107 a hs' hd']; simp only [k4', k12', k13']; clear hs' hd' k4' k12' k13'
                    by_cases hlt : i < 32
                    · have g1 : decide ((x : Int) < (N : Int)) = true := by have := hNy.out; simp; omega
                      have ux : IntKind.i64.wrap ((x : Int) + 1) = ((x + 1 : Nat) : Int) := wrap_i64_small _ (by omega) (by have := hNy.out; omega)
                      have hxN : x < N := by have := hNy.out; omega
                      obtain ⟨c0, f0⟩ := hBt.at hxN
                      have hv := hsum'.out i hlt
                      rw [show y + i = x by omega] at hv
                      rw [hv] at c0
                      have hnk := numK_lt hSlt hlt
                      have hns : Hid (numK S (i + 1) = 2 * numK S i + (if S.testBit (31 - i) then 1 else 0)) := rfl
                      generalize numK S i = nk at *
                      have un : IntKind.u32.wrap (2 * (nk : Int)) = ((2 * nk : Nat) : Int) := by rw [IntKind.wrap_u32]; omega
                      have un1 : IntKind.u32.wrap (((2 * nk : Nat) : Int) + 1) = ((2 * nk + 1 : Nat) : Int) := by rw [IntKind.wrap_u32]; omega
                      generalize 2 * nk = nk2 at *
                      have hBt' := Lib.hid hBt
                      have hx' := Lib.hid hx
                      clear hBt hv hx
                      cases hs : S.testBit (31 - i) with
                      | false =>
                        rw [hs] at c0 hns
                        have hns2 := Lib.hid (show numK S (i + 1) = nk2 by rw [hns.out]; simp)
                        clear hs hns
                        go_wp2
                        refine hK5 (32 - (i + 1)) _ _ (by omega) ⟨i + 1, x + 1, by omega, by have := hx'.out; omega, hBt'.out, by kernel_rfl, rfl, by kernel_rfl, ?_, by kernel_rfl⟩
                        show Value.int _ _ = Value.int _ _
                        rw [hns2.out]
                      | true =>
                        rw [hs] at c0 hns
                        have hns2 := Lib.hid (show numK S (i + 1) = nk2 + 1 by rw [hns.out]; simp)
                        clear hs hns
                        go_wp2
                        refine hK5 (32 - (i + 1)) _ _ (by omega) ⟨i + 1, x + 1, by omega, by have := hx'.out; omega, hBt'.out, by kernel_rfl, rfl, by kernel_rfl, ?_, by kernel_rfl⟩
                        show Value.int _ _ = Value.int _ _
                        rw [hns2.out]
                        simp
                    · obtain rfl : i = 32 := by omega
                      have g1 : decide ((x : Int) < (N : Int)) = false := by have := hNy.out; simp; omega
                      have g2 : ¬x < N := by have := hNy.out; omega
                      have hbel := hBt.1
                      clear hBt hx
                      go_wp2
                      go_ret
                      exact ⟨by rw [hSS.out]; exact congrArg (fun z : Nat => Ending.returned (.int .u32 (z : Int))) (numK_all hSlt), hgg ▸ hbel⟩
end Go.Proofs.Ytmdohnbhogfopaa
/- The document's sums: Put, Check. -/
namespace Go.Proofs.Ytmdohnbhogfopaa
open Go.RowKit
set_option linter.unusedSimpArgs false
set_option linter.unusedVariables false
set_option maxRecDepth 100000
def InvRPut (w : World) (n : Nat) (L : Nat → Int) (S : Nat) (k : Nat) (a : Act) (wr : World) : Prop :=
  ∃ (e : Nat) (v : Value), e + k = 4 ∧ Below w.heap.size w wr ∧ wr.ownsRow w.heap.size 5 1 v (n + e) (nums .u8 (putS L n) (n + e)) ∧ a.tmps.size = 23 ∧ a.defers = [] ∧ slot a 3 = .int .u32 S ∧ slot a 4 = v ∧ slot a 5 = .int .i64 (3 - e)
set_option maxHeartbeats 2000000 in
theorem refPut (w : World) (ao : Option Addr) (n c : Nat) (L : Nat → Int) (ha : Rd .u8 w ao n L) (hnil : NilOk ao n c) (hL : ∀ i, i < n → 0 ≤ L i ∧ L i < 256) (hn : n ≤ 100000) :
    Calls Try.prog 89 #[.slice ao n c] w fun e w' => ∃ a cc, e = .returned (.slice a (n + 4) cc) ∧ n + 4 ≤ cc ∧ cc ≤ 9223372036854775807 ∧ Mine .u8 5 w.heap.size w' a (n + 4) (putS L n) ∧ Below w.heap.size w w' := by
  obtain ⟨i0, hi0, hz0, hz1, hz2⟩ := info_parts elemHBytes
  replace ha := Lib.hid ha
  replace hL := Lib.hid hL
  replace hnil := Lib.hid hnil
  go_enter Try.func89, Try.ntmps89
  go_wp2_with fail
  refine (refSum w ao n c L ha.out hL.out hn).mono ?_
  rintro e w1 ⟨rfl, hb⟩
  have hsn := sumN_lt L n
  have hSS : Hid (∀ i, i < 4 → putS L n (n + i) = tailB (sumN L n) i) := fun i hi => by rw [putS, if_neg (by omega)]; congr 1; omega
  generalize sumN L n = S at *
  obtain ⟨k0, k1, k2, k3⟩ := tail_u8 S hsn
  have hb' := Lib.hid hb
  have hr1 := Lib.hid (ha.out.below hb (Nat.le_refl _))
  clear hb
  go_wp2_with (at_builtin; refine append_src rfl _ _ 22 rfl w.heap.size 5 i0 (.int .u8 0) 1 Try.underlying22 hi0 hz0 hz1 hz2 rfl _ _ _ rfl (World.ownsRow_nil _ _ _ _) ao n c (nums .u8 L n) rfl hnil.out.2.2 (nums_len _ _ _) (nums_news hr1.out) (nums_one _ _ _) (by omega) (by omega) hb'.out.size ?_)
  intro v2 w2 hown2 hg2 _
  have hb2 := Lib.hid (hb'.out.trans (Below.grown (Below.refl _ _) hg2 hb'.out.size (by simp [Value.ownBlock])))
  try simp only [Nat.zero_add, List.nil_append] at hown2
  rw [nums_congr (L' := putS L n) (fun i hi => by simp [putS, hi])] at hown2
  have hown3 := Lib.hid hown2
  clear hown2 hg2 hb' hr1
  go_wp2
  refine wp_loop_k (InvRPut w n L S) 4 ?_ ?_
  · exact ⟨0, v2, by omega, hb2.out, hown3.out, by kernel_rfl, rfl, by kernel_rfl, by kernel_rfl, by kernel_rfl⟩
  · clear hown3 hb2
    skip
    intro gk a wr hI K1 hK1
    obtain ⟨e, v, he, hb, hown, hs', hd', k3', k4', k5'⟩ := hI
    rw [fr23 a hs' hd']; simp only [k3', k4', k5']; clear hs' hd' k3' k4' k5'
    have hb' := Lib.hid hb
    have hown' := Lib.hid hown
    clear hb hown
    by_cases hle : e < 4
    · have hrow : Hid (putS L n (n + e) = tailB S e) := hSS.out e hle
      obtain ⟨s, hs⟩ : ∃ s : Int, s = 3 - (e : Int) := ⟨_, rfl⟩
      rw [← hs]
      have hcase : (e = 0 ∧ s = 3) ∨ (e = 1 ∧ s = 2) ∨ (e = 2 ∧ s = 1) ∨ (e = 3 ∧ s = 0) := by omega
      clear hs
      rcases hcase with ⟨rfl, rfl⟩ | ⟨rfl, rfl⟩ | ⟨rfl, rfl⟩ | ⟨rfl, rfl⟩
      all_goals
        try simp only [Nat.add_zero] at hrow
        go_wp2_with (at_builtin; refine append_one rfl _ _ 22 rfl w.heap.size 5 i0 (.int .u8 0) 1 Try.underlying22 hi0 hz0 hz1 hz2 rfl _ _ _ rfl hown'.out _ rfl rfl (by omega) (by omega) hb'.out.size ?_)
        intro g1 c1 w3 hown3 hg3 hb3
        rw [← hrow.out, ← nums_succ] at hown3
        have hb4 := Lib.hid (hb'.out.trans hb3)
        have hown4 := Lib.hid hown3
        clear hown3 hg3 hb3 hb' hown'
        go_wp2
        first
          | exact hK1 (gk - 1) _ _ (by omega) ⟨1, _, by omega, hb4.out, hown4.out, by kernel_rfl, rfl, by kernel_rfl, by kernel_rfl, by kernel_rfl⟩
          | exact hK1 (gk - 1) _ _ (by omega) ⟨2, _, by omega, hb4.out, hown4.out, by kernel_rfl, rfl, by kernel_rfl, by kernel_rfl, by kernel_rfl⟩
          | exact hK1 (gk - 1) _ _ (by omega) ⟨3, _, by omega, hb4.out, hown4.out, by kernel_rfl, rfl, by kernel_rfl, by kernel_rfl, by kernel_rfl⟩
          | exact hK1 (gk - 1) _ _ (by omega) ⟨4, _, by omega, hb4.out, hown4.out, by kernel_rfl, rfl, by kernel_rfl, by kernel_rfl, by kernel_rfl⟩
    · obtain rfl : e = 4 := by omega
      have g1 : decide ((0 : Int) ≤ 3 - ((4 : Nat) : Int)) = false := by decide
      obtain ⟨a4, c4, rfl, hc4, hcm4, hnil4, hm4⟩ := own_mine hown'.out
      have hm4' := Lib.hid hm4
      clear hm4 hown'
      go_wp2
      go_ret
      exact ⟨_, _, rfl, hc4, hcm4, hm4'.out, hb'.out⟩
theorem wpAnyH_mono {P : Program} {md : Region.Mode} {ops : Array Oper} {Q : Exit → Act → World → Prop} {S S' : World → Prop} (hS : ∀ W, S W → S' W) :
    ∀ {fuel : Nat} {listed : Array Bool} {a : Act} {w : World}, wpAnyH P md ops Q S fuel listed a w → wpAnyH P md ops Q S' fuel listed a w
  | 0, _, _, _, h => h
  | fuel + 1, _, _, _, h => ⟨h.1, fun i hi => wpOp_mono (fun _ _ h' => ⟨hS _ h'.1, wpAnyH_mono hS h'.2⟩) (h.2 i hi)⟩
set_option maxHeartbeats 2000000 in
theorem refCheck_long (w : World) (ao : Option Addr) (n c : Nat) (L : Nat → Int) (ha : Rd .u8 w ao n L) (hnil : NilOk ao n c) (hL : ∀ i, i < n → 0 ≤ L i ∧ L i < 256) (hn : n ≤ 100000) (h4 : 4 ≤ n) :
    Calls Try.prog 99 #[.slice ao n c] w fun e w' => ∃ a cc, e = .returned (.tuple #[.slice a (cntS L n) cc, .bool (okS L n)]) ∧ Rd .u8 w' a (cntS L n) L ∧ Below w.heap.size w w' := by
  replace ha := Lib.hid ha
  replace hL := Lib.hid hL
  have g1 : decide ((n : Int) < 4) = false := by simp; omega
  obtain ⟨m, rfl⟩ : ∃ m, n = m + 4 := ⟨n - 4, by omega⟩
  have u1 : IntKind.i64.wrap (((m + 4 : Nat) : Int) - 4) = (m : Int) := by rw [wrap_i64_small _ (by omega) (by omega)]; omega
  have hmc : m ≤ c := by have := hnil.1; omega
  have hmm : (m : Int) ≤ (c : Int) := by omega
  have hcx := hnil.2.1
  have hm9 : m ≤ 100000 := by omega
  obtain ⟨b, o, rfl, hc0⟩ := ha.out 0 (by omega)
  have hok : Hid (okS L (m + 4) = alikeB (putS L m) L (m + 4)) := by show okS L (m + 4) = _; simp [okS]
  have hcn : Hid (cntS L (m + 4) = if alikeB (putS L m) L (m + 4) then m else 0) := by show cntS L (m + 4) = _; rw [cntS, hok.out]; simp
  have ham := Lib.hid (show Rd .u8 w (some ⟨b, o, none⟩) m L from fun i hi => ha.out i (by omega))
  have P1 := Lib.hid (fun W (h : Rd .u8 W (some ⟨b, o, none⟩) m L) => refPut W (some ⟨b, o, none⟩) m c L h ⟨hmc, hcx, fun e => by simp at e⟩ (fun i hi => hL.out i (by omega)) hm9)
  have hpL : ∀ i, i < m + 4 → 0 ≤ putS L m i ∧ putS L m i < 256 := fun i hi => by
    unfold putS
    split
    · exact hL.out i (by omega)
    · unfold tailB
      omega
  have hse := bytesStr_eq hpL (hL.out)
  have hse2 : Hid (((bytesStr (putS L m) (m + 4)).toList == (bytesStr L (m + 4)).toList) = alikeB (putS L m) L (m + 4)) := by
    show ((bytesStr (putS L m) (m + 4)).toList == (bytesStr L (m + 4)).toList) = _
    cases hal : alikeB (putS L m) L (m + 4) with
    | true =>
      rw [hse.2 (by simp [hal])]
      simp
    | false =>
      rw [beq_eq_false_iff_ne]
      intro e
      have h2 : bytesStr (putS L m) (m + 4) = bytesStr L (m + 4) := by
        rw [ByteArray.toList_eq, ByteArray.toList_eq] at e
        exact ByteArray.ext (Array.toList_inj.1 e)
      have := hse.1 h2
      simp [hal] at this
  have hK4 : Hid (m + 4 = m + 4) := rfl
  rw [hok.out, hcn.out]
  clear hnil hc0 hse hpL hL
  generalize hK4' : m + 4 = n4 at *
  generalize alikeB (putS L m) L n4 = al at *
  generalize hS1 : bytesStr (putS L m) n4 = s1 at *
  generalize hS2 : bytesStr L n4 = s2 at *
  replace hS1 := Lib.hid hS1
  replace hS2 := Lib.hid hS2
  replace hK4' := Lib.hid hK4'
  have e2 : Hid (∀ W, Rd .u8 W (some ⟨b, o, none⟩) n4 L → (convert 22 9 (.slice (some ⟨b, o, none⟩) n4 c)).run Try.prog W = .ok (.string s2) W) := fun W h => by rw [← hS2.out]; exact run_bytesStr W _ n4 c L h
  have e1 : Hid (∀ W a cc, Rd .u8 W a n4 (putS L m) → (convert 22 9 (.slice a n4 cc)).run Try.prog W = .ok (.string s1) W) := fun W a cc h => by rw [← hS1.out]; exact run_bytesStr W _ n4 cc _ h
  have hne := hse2.out
  have q0 := e2.out w.drew (ha.out.drew)
  have q00 := ha.out.drew
  have hmr := ham.out.drew
  go_enter Try.func99, Try.ntmps99
  go_wp2_with fail
  refine wp_region_held_drew (S := fun W => (convert 22 9 (.slice (some ⟨b, o, none⟩) n4 c)).run Try.prog W = .ok (.string s2) W) (by kernel_rfl) q0 (fun hHeld => ?_)
  refine wpAnyH_take (i := 0) (oi := { dst := some 4, op := .move (.tmp 0), type := _, pos := _, after := _, guard := _ }) (v := ?_) rfl (by kernel_rfl) (by kernel_rfl) (by kernel_rfl) (fun _ _ _ h => h) (Or.inl ⟨by rfl, ?_⟩) (by assumption) ?_
  rotate_left
  · (intro w hSw; go_simp) <;> with_reducible rfl
  simp only [Act.put, List.setIfInBounds_toArray, List.set_cons_zero, List.set_cons_succ]
  refine wpAnyH_take (i := 1) (oi := { dst := some 5, op := .call { callee := .builtin .len, args := #[.tmp 4], argTypes := #[22] }, type := _, pos := _, after := _, guard := _ }) (v := ?_) rfl (by kernel_rfl) (by kernel_rfl) (by kernel_rfl) (fun _ _ _ h => h) (Or.inl ⟨by rfl, ?_⟩) (by assumption) ?_
  rotate_left
  · (intro w hSw; go_simp) <;> with_reducible rfl
  simp only [Act.put, List.setIfInBounds_toArray, List.set_cons_zero, List.set_cons_succ]
  refine wpAnyH_take (i := 2) (oi := { dst := some 6, op := .binOp .lss _ (.tmp 5) (.const (.int .i64 4)) _, type := _, pos := _, after := _, guard := _ }) (v := ?_) rfl (by kernel_rfl) (by kernel_rfl) (by kernel_rfl) (fun _ _ _ h => h) (Or.inl ⟨by rfl, ?_⟩) (by assumption) ?_
  rotate_left
  · (intro w hSw; go_simp) <;> with_reducible rfl
  simp only [Act.put, List.setIfInBounds_toArray, List.set_cons_zero, List.set_cons_succ]
  refine wpAnyH_take (i := 3) (oi := { dst := some 7, op := .move (.tmp 6), type := _, pos := _, after := _, guard := _ }) (v := ?_) rfl (by kernel_rfl) (by kernel_rfl) (by kernel_rfl) (fun _ _ _ h => h) (Or.inl ⟨by rfl, ?_⟩) (by assumption) ?_
  rotate_left
  · (intro w hSw; go_simp) <;> with_reducible rfl
  simp only [Act.put, List.setIfInBounds_toArray, List.set_cons_zero, List.set_cons_succ]
  refine wpAnyH_take (i := 4) (oi := { dst := some 8, op := .move (.tmp 0), type := _, pos := _, after := _, guard := _ }) (v := ?_) rfl (by kernel_rfl) (by kernel_rfl) (by kernel_rfl) (fun _ _ _ h => h) (Or.inl ⟨by rfl, ?_⟩) (by assumption) ?_
  rotate_left
  · (intro w hSw; go_simp) <;> with_reducible rfl
  simp only [Act.put, List.setIfInBounds_toArray, List.set_cons_zero, List.set_cons_succ]
  refine wpAnyH_take (i := 5) (oi := { dst := some 9, op := .move (.tmp 0), type := _, pos := _, after := _, guard := _ }) (v := ?_) rfl (by kernel_rfl) (by kernel_rfl) (by kernel_rfl) (fun _ _ _ h => h) (Or.inl ⟨by rfl, ?_⟩) (by assumption) ?_
  rotate_left
  · (intro w hSw; go_simp) <;> with_reducible rfl
  simp only [Act.put, List.setIfInBounds_toArray, List.set_cons_zero, List.set_cons_succ]
  refine wpAnyH_take (i := 6) (oi := { dst := some 10, op := .call { callee := .builtin .len, args := #[.tmp 9], argTypes := #[22] }, type := _, pos := _, after := _, guard := _ }) (v := ?_) rfl (by kernel_rfl) (by kernel_rfl) (by kernel_rfl) (fun _ _ _ h => h) (Or.inl ⟨by rfl, ?_⟩) (by assumption) ?_
  rotate_left
  · (intro w hSw; go_simp) <;> with_reducible rfl
  simp only [Act.put, List.setIfInBounds_toArray, List.set_cons_zero, List.set_cons_succ]
  refine wpAnyH_take (i := 7) (oi := { dst := some 11, op := .binOp .sub _ (.tmp 10) (.const (.int .i64 4)) _, type := _, pos := _, after := _, guard := _ }) (v := ?_) rfl (by kernel_rfl) (by kernel_rfl) (by kernel_rfl) (fun _ _ _ h => h) (Or.inl ⟨by rfl, ?_⟩) (by assumption) ?_
  rotate_left
  · (intro w hSw; go_simp) <;> with_reducible rfl
  simp only [Act.put, List.setIfInBounds_toArray, List.set_cons_zero, List.set_cons_succ]
  refine wpAnyH_take (i := 8) (oi := { dst := some 12, op := .slice _ (.tmp 8) _ (some (.tmp 11)) _, type := _, pos := _, after := _, guard := _ }) (v := ?_) rfl (by kernel_rfl) (by kernel_rfl) (by kernel_rfl) (fun _ _ _ h => h) (Or.inl ⟨by rfl, ?_⟩) (by assumption) ?_
  rotate_left
  · (intro w hSw; go_simp) <;> with_reducible rfl
  simp only [Act.put, List.setIfInBounds_toArray, List.set_cons_zero, List.set_cons_succ]
  refine wpAnyH_take (i := 11) (oi := { dst := some 15, op := .move (.tmp 0), type := _, pos := _, after := _, guard := _ }) (v := ?_) rfl (by kernel_rfl) (by kernel_rfl) (by kernel_rfl) (fun _ _ _ h => h) (Or.inl ⟨by rfl, ?_⟩) (by assumption) ?_
  rotate_left
  · (intro w hSw; go_simp) <;> with_reducible rfl
  simp only [Act.put, List.setIfInBounds_toArray, List.set_cons_zero, List.set_cons_succ]
  refine wpAnyH_take (i := 12) (oi := { dst := some 16, op := .convert _ _ (.tmp 15), type := _, pos := _, after := _, guard := _ }) (v := ?_) rfl (by kernel_rfl) (by kernel_rfl) (by kernel_rfl) (fun _ _ _ h => h) (Or.inl ⟨by rfl, ?_⟩) (by assumption) ?_
  rotate_left
  · (intro w hSw; go_simp) <;> with_reducible rfl
  simp only [Act.put, List.setIfInBounds_toArray, List.set_cons_zero, List.set_cons_succ]
  refine wpAnyH_ready (rs := [9]) (by kernel_rfl) (by simp) ?_
  refine AllReadyH.cons (o := { dst := some 13, op := .call { callee := .value (.func 89), args := #[.tmp 12], argTypes := #[22] }, type := _, pos := _, after := _, guard := _ }) rfl (fun K hK => ?_) AllReadyH.nil
  go_simp
  refine (P1.out _ hmr).mono ?_
  rintro e w9 ⟨a9, cc9, rfl, hc9, hx9, m9, hb9⟩
  have q2 := e2.out w9 (q00.below hb9 (Nat.le_refl _))
  have q3 := e1.out w9 a9 cc9 m9.rd
  have hbB := Lib.hid ((bdrewN (Below.refl _ w) 1).trans (hb9 : Below w.heap.size _ w9))
  have ham9 := Lib.hid (ham.out.below hbB.out (Nat.le_refl _))
  go_wp2_with fail
  refine hK.out _ _ q2 (fun _ => ?_)
  clear hK K
  refine wpAnyH_mono (S := fun W => W = w9) (fun W hW => by rw [hW]; exact q2) ?_
  try simp only [Act.put, List.setIfInBounds_toArray, List.set_cons_zero, List.set_cons_succ]
  clear q00 hmr m9 hb9 q0 e1 e2 P1 ha ham hHeld
  have hw9 : w9 = w9 := rfl
  refine wpAnyH_take (i := 10) (oi := { dst := some 14, op := .convert _ _ (.tmp 13), type := _, pos := _, after := _, guard := _ }) (v := ?_) rfl (by kernel_rfl) (by kernel_rfl) (by kernel_rfl) (fun _ _ _ h => h) (Or.inl ⟨by rfl, ?_⟩) hw9 ?_
  rotate_left
  · (intro w hSw; subst hSw; go_simp) <;> with_reducible rfl
  simp only [Act.put, List.setIfInBounds_toArray, List.set_cons_zero, List.set_cons_succ]
  refine wpAnyH_take (i := 13) (oi := { dst := some 17, op := .binOp .neq _ (.tmp 14) (.tmp 16) _, type := _, pos := _, after := _, guard := _ }) (v := ?_) rfl (by kernel_rfl) (by kernel_rfl) (by kernel_rfl) (fun _ _ _ h => h) (Or.inl ⟨by rfl, ?_⟩) hw9 ?_
  rotate_left
  · (intro w hSw; subst hSw; go_simp) <;> with_reducible rfl
  simp only [Act.put, List.setIfInBounds_toArray, List.set_cons_zero, List.set_cons_succ]
  refine wpAnyH_take (i := 14) (oi := { dst := some 18, op := .pick (.tmp 7) _ (.tmp 17), type := _, pos := _, after := _, guard := _ }) (v := ?_) rfl (by kernel_rfl) (by kernel_rfl) (by kernel_rfl) (fun _ _ _ h => h) (Or.inl ⟨by rfl, ?_⟩) hw9 ?_
  rotate_left
  · (intro w hSw; subst hSw; go_simp) <;> with_reducible rfl
  simp only [Act.put, List.setIfInBounds_toArray, List.set_cons_zero, List.set_cons_succ]
  refine wpAnyH_done (by kernel_rfl) ?_ _
  clear hcn hok q2 q3 hne hw9
  cases al with
  | true =>
    go_wp2
    refine bodyPost_ret (v := .tuple #[.slice (some ⟨b, o, none⟩) m c, .bool true]) (by simp [results, Try.results99, go_sem]) rfl ⟨_, ⟨_, rfl⟩, ham9.out, hbB.out⟩
  | false =>
    go_wp2
    refine bodyPost_ret (v := .tuple #[.slice none 0 0, .bool false]) (by simp [results, Try.results99, go_sem]) rfl ⟨none, ⟨0, rfl⟩, fun i hi => absurd hi (Nat.not_lt_zero _), hbB.out⟩
set_option maxHeartbeats 2000000 in
theorem refCheck (w : World) (ao : Option Addr) (n c : Nat) (L : Nat → Int) (ha : Rd .u8 w ao n L) (hnil : NilOk ao n c) (hL : ∀ i, i < n → 0 ≤ L i ∧ L i < 256) (hn : n ≤ 100000) :
    Calls Try.prog 99 #[.slice ao n c] w fun e w' => ∃ a cc, e = .returned (.tuple #[.slice a (cntS L n) cc, .bool (okS L n)]) ∧ Rd .u8 w' a (cntS L n) L ∧ Below w.heap.size w w' := by
  by_cases h4 : 4 ≤ n
  · exact refCheck_long w ao n c L ha hnil hL hn h4
  · have g1 : decide ((n : Int) < 4) = true := by simp; omega
    have hok : okS L n = false := by simp [okS, h4]
    have hcn : cntS L n = 0 := by simp [cntS, hok]
    rw [hok, hcn]
    clear h4 hnil hok hcn
    go_enter Try.func99, Try.ntmps99
    go_wp2
    go_quiet (fail)
    go_wp2
    refine bodyPost_ret (v := .tuple #[.slice none 0 0, .bool false]) (by simp [results, Try.results99, go_sem]) rfl ⟨none, 0, rfl, fun i hi => by omega, bdrewN (Below.refl _ _) _⟩
end Go.Proofs.Ytmdohnbhogfopaa
/- Sums (beside the law): the chapter's examples. -/
namespace Go.Proofs.Ytmdohnbhogfopaa
open Go.RowKit
set_option linter.unusedSimpArgs false
set_option linter.unusedVariables false
set_option maxRecDepth 100000
theorem putS_put (L : Nat → Int) (n i : Nat) : putS (putS L n) n i = putS L n i := by
  have e : sumN (putS L n) n = sumN L n := sumN_congr fun j hj => by simp [putS, hj]
  unfold putS
  split
  · rfl
  · rw [show (fun i => if i < n then L i else tailB (sumN L n) (i - n)) = putS L n from rfl, e]
theorem okS_put (L : Nat → Int) (n : Nat) : okS (putS L n) (n + 4) = true := by
  simp only [okS, Nat.add_sub_cancel, Bool.and_eq_true, decide_eq_true_eq]
  exact ⟨by omega, alikeB_true.2 fun i _ => putS_put L n i⟩
theorem cntS_put (L : Nat → Int) (n : Nat) : cntS (putS L n) (n + 4) = n := by simp [cntS, okS_put]
theorem putS_byte {L : Nat → Int} {n : Nat} (h : ∀ i, i < n → 0 ≤ L i ∧ L i < 256) (i : Nat) : i < n + 4 → 0 ≤ putS L n i ∧ putS L n i < 256 := fun hi => by
  unfold putS
  split
  · exact h i (by assumption)
  · unfold tailB
    omega
theorem litL_byte {l : List Int} (h : ∀ x ∈ l, 0 ≤ x ∧ x < 256) : ∀ i, i < l.length → 0 ≤ litL l i ∧ litL l i < 256 := fun i hi => by
  have e : litL l i = l[i] := by simp [litL, hi]
  rw [e]
  exact h _ (List.getElem_mem hi)
/-- One part that the text writes out. -/
theorem partsLit (w : World) (l : List Int) (hl : l.length ≤ 1000) (h : ∀ x ∈ l, 0 ≤ x ∧ x < 256) :
    Parts ((w.alloc (.cells (l.map (Value.int .u8)).toArray 5)).alloc (.cells #[.slice (some ⟨w.heap.size, 0, none⟩) l.length l.length] 22)) (some ⟨w.heap.size + 1, 0, none⟩) 1
      (fun _ => some ⟨w.heap.size, 0, none⟩) (fun _ => l.length) (fun _ => l.length) (fun _ => litL l) := by
  have hB := Blk.new (w.alloc (.cells (l.map (Value.int .u8)).toArray 5)) #[.slice (some ⟨w.heap.size, 0, none⟩) l.length l.length] 22
  have hc := hB.cell (i := 0) rfl
  rw [show (w.alloc (.cells (l.map (Value.int .u8)).toArray 5)).heap.size = w.heap.size + 1 by simp] at hc
  exact parts_one hc ((rdLit .u8 5 w l).below (below_alloc _ _) (Nat.le_refl _)) ⟨Nat.le_refl _, by omega, fun e => by simp at e⟩ (litL_byte h)
theorem rdLitF (w : World) (l : List Int) (fr : Nat × Nat) : Rd .u8 (w.alloc (.cells (l.map (Value.int .u8)).toArray 5 fr)) (some ⟨w.heap.size, 0, none⟩) l.length (litL l) := fun i hi =>
  ⟨_, 0, rfl, by rw [Nat.zero_add, World.cell?_alloc_mark]; simp [litL, hi]⟩
theorem partsLitF (w : World) (l : List Int) (fr : Nat × Nat) (hl : l.length ≤ 1000) (h : ∀ x ∈ l, 0 ≤ x ∧ x < 256) :
    Parts ((w.alloc (.cells (l.map (Value.int .u8)).toArray 5 fr)).alloc (.cells #[.slice (some ⟨w.heap.size, 0, none⟩) l.length l.length] 22)) (some ⟨w.heap.size + 1, 0, none⟩) 1
      (fun _ => some ⟨w.heap.size, 0, none⟩) (fun _ => l.length) (fun _ => l.length) (fun _ => litL l) := by
  have hB := Blk.new (w.alloc (.cells (l.map (Value.int .u8)).toArray 5 fr)) #[.slice (some ⟨w.heap.size, 0, none⟩) l.length l.length] 22
  have hc := hB.cell (i := 0) rfl
  rw [show (w.alloc (.cells (l.map (Value.int .u8)).toArray 5 fr)).heap.size = w.heap.size + 1 by simp] at hc
  exact parts_one hc ((rdLitF w l fr).below (below_alloc _ _) (Nat.le_refl _)) ⟨Nat.le_refl _, by omega, fun e => by simp at e⟩ (litL_byte h)
theorem parts_nil (w : World) (ap : Option Addr) : Parts w ap 0 (fun _ => none) (fun _ => 0) (fun _ => 0) (fun _ _ => 0) := fun i hi => absurd hi (Nat.not_lt_zero _)
theorem sumN_nil (L : Nat → Int) : sumN L 0 = 0 := by
  have e : regB 4294967295 (bitU L) (8 * 0) = 4294967295 := rfl
  rw [sumN, e]
end Go.Proofs.Ytmdohnbhogfopaa
