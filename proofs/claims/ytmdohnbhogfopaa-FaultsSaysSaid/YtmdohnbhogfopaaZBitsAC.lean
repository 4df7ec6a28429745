/- Several texts, one behind the other: Spec01 BitsA BitsB BitsC. -/
import Derived.Below
import Derived.Test.YtmdohnbhogfopaaProg
import Derived.Test.YtmdohnbhogfopaaZLowA
import Derived.ScopeJumps
import Derived.WalkMore
/- Bits: what symbols, bytes and numbers are of one another: plain laws, no program. -/
namespace Go.Proofs.Ytmdohnbhogfopaa
/-- Bit j of a number. -/
def bitN (z j : Nat) : Nat := z / 2 ^ j % 2
theorem bitN_lt (z j : Nat) : bitN z j < 2 := Nat.mod_lt _ (by decide)
/-- Are the first n symbols whole? -/
def wholeL (L : Nat → Int) : Nat → Bool
  | 0 => true
  | k + 1 => wholeL L k && (L k == 1 || L k == 2)
/-- The number of the first symbols. -/
def numL (L : Nat → Int) : Nat → Int
  | 0 => 0
  | k + 1 => 2 * numL L k + (L k - 1)
theorem wholeL_iff {L : Nat → Int} {n : Nat} : wholeL L n = true ↔ ∀ i, i < n → L i = 1 ∨ L i = 2 := by
  induction n with
  | zero => simp [wholeL]
  | succ n ih =>
    simp only [wholeL, Bool.and_eq_true, ih, Bool.or_eq_true, beq_iff_eq]
    constructor
    · rintro ⟨h1, h2⟩ i hi
      by_cases e : i = n
      · subst e; exact h2
      · exact h1 i (by omega)
    · intro h
      exact ⟨fun i hi => h i (by omega), h n (by omega)⟩
theorem wholeL_false {L : Nat → Int} {n : Nat} : wholeL L n = false ↔ ∃ i, i < n ∧ L i ≠ 1 ∧ L i ≠ 2 := by
  rw [← Bool.not_eq_true, wholeL_iff]
  constructor
  · intro h
    exact Classical.byContradiction fun hc => h fun i hi => Classical.byContradiction fun hx => hc ⟨i, hi, fun e => hx (.inl e), fun e => hx (.inr e)⟩
  · rintro ⟨i, hi, h1, h2⟩ h
    exact (h i hi).elim h1 h2
theorem wholeL_le {L : Nat → Int} {n m : Nat} (h : wholeL L n = true) (hm : m ≤ n) : wholeL L m = true := wholeL_iff.2 fun i hi => wholeL_iff.1 h i (by omega)
theorem wholeL_congr {L L' : Nat → Int} {n : Nat} (h : ∀ i, i < n → L i = L' i) : wholeL L n = wholeL L' n := by
  induction n with
  | zero => rfl
  | succ n ih => simp only [wholeL, ih fun i hi => h i (by omega), h n (by omega)]
theorem numL_congr {L L' : Nat → Int} {n : Nat} (h : ∀ i, i < n → L i = L' i) : numL L n = numL L' n := by
  induction n with
  | zero => rfl
  | succ n ih => simp only [numL, ih fun i hi => h i (by omega), h n (by omega)]
theorem numL_bd {L : Nat → Int} {n : Nat} (h : wholeL L n = true) : 0 ≤ numL L n ∧ numL L n < 2 ^ n := by
  induction n with
  | zero => simp [numL]
  | succ n ih =>
    have h1 := ih (wholeL_le h (by omega))
    have h2 := wholeL_iff.1 h n (by omega)
    have e : (2 : Int) ^ (n + 1) = 2 * 2 ^ n := by rw [Int.pow_succ]; omega
    rw [e]
    simp only [numL]
    omega
theorem numL_bd64 {L : Nat → Int} {n : Nat} (h : wholeL L n = true) (hn : n ≤ 64) : 0 ≤ numL L n ∧ numL L n < 18446744073709551616 := by
  have h1 := numL_bd h
  have h2 : (2 : Nat) ^ n ≤ 2 ^ 64 := Nat.pow_le_pow_right (by decide) hn
  have h3 : ((2 : Int) ^ n) = ((2 ^ n : Nat) : Int) := by simp
  rw [h3] at h1
  omega
theorem two_pos (j : Nat) : 0 < 2 ^ j := Nat.pow_pos (by decide)
/-- The symbols of a number's bits are that number, as far as they go. -/
theorem numL_bits (z b k : Nat) (hk : k ≤ b) : numL (fun i => 1 + (bitN z (b - 1 - i) : Nat)) k = ((z / 2 ^ (b - k) % 2 ^ k : Nat) : Int) := by
  induction k with
  | zero => simp [numL, Nat.mod_one]
  | succ k ih =>
    have ih' := ih (by omega)
    have e1 : b - k = (b - (k + 1)) + 1 := by omega
    have e2 : b - 1 - k = b - (k + 1) := by omega
    have e3 : z / 2 ^ (b - k) = z / 2 ^ (b - (k + 1)) / 2 := by rw [e1, Nat.pow_succ, Nat.div_div_eq_div_mul]
    simp only [numL, ih', e2, e3]
    unfold bitN
    generalize z / 2 ^ (b - (k + 1)) = y
    have e4 : y % 2 ^ (k + 1) = 2 * (y / 2 % 2 ^ k) + y % 2 := by
      rw [Nat.pow_succ, Nat.mul_comm (2 ^ k) 2, Nat.mod_mul]
      omega
    rw [e4]
    omega
theorem numL_all (z b : Nat) : numL (fun i => 1 + (bitN z (b - 1 - i) : Nat)) b = ((z % 2 ^ b : Nat) : Int) := by
  rw [numL_bits z b b (Nat.le_refl _), Nat.sub_self]
  simp
/-- Some symbols, and behind them a number's. -/
def putL (L : Nat → Int) (n z b : Nat) (i : Nat) : Int := if i < n then L i else 1 + (bitN z (b - 1 - (i - n)) : Nat)
/-- The symbols of bytes. -/
def ofL (L : Nat → Int) (i : Nat) : Int := 1 + (bitN (L (i / 8)).toNat (7 - i % 8) : Nat)
/-- The bytes of symbols. -/
def bytesL (L : Nat → Int) (j : Nat) : Int := numL (fun i => L (8 * j + i)) 8
/-- How often a place is among the first k of some places. -/
def cntL (A : Nat → Int) (i : Nat) : Nat → Nat
  | 0 => 0
  | k + 1 => cntL A i k + if A k = i then 1 else 0
/-- Symbols, turned at the first k of some places. -/
def turnL (L A : Nat → Int) (k i : Nat) : Int := if cntL A i k % 2 = 1 ∧ (L i = 1 ∨ L i = 2) then 3 - L i else L i
theorem putL_one (L : Nat → Int) (n z b i : Nat) : putL L n z b i = 1 ∨ putL L n z b i = 2 ∨ (i < n ∧ putL L n z b i = L i) := by
  unfold putL
  split
  · rename_i h; exact .inr (.inr ⟨h, rfl⟩)
  · have := bitN_lt z (b - 1 - (i - n)); omega
theorem ofL_whole (L : Nat → Int) (n : Nat) : wholeL (ofL L) n = true := wholeL_iff.2 fun i _ => by
  have := bitN_lt (L (i / 8)).toNat (7 - i % 8)
  unfold ofL
  omega
theorem ofL_num (L : Nat → Int) (j : Nat) (h : 0 ≤ L j ∧ L j < 256) : bytesL (ofL L) j = L j := by
  unfold bytesL
  have e : numL (fun i => ofL L (8 * j + i)) 8 = numL (fun i => 1 + (bitN (L j).toNat (8 - 1 - i) : Nat)) 8 := numL_congr fun i hi => by
    have e1 : (8 * j + i) / 8 = j := by omega
    have e2 : (8 * j + i) % 8 = i := by omega
    simp only [ofL, e1, e2]
  rw [e, numL_all]
  have e3 : (L j).toNat % 2 ^ 8 = (L j).toNat := Nat.mod_eq_of_lt (by have : (2:Nat)^8 = 256 := rfl; omega)
  rw [e3]
  omega
theorem turnL_zero (L A : Nat → Int) (i : Nat) : turnL L A 0 i = L i := by simp [turnL, cntL]
theorem turnL_whole (L A : Nat → Int) (k i : Nat) : (turnL L A k i = 1 ∨ turnL L A k i = 2) ↔ (L i = 1 ∨ L i = 2) := by
  unfold turnL
  split <;> omega
theorem turnL_step (L A : Nat → Int) (k i : Nat) : turnL L A (k + 1) i = if A k = i ∧ (L i = 1 ∨ L i = 2) then 3 - turnL L A k i else turnL L A k i := by
  have hc : cntL A i (k + 1) = cntL A i k + if A k = i then 1 else 0 := rfl
  unfold turnL
  rw [hc]
  by_cases h1 : A k = i
  · by_cases h2 : L i = 1 ∨ L i = 2
    · by_cases h3 : cntL A i k % 2 = 1
      · have h4 : ¬ (cntL A i k + 1) % 2 = 1 := by omega
        simp [h1, h2, h3, h4]
        omega
      · have h4 : (cntL A i k + 1) % 2 = 1 := by omega
        simp [h1, h2, h3, h4]
    · simp [h2]
  · simp [h1]
end Go.Proofs.Ytmdohnbhogfopaa
/- Bits: Clone, Whole, Num: what they answer. -/
namespace Go.Proofs.Ytmdohnbhogfopaa
open Go.RowKit
set_option linter.unusedSimpArgs false
set_option linter.unusedVariables false
theorem elemS : (Try.prog.info? 35).map (fun i => (i.zero, i.size, i.bytes)) = some (some (.int .u8 0), 1, 1) := by kernel_rfl
set_option maxRecDepth 100000
/-- slices.Clone of symbols: nil of nil, else a list of its own. -/
theorem cloneSyms (w : World) (ao : Option Addr) (n c : Nat) (L : Nat → Int) (ha : Rd .u8 w ao n L) (hnil : ao = none → n = 0 ∧ c = 0) (hn : n ≤ 1000000000) :
    Calls Try.prog 71 #[.slice ao n c] w fun e w' => ∃ v, e = .returned v ∧ w'.ownsRow w.heap.size 35 1 v n (nums .u8 L n) ∧ Below w.heap.size w w' := by
  obtain ⟨i0, hi, hz0, hz1, hz2⟩ := info_parts elemS
  replace ha := Lib.hid ha
  have hq := fun (W : World) => Lib.run_eql_slice_nil (P := Try.prog) W 47 35 ao n c 0 0 Try.underlying47
  cases ao with
  | none =>
    obtain ⟨rfl, rfl⟩ := hnil rfl
    go_enter Try.func71, Try.ntmps71
    go_wp2
    go_ret
    exact ⟨_, rfl, World.ownsRow_nil _ _ _ _, Below.refl _ _⟩
  | some ad =>
    clear hnil
    go_enter Try.func71, Try.ntmps71
    go_wp2_with (at_builtin; refine append_src rfl _ _ 47 rfl w.heap.size 35 i0 (.int .u8 0) 1 Try.underlying47 hi hz0 hz1 hz2 rfl _ 0 [] rfl (World.ownsRow_made _ _ 0 (Nat.le_refl _) (by unfold maxLen; omega) rfl) (some ad) n c (nums .u8 L n) rfl (by simp) (nums_len _ _ _) (nums_news (ha.out.below ((Below.refl _ _).alloc (Nat.le_refl _) _) (Nat.le_refl _))) (nums_one _ _ _) (by omega) (by omega) (by simp) ?_)
    intro v1 w1 hown1 hg1 _
    have hb1 : Below w.heap.size w w1 := Below.grown ((Below.refl _ _).alloc (Nat.le_refl _) _) hg1 (by simp) (by simp [Value.ownBlock])
    try simp only [Nat.zero_add, List.nil_append] at hown1
    clear hg1 ha
    go_wp2
    go_ret
    exact ⟨_, rfl, hown1, hb1⟩
def firstBad (L : Nat → Int) (n : Nat) (r : Int) : Prop := (r = -1 ∧ wholeL L n = true) ∨ (0 ≤ r ∧ wholeL L n = false)
def InvIdx (w : World) (ao : Option Addr) (n c : Nat) (L : Nat → Int) (k : Nat) (a : Act) (wr : World) : Prop :=
  ∃ i : Nat, i + k = n ∧ wr = w ∧ wholeL L i = true ∧ a.tmps.size = 19 ∧ a.defers = [] ∧ slot a 0 = .slice ao n c ∧ slot a 1 = .func (.func 115) #[] #[] ∧ slot a 6 = .slice ao n c ∧ slot a 7 = .int .i64 n ∧ slot a 8 = .int .i64 i
set_option maxHeartbeats 400000 in
theorem indexBad (w : World) (ao : Option Addr) (n c : Nat) (L : Nat → Int) (ha : Rd .u8 w ao n L) (hn : n ≤ 1000000000) :
    Calls Try.prog 136 #[.slice ao n c, .func (.func 115) #[] #[]] w fun e w' => (∃ r, e = .returned (.int .i64 r) ∧ firstBad L n r) ∧ w = w' := by
  replace ha := Lib.hid ha
  go_enter Try.func136, Try.ntmps136
  go_wp2
  refine wp_loop_k (InvIdx w ao n c L) n ?_ ?_
  · exact ⟨0, by omega, rfl, rfl, by kernel_rfl, rfl, by kernel_rfl, by kernel_rfl, by kernel_rfl, by kernel_rfl, by kernel_rfl⟩
  · intro gk a wr hI K hK
    obtain ⟨i, hi, rfl, hw, hs', hd', k0', k1', k6', k7', k8'⟩ := hI
    rw [fr19 a hs' hd']; simp only [k0', k1', k6', k7', k8']; clear hs' hd' k0' k1' k6' k7' k8'
    replace hw := Lib.hid hw
    by_cases hlt : i < n
    · obtain ⟨b, o, rfl, hc⟩ := ha.out i hlt
      have hin : (i : Int) < n := by omega
      by_cases h1 : L i = 1
      · have e1 : (L i == 1) = true := by simp [h1]
        have hw' := Lib.hid (show wholeL L (i + 1) = true by simp [wholeL, hw.out, h1])
        clear h1
        go_wp2
        refine hK (n - (i + 1)) _ _ (by omega) ⟨i + 1, by omega, rfl, hw'.out, by kernel_rfl, rfl, by kernel_rfl, by kernel_rfl, by kernel_rfl, by kernel_rfl, ?_⟩
        show Value.int _ _ = Value.int _ _
        simp
      · have e1 : (L i == 1) = false := by simp [h1]
        by_cases h2 : L i = 2
        · have e2 : (L i == 2) = true := by simp [h2]
          have hw' := Lib.hid (show wholeL L (i + 1) = true by simp [wholeL, hw.out, h2])
          clear h1 h2
          go_wp2
          refine hK (n - (i + 1)) _ _ (by omega) ⟨i + 1, by omega, rfl, hw'.out, by kernel_rfl, rfl, by kernel_rfl, by kernel_rfl, by kernel_rfl, by kernel_rfl, ?_⟩
          show Value.int _ _ = Value.int _ _
          simp
        · have e2 : (L i == 2) = false := by simp [h2]
          have hw' := Lib.hid (show wholeL L n = false from wholeL_false.2 ⟨i, hlt, h1, h2⟩)
          clear h1 h2
          go_wp2
          go_ret
          exact ⟨⟨_, rfl, .inr ⟨by omega, hw'.out⟩⟩, rfl⟩
    · obtain rfl : i = n := by omega
      go_wp2
      go_ret
      exact ⟨⟨_, rfl, .inl ⟨rfl, hw.out⟩⟩, rfl⟩
theorem bitsWhole (w : World) (ao : Option Addr) (n c : Nat) (L : Nat → Int) (ha : Rd .u8 w ao n L) (hn : n ≤ 1000000000) :
    Calls Try.prog 73 #[.slice ao n c] w fun e w' => e = .returned (.bool (wholeL L n)) ∧ w = w' := by
  replace ha := Lib.hid ha
  go_enter Try.func73, Try.ntmps73
  go_wp2_with fail
  go_enter Try.func114, Try.ntmps114
  go_wp2_with fail
  refine (indexBad _ _ _ _ L ha.out hn).mono ?_
  rintro e w1 ⟨⟨r, rfl, hr⟩, rfl⟩
  rcases hr with ⟨rfl, hr⟩ | ⟨hr0, hr⟩
  all_goals
    replace hr := Lib.hid hr
    go_wp2_with fail
    go_ret
    go_wp2_with fail
    exact hr.out
/-- The number of symbols, if it is one. -/
def numR (L : Nat → Int) (n : Nat) : Int × Bool := if n ≤ 64 ∧ wholeL L n = true then (numL L n, true) else (0, false)
def InvNum (w : World) (ao : Option Addr) (n c : Nat) (L : Nat → Int) (k : Nat) (a : Act) (wr : World) : Prop :=
  ∃ i : Nat, i + k = n ∧ wr = w ∧ a.tmps.size = 28 ∧ a.defers = [] ∧ slot a 2 = .int .u64 (numL L i) ∧ slot a 14 = .slice ao n c ∧ slot a 15 = .int .i64 n ∧ slot a 16 = .int .i64 i
theorem num_step (x y : Int) (h0 : 0 ≤ x) (h1 : x < 9223372036854775808) (hy : y = 0 ∨ y = 1) : bits .or .u64 (IntKind.u64.wrap (x * 2)) (y % 256) = 2 * x + y := by
  have e1 : IntKind.u64.wrap (x * 2) = 2 * x := by rw [IntKind.wrap_u64]; omega
  have e2 : y % 256 = y := by omega
  rw [e1, e2]
  exact bits_join .u64 64 (by decide) (fun n hn hn' => by rw [IntKind.wrap_u64]; omega) 1 (2 * x) y (by omega) (by omega) (by omega) (by omega) (by omega) (by omega)
theorem numL_step (L : Nat → Int) (n i : Nat) (hw : wholeL L n = true) (hn : n ≤ 64) (hi : i < n) : bits .or .u64 (IntKind.u64.wrap (numL L i * 2)) ((L i - 1) % 256) = numL L (i + 1) := by
  have h1 := numL_bd (wholeL_le hw (Nat.le_of_lt hi))
  have h2 := wholeL_iff.1 hw i hi
  have h3 : (2 : Nat) ^ i ≤ 2 ^ 63 := Nat.pow_le_pow_right (by decide) (by omega)
  have h4 : ((2 : Int) ^ i) = ((2 ^ i : Nat) : Int) := by simp
  rw [h4] at h1
  exact num_step _ _ h1.1 (by omega) (by omega)
set_option maxHeartbeats 400000 in
theorem bitsNum (w : World) (ao : Option Addr) (n c : Nat) (L : Nat → Int) (ha : Rd .u8 w ao n L) (hn : n ≤ 1000000000) :
    Calls Try.prog 117 #[.slice ao n c] w fun e w' => e = .returned (.tuple #[.int .u64 (numR L n).1, .bool (numR L n).2]) ∧ w = w' := by
  replace ha := Lib.hid ha
  by_cases h64 : n ≤ 64
  · have e64 : decide ((64 : Int) < (n : Int)) = false := by simp; omega
    cases hw : wholeL L n with
    | false =>
      have hR : numR L n = (0, false) := by simp [numR, hw]
      rw [hR]
      replace hw := Lib.hid hw
      go_enter Try.func117, Try.ntmps117
      go_wp2_with fail
      refine (bitsWhole _ _ _ _ L ha.out hn).mono ?_
      rintro e w1 ⟨rfl, rfl⟩
      rw [hw.out]
      go_wp2_with fail
      go_ret2
      exact ⟨rfl, rfl⟩
    | true =>
      have hR : numR L n = (numL L n, true) := by simp [numR, hw, h64]
      rw [hR]
      replace hw := Lib.hid hw
      go_enter Try.func117, Try.ntmps117
      go_wp2_with fail
      refine (bitsWhole _ _ _ _ L ha.out hn).mono ?_
      rintro e w1 ⟨rfl, rfl⟩
      rw [hw.out]
      go_wp2_with fail
      refine wp_loop_k (InvNum w ao n c L) n ?_ ?_
      · exact ⟨0, by omega, rfl, by kernel_rfl, rfl, by kernel_rfl, by kernel_rfl, by kernel_rfl, by kernel_rfl⟩
      · intro gk a wr hI K hK
        obtain ⟨i, hi, rfl, hs', hd', k2', k14', k15', k16'⟩ := hI
        rw [fr28 a hs' hd']; simp only [k2', k14', k15', k16']; clear hs' hd' k2' k14' k15' k16'
        by_cases hlt : i < n
        · obtain ⟨b, o, rfl, hc⟩ := ha.out i hlt
          have hin : (i : Int) < n := by omega
          have hs := Lib.hid (numL_step L n i hw.out h64 hlt)
          go_wp2_with fail
          rw [hs.out]
          refine hK (n - (i + 1)) _ _ (by omega) ⟨i + 1, by omega, rfl, by kernel_rfl, rfl, by kernel_rfl, by kernel_rfl, by kernel_rfl, ?_⟩
          show Value.int _ _ = Value.int _ _
          simp
        · obtain rfl : i = n := by omega
          go_wp2
          go_ret2
          exact ⟨rfl, rfl⟩
  · have e64 : decide ((64 : Int) < (n : Int)) = true := by simp; omega
    have hR : numR L n = (0, false) := by simp [numR, h64]
    rw [hR]
    go_enter Try.func117, Try.ntmps117
    go_wp2_with fail
    go_ret2
    exact ⟨rfl, rfl⟩
end Go.Proofs.Ytmdohnbhogfopaa
/- Bits: Put, Of, Turn: what they answer. -/
namespace Go.Proofs.Ytmdohnbhogfopaa
open Go.RowKit
set_option linter.unusedSimpArgs false
set_option linter.unusedVariables false
set_option maxRecDepth 100000
/-- A scope in which the run jumps back to one label: what holds whenever the run stands behind the label, and how many passes are to come at most. -/
theorem wp_scope_k {P : Program} {c rest : Code} {Q : Exit → Act → World → Prop} {a : Act} {w : World} (l : Nat) (hf : findLabel c l = some (Code.skip.seq rest)) (I : Nat → Act → World → Prop)
    (pass : ∀ k a w, I k a w → ∀ J : Act → World → Prop, (∀ k' a' w', k' < k → I k' a' w' → J a' w') → rest.wp P (Exit.jump l J Q) a w)
    (first : ∀ J : Act → World → Prop, (∀ k a w, I k a w → rest.wp P (Exit.jump l J Q) a w) → c.wp P (Exit.jump l J Q) a w) : (Code.scope c).wp P Q a w := by
  have hmono : ∀ (J J' : Act → World → Prop), (∀ a w, J a w → J' a w) → ∀ e a w, Exit.jump l J Q e a w → Exit.jump l J' Q e a w := fun J J' h e a w q => by
    cases e with
    | goto l' => exact ⟨q.1, h _ _ q.2⟩
    | _ => exact q
  have hpass0 : ∀ k a w, I k a w → rest.wp P (Exit.jump l (fun a' w' => ∃ k', k' < k ∧ I k' a' w') Q) a w := fun k a w h => pass k a w h _ fun k' a' w' hk h' => ⟨k', hk, h'⟩
  have hpass : ∀ k a w, I k a w → (Code.skip.seq rest).wp P (Exit.jump l (fun a' w' => ∃ k', k' < k ∧ I k' a' w') Q) a w := fun k a w h => by
    apply wp_seq_k
    intro K hK
    apply wp_skip
    exact hK _ _ (hpass0 k a w h)
  have hfirst := first (fun a w => ∃ k, I k a w) fun k a w h => Code.wp_mono (hmono _ _ fun a w ⟨k', _, h'⟩ => ⟨k', h'⟩) (hpass0 k a w h)
  intro b k cs
  have hg : gotoIn l (.inScope c :: k) = some (.code (Code.skip.seq rest) :: .inScope c :: k) := by simp [gotoIn, hf]
  have key : ∀ n a w, I n a w → ∃ e a' w', Q e a' w' ∧ Arrives P (lone (b.at a (.code (Code.skip.seq rest) :: .inScope c :: k)) cs w) b k cs e a' w' := by
    intro n
    induction n using Nat.strongRecOn with
    | _ n ih =>
      intro a w hI
      obtain ⟨e, a₁, w₁, hq, harr⟩ := hpass n a w hI b (.inScope c :: k) cs
      cases e with
      | normal => exact ⟨.normal, a₁, w₁, hq, Steps.trans harr (.one step_inScope)⟩
      | exit id => exact ⟨.exit id, a₁, w₁, hq, fun k' hk => harr k' (by simp [exitTo, hk])⟩
      | goto l' =>
        obtain ⟨rfl, k', hlt, hI'⟩ := hq
        obtain ⟨e₂, a₂, w₂, hq₂, harr₂⟩ := ih _ hlt a₁ w₁ hI'
        exact ⟨e₂, a₂, w₂, hq₂, .of_steps (harr _ hg) harr₂⟩
      | ret => exact ⟨_, a₁, w₁, hq, harr⟩
      | panic ch => exact ⟨_, a₁, w₁, hq, harr⟩
      | outgrown => exact ⟨_, a₁, w₁, hq, harr⟩
  obtain ⟨e, a₁, w₁, hq, harr⟩ := hfirst b (.inScope c :: k) cs
  cases e with
  | normal => exact ⟨.normal, a₁, w₁, hq, .head step_scope (Steps.trans harr (.one step_inScope))⟩
  | exit id => exact ⟨.exit id, a₁, w₁, hq, fun k' hk => .head step_scope (harr k' (by simp [exitTo, hk]))⟩
  | goto l' =>
    obtain ⟨rfl, n, hI⟩ := hq
    obtain ⟨e₂, a₂, w₂, hq₂, harr₂⟩ := key n a₁ w₁ hI
    exact ⟨e₂, a₂, w₂, hq₂, .of_steps (.head step_scope (harr _ hg)) harr₂⟩
  | ret => exact ⟨_, a₁, w₁, hq, .of_steps (.one step_scope) harr⟩
  | panic ch => exact ⟨_, a₁, w₁, hq, .of_steps (.one step_scope) harr⟩
  | outgrown => exact ⟨_, a₁, w₁, hq, .of_steps (.one step_scope) harr⟩
theorem jump_ret {l : Nat} {J : Act → World → Prop} {Q : Exit → Act → World → Prop} {a : Act} {w : World} (h : Q .ret a w) : Exit.jump l J Q .ret a w := h
theorem jump_goto {l : Nat} {J : Act → World → Prop} {Q : Exit → Act → World → Prop} {a : Act} {w : World} (h : J a w) : Exit.jump l J Q (.goto l) a w := ⟨rfl, h⟩
/-- As many bits as Put puts. -/
def bitsOf (many : Int) : Nat := (min many 64).toNat
def InvPut (w : World) (L : Nat → Int) (n z b k : Nat) (a : Act) (wr : World) : Prop :=
  ∃ (v : Value) (m : Int), k = m.toNat ∧ k ≤ b ∧ m ≤ 64 ∧ wr.ownsRow w.heap.size 35 1 v (n + (b - k)) (nums .u8 (putL L n z b) (n + (b - k))) ∧ Below w.heap.size w wr ∧ a.tmps.size = 28 ∧ a.defers = [] ∧ slot a 1 = .int .u64 z ∧ slot a 7 = v ∧ slot a 8 = .int .i64 m
theorem nums_put (L : Nat → Int) (n z b : Nat) : nums .u8 L n = nums .u8 (putL L n z b) n := nums_congr fun i hi => by simp [putL, hi]
theorem and_bit (z j : Nat) (hz : z < 18446744073709551616) : bits .and .u64 ((z : Int) / 2 ^ j) 1 = (bitN z j : Nat) := by
  have h1 : z / 2 ^ j < 18446744073709551616 := Nat.lt_of_le_of_lt (Nat.div_le_self _ _) hz
  have h2 : ((z : Int) / 2 ^ j) = ((z / 2 ^ j : Nat) : Int) := by simp
  have h3 := bits_mask .u64 64 (by decide) (fun n hn hn' => by rw [IntKind.wrap_u64]; omega) 1 (by decide) ((z / 2 ^ j : Nat) : Int) (Int.natCast_nonneg _) (by rw [show ((2 : Int) ^ 64) = ((18446744073709551616 : Nat) : Int) from by decide]; exact_mod_cast h1)
  have h4 : ((2 : Int) ^ 1 - 1) = 1 := by decide
  rw [h4] at h3
  rw [h2, h3]
  unfold bitN
  omega
theorem put_bit (L : Nat → Int) (n z b j : Nat) (hz : z < 18446744073709551616) (hj : j + 1 ≤ b) : (1 + bits .and .u64 ((z : Int) / 2 ^ j) 1) % 256 = putL L n z b (n + (b - (j + 1))) := by
  have h1 := bitN_lt z j
  have h2 : ¬ n + (b - (j + 1)) < n := by omega
  have h3 : b - 1 - (n + (b - (j + 1)) - n) = j := by omega
  rw [and_bit z j hz]
  simp only [putL, h2, if_false, h3]
  omega
set_option maxHeartbeats 400000 in
theorem bitsPut (w : World) (ao : Option Addr) (n c : Nat) (L : Nat → Int) (z : Nat) (many : Int) (ha : Rd .u8 w ao n L) (hnil : ao = none → n = 0 ∧ c = 0) (hn : n ≤ 1000000) (hz : z < 18446744073709551616) :
    Calls Try.prog 93 #[.slice ao n c, .int .u64 z, .int .i64 many] w fun e w' => ∃ a, e = .returned (.slice a (n + bitsOf many) (n + bitsOf many)) ∧ Mine .u8 35 w.heap.size w' a (n + bitsOf many) (putL L n z (bitsOf many)) ∧ Below w.heap.size w w' := by
  have hb64 : bitsOf many ≤ 64 := by unfold bitsOf; omega
  obtain ⟨i0, hi, hz0, hz1, hz2⟩ := info_parts elemS
  replace ha := Lib.hid ha
  replace hnil := Lib.hid hnil
  have hbo : Hid (bitsOf many = (min many 64).toNat) := rfl
  go_enter Try.func93, Try.ntmps93
  go_wp2_with fail
  refine wp_scope_k 0 rfl (InvPut w L n z (bitsOf many)) ?_ ?_
  · intro k a wr hI J hJ
    obtain ⟨v, m, hkm, hk, hm64, hown, hb, hs', hd', k1', k7', k8'⟩ := hI
    rw [fr28 a hs' hd']; simp only [k1', k7', k8']; clear hs' hd' k1' k7' k8'
    by_cases hm : m ≤ 0
    · obtain rfl : k = 0 := by omega
      clear hkm
      simp only [Nat.sub_zero] at hown
      obtain ⟨al, cl, rfl, h1, h2, h3, hmine⟩ := own_mine hown
      replace h3 := Lib.hid h3
      replace hmine := Lib.hid hmine
      clear hown
      go_wp2
      refine jump_ret ?_
      go_ret
      exact ⟨al, rfl, hmine.out, hb⟩
    · obtain ⟨j, rfl⟩ : ∃ j : Nat, m = j + 1 := ⟨(m - 1).toNat, by omega⟩
      obtain rfl : k = j + 1 := by omega
      clear hkm
      have hown' := Lib.hid hown
      clear hown
      go_wp2_with (at_builtin; refine append_one rfl _ _ 47 rfl w.heap.size 35 i0 (.int .u8 0) 1 Try.underlying47 hi hz0 hz1 hz2 rfl _ _ _ rfl hown'.out _ rfl rfl (by omega) (by omega) hb.size ?_)
      intro g c w1 hown1 hg1 hb1
      have e1 : n + (bitsOf many - (j + 1)) + 1 = n + (bitsOf many - j) := by omega
      rw [put_bit L n z (bitsOf many) j hz hk, ← nums_succ, e1] at hown1
      rw [e1]
      have hb2 := hb.trans hb1
      replace hown1 := Lib.hid hown1
      clear e1 hb1 hg1 hown' hb
      go_wp2_with fail
      go_step3
      refine jump_goto (hJ j _ _ (by omega) ⟨_, (j : Int), by omega, by omega, by omega, hown1.out, hb2, by kernel_rfl, rfl, by kernel_rfl, by kernel_rfl, by kernel_rfl⟩)
  · intro J hJ
    have hJ' := Lib.hid hJ
    clear hJ
    go_wp2_with fail
    refine (cloneSyms _ _ _ _ L ha.out hnil.out (by omega)).mono ?_
    rintro e w1 ⟨v, rfl, hown, hb⟩
    rw [nums_put L n z (bitsOf many)] at hown
    have hown' := Lib.hid hown
    clear hown
    go_wp2_with fail
    case inr =>
      go_step3
      go_step
      go_step
      refine hJ'.out (bitsOf many) _ _ ⟨_, many, ?_, Nat.le_refl _, ?_, by simpa using hown'.out, hb, by kernel_rfl, rfl, by kernel_rfl, by kernel_rfl, by kernel_rfl⟩
      · have := hbo.out; omega
      · omega
    case inl =>
      go_step3
      go_step
      go_step
      refine hJ'.out (bitsOf many) _ _ ⟨_, 64, ?_, Nat.le_refl _, ?_, by simpa using hown'.out, hb, by kernel_rfl, rfl, by kernel_rfl, by kernel_rfl, by kernel_rfl⟩
      · have := hbo.out; omega
      · omega
end Go.Proofs.Ytmdohnbhogfopaa
/- Bits: Of, Turn: what they answer. -/
namespace Go.Proofs.Ytmdohnbhogfopaa
open Go.RowKit
set_option linter.unusedSimpArgs false
set_option linter.unusedVariables false
set_option maxRecDepth 100000
def InvOf (w : World) (ao : Option Addr) (n c : Nat) (L : Nat → Int) (k : Nat) (a : Act) (wr : World) : Prop :=
  ∃ (i : Nat) (al : Option Addr), i + k = n ∧ Mine .u8 35 w.heap.size wr al (8 * i) (ofL L) ∧ Below w.heap.size w wr ∧ a.tmps.size = 19 ∧ a.defers = [] ∧ slot a 3 = .slice al (8 * i) (8 * i) ∧ slot a 6 = .slice ao n c ∧ slot a 7 = .int .i64 n ∧ slot a 8 = .int .i64 i
theorem put_of (L : Nat → Int) (i j : Nat) (hj : j < 8 * i + 8) : putL (ofL L) (8 * i) (L i).toNat 8 j = ofL L j := by
  unfold putL
  split
  · rfl
  · have h1 : j / 8 = i := by omega
    have h2 : 8 - 1 - (j - 8 * i) = 7 - j % 8 := by omega
    simp only [ofL, h1, h2]
set_option maxHeartbeats 400000 in
theorem ofSyms (w : World) (ao : Option Addr) (n c : Nat) (L : Nat → Int) (ha : Rd .u8 w ao n L) (hL : ∀ i, i < n → 0 ≤ L i ∧ L i < 256) (hn : n ≤ 100000) :
    Calls Try.prog 91 #[.slice ao n c] w fun e w' => ∃ a, e = .returned (.slice a (8 * n) (8 * n)) ∧ Mine .u8 35 w.heap.size w' a (8 * n) (ofL L) ∧ Below w.heap.size w w' := by
  replace ha := Lib.hid ha
  replace hL := Lib.hid hL
  go_enter Try.func91, Try.ntmps91
  go_wp2_with fail
  refine wp_loop_k (InvOf w ao n c L) n ?_ ?_
  · exact ⟨0, none, by omega, Mine.nil _ _ _ _ _ _, Below.refl _ _, by kernel_rfl, rfl, by kernel_rfl, by kernel_rfl, by kernel_rfl, by kernel_rfl⟩
  · intro gk a wr hI K hK
    obtain ⟨i, al, hi, hmine, hb, hs', hd', k3', k6', k7', k8'⟩ := hI
    rw [fr19 a hs' hd']; simp only [k3', k6', k7', k8']; clear hs' hd' k3' k6' k7' k8'
    have hm := Lib.hid hmine
    by_cases hlt : i < n
    · obtain ⟨b, o, rfl, hc0⟩ := ha.out i hlt
      have hc := below_cell hc0 hb (World.block_lt_of_cell? w _ hc0)
      obtain ⟨z, hz, hz256⟩ : ∃ z : Nat, L i = z ∧ z < 256 := ⟨(L i).toNat, by have := hL.out i hlt; omega, by have := hL.out i hlt; omega⟩
      rw [hz] at hc
      have hz' := Lib.hid hz
      have hin : (i : Int) < n := by omega
      clear hmine hz hc0
      go_wp2_with fail
      refine (bitsPut wr al (8 * i) (8 * i) (ofL L) z 8 hm.out.rd hm.out.none (by omega) (by omega)).mono ?_
      rintro e w1 ⟨a1, rfl, hmine1, hb1⟩
      have hb2 := bfrom hb hb.size hb1
      have hm1 : Hid (Mine .u8 35 w.heap.size w1 a1 (8 * (i + 1)) (ofL L)) := (hmine1.mono hb.size).congr fun j hj => by
        have := hz'.out
        have e : z = (L i).toNat := by omega
        rw [e]
        exact put_of L i j (by have h8 : bitsOf 8 = 8 := by decide
                               rw [h8] at hj
                               omega)
      clear hmine1 hb1 hb
      go_wp2_with fail
      refine hK (n - (i + 1)) _ _ (by omega) ⟨i + 1, a1, by omega, hm1.out, hb2, by kernel_rfl, rfl, by kernel_rfl, by kernel_rfl, by kernel_rfl, ?_⟩
      show Value.int _ _ = Value.int _ _
      simp
    · obtain rfl : i = n := by omega
      have hn8 : 8 * i ≤ 8 * i := Nat.le_refl _
      clear hmine
      go_wp2
      go_ret
      exact ⟨al, rfl, hm.out, hb⟩
def InvTurn (w : World) (aa : Option Addr) (m ca : Nat) (al : Option Addr) (n : Nat) (L A : Nat → Int) (k : Nat) (a : Act) (wr : World) : Prop :=
  ∃ i : Nat, i + k = m ∧ Mine .u8 35 w.heap.size wr al n (turnL L A i) ∧ Below w.heap.size w wr ∧ a.tmps.size = 42 ∧ a.defers = [] ∧ slot a 5 = .slice al n n ∧ slot a 11 = .slice aa m ca ∧ slot a 12 = .int .i64 m ∧ slot a 13 = .int .i64 i
theorem turn_out (L A : Nat → Int) (n i : Nat) (h : ¬ (0 ≤ A i ∧ A i < n)) (j : Nat) (hj : j < n) : turnL L A i j = turnL L A (i + 1) j := by
  rw [turnL_step, if_neg (by omega)]
theorem turn_yes (B : Nat) (wr : World) (g n : Nat) (L A : Nat → Int) (i j : Nat) (h : Mine .u8 35 B wr (some ⟨g, 0, none⟩) n (turnL L A i)) (hj : A i = j) (hjn : j < n) (ht : turnL L A i j = 1 ∨ turnL L A i j = 2) :
    Mine .u8 35 B (wr.setCell ⟨g, j, none⟩ (.int .u8 ((3 - turnL L A i j) % 256))) (some ⟨g, 0, none⟩) n (turnL L A (i + 1)) := by
  refine h.set j hjn _ _ fun q hq => ?_
  have hw := (turnL_whole L A i j).1 ht
  rw [turnL_step]
  by_cases e : q = j
  · subst e
    rw [if_pos ⟨hj, hw⟩, if_pos rfl]
    omega
  · rw [if_neg (by omega), if_neg e]
theorem turn_not (B : Nat) (wr : World) (g n : Nat) (L A : Nat → Int) (i j : Nat) (h : Mine .u8 35 B wr (some ⟨g, 0, none⟩) n (turnL L A i)) (hj : A i = j) (h1 : ¬ turnL L A i j = 1) (h2 : ¬ turnL L A i j = 2) :
    Mine .u8 35 B wr (some ⟨g, 0, none⟩) n (turnL L A (i + 1)) := h.congr fun q hq => by
  have hw := turnL_whole L A i j
  rw [turnL_step, if_neg ?_]
  rintro ⟨e, hx⟩
  have : q = j := by omega
  subst this
  omega
set_option maxHeartbeats 1000000 in
theorem bitsTurn (w : World) (ao : Option Addr) (n c : Nat) (L : Nat → Int) (aa : Option Addr) (m ca : Nat) (A : Nat → Int) (ha : Rd .u8 w ao n L) (hA : Rd .i64 w aa m A) (hnil : ao = none → n = 0 ∧ c = 0) (hn : n ≤ 1000000) (hm : m ≤ 1000000) :
    Calls Try.prog 24 #[.slice ao n c, .slice aa m ca] w fun e w' => ∃ a, e = .returned (.slice a n n) ∧ Mine .u8 35 w.heap.size w' a n (turnL L A m) ∧ Below w.heap.size w w' := by
  replace ha := Lib.hid ha
  replace hA := Lib.hid hA
  replace hnil := Lib.hid hnil
  go_enter Try.func24, Try.ntmps24
  go_wp2_with fail
  refine (cloneSyms _ _ _ _ L ha.out hnil.out (by omega)).mono ?_
  rintro e w1 ⟨v, rfl, hown, hb⟩
  obtain ⟨al, cl, rfl, h1, h2, h3, hmine⟩ := own_mine hown
  replace hmine := Lib.hid (hmine.congr (L' := turnL L A 0) fun i _ => (turnL_zero L A i).symm)
  clear hown h3
  go_wp2
  refine wp_loop_k (InvTurn w aa m ca al n L A) m ?_ ?_
  · exact ⟨0, by omega, hmine.out, hb, by kernel_rfl, rfl, by kernel_rfl, by kernel_rfl, by kernel_rfl, by kernel_rfl⟩
  · intro gk a wr hI K hK
    clear hmine hb
    obtain ⟨i, hi, hmine, hb, hs', hd', k5', k11', k12', k13'⟩ := hI
    rw [fr42 a hs' hd']; simp only [k5', k11', k12', k13']; clear hs' hd' k5' k11' k12' k13'
    by_cases hlt : i < m
    · obtain ⟨b, o, rfl, hc0⟩ := hA.out i hlt
      have hc := below_cell hc0 hb (World.block_lt_of_cell? w _ hc0)
      have hin : (i : Int) < m := by omega
      by_cases hAi : 0 ≤ A i ∧ A i < n
      · obtain ⟨j, hj⟩ : ∃ j : Nat, A i = j := ⟨(A i).toNat, by omega⟩
        rw [hj] at hc
        have hjn : (j : Int) < n := by omega
        obtain ⟨g, rfl, hg, hgl, hcs, hfs⟩ := hmine.some (by omega)
        have hx := hcs j (by omega)
        have hf := hfs j
        replace hj := Lib.hid hj
        have hmine' := Lib.hid hmine
        have hyes := fun ht => Lib.hid (turn_yes w.heap.size wr g n L A i j hmine'.out hj.out (by omega) ht)
        have hno := fun h1 h2 => Lib.hid (turn_not w.heap.size wr g n L A i j hmine'.out hj.out h1 h2)
        generalize hT : turnL L A i j = t at *
        clear hT hAi hcs hfs hmine hc0
        by_cases h1 : t = 1
        · have e1 : (t == 1) = true := by simp [h1]
          have hfin := hyes (.inl h1)
          clear h1 hyes hno
          go_wp2
          refine hK (m - (i + 1)) _ _ (by omega) ⟨i + 1, by omega, hfin.out, hb.setCell hg _, by kernel_rfl, rfl, by kernel_rfl, by kernel_rfl, by kernel_rfl, ?_⟩
          show Value.int _ _ = Value.int _ _
          simp
        · have e1 : (t == 1) = false := by simp [h1]
          by_cases h2 : t = 2
          · have e2 : (t == 2) = true := by simp [h2]
            have hfin := hyes (.inr h2)
            clear h1 h2 hyes hno
            go_wp2
            refine hK (m - (i + 1)) _ _ (by omega) ⟨i + 1, by omega, hfin.out, hb.setCell hg _, by kernel_rfl, rfl, by kernel_rfl, by kernel_rfl, by kernel_rfl, ?_⟩
            show Value.int _ _ = Value.int _ _
            simp
          · have e2 : (t == 2) = false := by simp [h2]
            have hfin := hno h1 h2
            clear h1 h2 hyes hno
            go_wp2
            refine hK (m - (i + 1)) _ _ (by omega) ⟨i + 1, by omega, hfin.out, hb, by kernel_rfl, rfl, by kernel_rfl, by kernel_rfl, by kernel_rfl, ?_⟩
            show Value.int _ _ = Value.int _ _
            simp
      · have hfin := Lib.hid (hmine.congr (turn_out L A n i hAi))
        by_cases h0 : 0 ≤ A i
        · have h1 : (n : Int) ≤ A i := by omega
          clear hAi hmine hc0
          go_wp2
          refine hK (m - (i + 1)) _ _ (by omega) ⟨i + 1, by omega, hfin.out, hb, by kernel_rfl, rfl, by kernel_rfl, by kernel_rfl, by kernel_rfl, ?_⟩
          show Value.int _ _ = Value.int _ _
          simp
        · have h1 : A i < 0 := by omega
          clear hAi hmine hc0
          go_wp2
          refine hK (m - (i + 1)) _ _ (by omega) ⟨i + 1, by omega, hfin.out, hb, by kernel_rfl, rfl, by kernel_rfl, by kernel_rfl, by kernel_rfl, ?_⟩
          show Value.int _ _ = Value.int _ _
          simp
    · obtain rfl : i = m := by omega
      have hmine' := Lib.hid hmine
      clear hmine
      go_wp2_with fail
      go_ret
      exact ⟨al, rfl, hmine'.out, hb⟩
end Go.Proofs.Ytmdohnbhogfopaa
