/- slices.Equal of bytes; texts of bytes: whatever they answer. -/
import Derived.Test.YtbfbpagfmhdblaaProg
import Derived.Test.YtbfbpagfmhdblaaApp
import Derived.Test.YtbfbpagfmhdblaaHelpBytes
namespace Go.Proofs.Ytbfbpagfmhdblaa
open Go.RowKit
set_option linter.unusedSimpArgs false
set_option linter.unusedVariables false
set_option maxRecDepth 100000
def alikeB (A B : Nat → Int) : Nat → Bool
  | 0 => true
  | i + 1 => alikeB A B i && decide (A i = B i)
theorem alikeB_true {A B : Nat → Int} : ∀ {n : Nat}, alikeB A B n = true ↔ ∀ i, i < n → A i = B i
  | 0 => by simp [alikeB]
  | n + 1 => by
    simp only [alikeB, Bool.and_eq_true, alikeB_true, decide_eq_true_eq]
    constructor
    · rintro ⟨h, e⟩ i hi
      rcases Nat.lt_succ_iff_lt_or_eq.1 hi with h1 | rfl
      · exact h i h1
      · exact e
    · exact fun h => ⟨fun i hi => h i (by omega), h n (by omega)⟩
theorem alikeB_false {A B : Nat → Int} {n i : Nat} (hi : i < n) (h : A i ≠ B i) : alikeB A B n = false := by
  cases h2 : alikeB A B n with
  | false => rfl
  | true => exact absurd (alikeB_true.1 h2 i hi) h
theorem bytesStr_data (L : Nat → Int) : ∀ n, (bytesStr L n).data.toList = (List.range n).map fun i => UInt8.ofNat (L i).toNat
  | 0 => rfl
  | n + 1 => by
    have ih := bytesStr_data L n
    have e : bytesStr L (n + 1) = (bytesStr L n).push (UInt8.ofNat (L n).toNat) := by
      simp [bytesStr, List.range_succ, List.foldl_append]
    rw [e, List.range_succ, List.map_append, ← ih]
    simp [ByteArray.push]
theorem byte_inj {x y : Int} (hx : 0 ≤ x ∧ x < 256) (hy : 0 ≤ y ∧ y < 256) (h : UInt8.ofNat x.toNat = UInt8.ofNat y.toNat) : x = y := by
  have := congrArg UInt8.toNat h
  simp at this
  omega
/-- Bytes as texts are the same just if they are the same. -/
theorem bytesStr_eq {A B : Nat → Int} {n m : Nat} (hA : ∀ i, i < n → 0 ≤ A i ∧ A i < 256) (hB : ∀ i, i < m → 0 ≤ B i ∧ B i < 256) : (bytesStr A n = bytesStr B m) ↔ (decide (n = m) && alikeB A B n) = true := by
  constructor
  · intro h
    have h2 : (List.range n).map (fun i => UInt8.ofNat (A i).toNat) = (List.range m).map fun i => UInt8.ofNat (B i).toNat := by rw [← bytesStr_data, ← bytesStr_data, h]
    have h3 : n = m := by simpa using congrArg List.length h2
    subst h3
    simp only [decide_true, Bool.true_and]
    refine alikeB_true.2 fun i hi => byte_inj (hA i hi) (hB i hi) ?_
    have := congrArg (·[i]?) h2
    simpa [hi] using this
  · intro h
    simp only [Bool.and_eq_true, decide_eq_true_eq] at h
    obtain ⟨rfl, h⟩ := h
    have h2 := alikeB_true.1 h
    unfold bytesStr
    have e : (List.range n).map A = (List.range n).map B := List.map_congr_left fun i hi => h2 i (by simpa using hi)
    rw [e]
def InvEqB (w : World) (aa ab : Option Addr) (n ca cb : Nat) (A B : Nat → Int) (k : Nat) (a : Act) (wr : World) : Prop :=
  ∃ i q : Nat, i + k = n ∧ wr = w.drewN q ∧ alikeB A B i = true ∧ a.tmps.size = 26 ∧ a.defers = [] ∧ slot a 0 = .slice aa n ca ∧ slot a 1 = .slice ab n cb ∧ slot a 12 = .int .i64 n ∧ slot a 13 = .int .i64 i
set_option maxHeartbeats 400000 in
theorem equalBytes (w : World) (aa ab : Option Addr) (n m ca cb : Nat) (A B : Nat → Int) (ha : Rd .u8 w aa n A) (hb : Rd .u8 w ab m B) (hn : n ≤ 1000000000) :
    Calls Try.prog 91 #[.slice aa n ca, .slice ab m cb] w fun e w' => e = .returned (.bool (decide (n = m) && alikeB A B n)) ∧ ∃ q, w' = w.drewN q := by
  replace ha := Lib.hid ha
  replace hb := Lib.hid hb
  by_cases hnm : n = m
  · subst hnm
    have er : (decide (n = n) && alikeB A B n) = alikeB A B n := by simp
    rw [er]
    clear er
    go_enter Try.func91, Try.ntmps91
    go_wp2
    refine wp_loop_k (InvEqB w aa ab n ca cb A B) n ?_ ?_
    · exact ⟨0, 0, by omega, rfl, rfl, by kernel_rfl, rfl, by kernel_rfl, by kernel_rfl, by kernel_rfl, by kernel_rfl⟩
    · intro gk a wr hI K hK
      obtain ⟨i, q, hi, rfl, hal, hs', hd', k0', k1', k12', k13'⟩ := hI
      rw [fr26 a hs' hd']; simp only [k0', k1', k12', k13']; clear hs' hd' k0' k1' k12' k13'
      replace hal := Lib.hid hal
      by_cases hlt : i < n
      · obtain ⟨b, o, rfl, hc⟩ := ha.out i hlt
        obtain ⟨b', o', rfl, hc'⟩ := hb.out i hlt
        have hin : (i : Int) < n := by omega
        have hwi : IntKind.i64.wrap (i : Int) = i := by rw [IntKind.wrap_i64]; omega
        by_cases hab : A i = B i
        · have hne : (A i != B i) = false := by simp [hab]
          replace hal := Lib.hid (show alikeB A B (i + 1) = true by simp [alikeB, hal.out, hab])
          clear hab
          go_wp2_with fail
          go_quiet (fail)
          go_wp2
          refine hK (n - (i + 1)) _ _ (by omega) ⟨i + 1, _, by omega, rfl, hal.out, by kernel_rfl, rfl, by kernel_rfl, by kernel_rfl, by kernel_rfl, ?_⟩
          show Value.int _ _ = Value.int _ _
          simp
        · have hne : (A i != B i) = true := by simp [hab]
          have hal2 := Lib.hid (alikeB_false hlt hab)
          clear hab
          go_wp2_with fail
          go_quiet (fail)
          go_wp2
          go_ret
          exact ⟨by rw [hal2.out]; rfl, _, World.drewN_drewN _ _ _⟩
      · obtain rfl : i = n := by omega
        go_wp2
        go_ret
        exact ⟨by rw [hal.out]; rfl, _, rfl⟩
  · have er : (decide (n = m) && alikeB A B n) = false := by simp [hnm]
    rw [er]
    have hne : ((n : Int) != (m : Int)) = true := by simp; omega
    clear er
    go_enter Try.func91, Try.ntmps91
    go_wp2
    go_ret
    exact ⟨rfl, 0, rfl⟩
end Go.Proofs.Ytbfbpagfmhdblaa
