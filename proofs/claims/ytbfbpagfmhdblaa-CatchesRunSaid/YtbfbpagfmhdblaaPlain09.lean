/- Catches: plain laws of what a catch gives. -/
import Derived.Test.YtbfbpagfmhdblaaSpec09
import Derived.Test.YtbfbpagfmhdblaaFramesTurnL
namespace Go.Proofs.Ytbfbpagfmhdblaa
open Go.RowKit
set_option linter.unusedSimpArgs false
set_option linter.unusedVariables false
set_option maxRecDepth 100000
theorem knownI_one {x : Int} (h : x = 1 ∨ x = 2) : knownI x = x := by unfold knownI; rw [if_pos h]
theorem unlike_none {N F : Nat → Int} : ∀ {n : Nat}, unlikeI N F n = -1 ↔ ∀ i, i < n → N i = F i ∧ N i ≠ 0
  | 0 => by simp [unlikeI]
  | n + 1 => by
    rw [unlikeI]
    by_cases h : unlikeI N F n = -1
    · by_cases h2 : N n ≠ F n ∨ N n = 0
      · rw [if_pos ⟨h, h2⟩]
        constructor
        · intro e; omega
        · intro e
          have := e n (by omega)
          rcases h2 with h2 | h2
          · exact absurd this.1 h2
          · exact absurd h2 this.2
      · rw [if_neg (fun e => h2 e.2)]
        have h3 := (unlike_none (n := n)).1 h
        refine ⟨fun _ i hi => ?_, fun _ => h⟩
        by_cases hi' : i < n
        · exact h3 i hi'
        · obtain rfl : i = n := by omega
          exact ⟨Decidable.byContradiction fun e => h2 (.inl e), fun e => h2 (.inr e)⟩
    · rw [if_neg (fun e => h e.1)]
      exact ⟨fun e => absurd e h, fun e => absurd ((unlike_none (n := n)).2 fun i hi => e i (by omega)) h⟩
theorem cut_none {N F : Nat → Int} : ∀ {n : Nat}, cutB N F n = false ↔ ∀ i, i < n → i < 112 → bodyI N F i ≠ 0
  | 0 => by simp [cutB]
  | n + 1 => by
    rw [cutB, Bool.or_eq_false_iff, cut_none (n := n)]
    constructor
    · rintro ⟨h1, h2⟩ i hi hi2
      by_cases hi' : i < n
      · exact h1 i hi' hi2
      · obtain rfl : i = n := by omega
        intro e
        simp [hi2, e] at h2
    · intro h
      refine ⟨fun i hi => h i (by omega), ?_⟩
      by_cases h1 : n < 112
      · simp [h n (by omega) h1]
      · simp [h1]
theorem getE_congr {A B : Nat → Int} (h : ∀ i, i < 14 → A i = B i) : getE A 14 = getE B 14 ∧ getV A 14 = getV B 14 := by
  have hok : okS A 14 = okS B 14 := by
    rw [Bool.eq_iff_iff]
    simp only [okS, Bool.and_eq_true, alikeB_true]
    have hp : ∀ i, putS A (14 - 4) i = putS B (14 - 4) i := fun i => putS_congr (fun j hj => h j (by omega)) i
    constructor
    · rintro ⟨h1, h2⟩
      exact ⟨h1, fun i hi => by rw [← hp, h2 i hi, h i hi]⟩
    · rintro ⟨h1, h2⟩
      exact ⟨h1, fun i hi => by rw [hp, h2 i hi, h i hi]⟩
  have e : getE A 14 = getE B 14 := by simp only [getE, hok, h 0 (by omega)]
  have h2 : sqOf A = sqOf B := by
    unfold sqOf
    rw [numU_congr (B := fun i => B (2 + i)) (fun i hi => h (2 + i) (by omega))]
  have h3 : vlOf A = vlOf B := by
    unfold vlOf
    rw [numU_congr (B := fun i => B (6 + i)) (fun i hi => h (6 + i) (by omega))]
  exact ⟨e, by simp only [getV, e, h2, h3, h 0 (by omega), h 1 (by omega)]⟩
theorem bytesL_congr {A B : Nat → Int} {n : Nat} (h : ∀ i, i < 8 * n → A i = B i) : ∀ i, i < n → bytesL A i = bytesL B i :=
  fun i hi => numL_congr fun j hj => h (8 * i + j) (by omega)
/-- The symbols of a frame with a good tail. -/
theorem frSL_one {o k st sq v : Int} : ∀ p, p < 114 → frSL o k st sq v true false p = 1 ∨ frSL o k st sq v true false p = 2 := fun i hi => by
  rw [frSL, appL]
  split
  · unfold ofL bitN; omega
  · obtain rfl | rfl : i = 112 ∨ i = 113 := by omega
    · simp [tailSL, at2, symI]
    · simp [tailSL, at2, symI]
theorem frSL_112 {o k st sq v : Int} : frSL o k st sq v true false 112 = 2 := by rw [frSL, appL, if_neg (by omega)]; rfl
theorem frSL_113 {o k st sq v : Int} : frSL o k st sq v true false 113 = 1 := by rw [frSL, appL, if_neg (by omega)]; rfl
theorem body_frame {o k st sq v : Int} (hm : mayB o k = true) (hst : 0 ≤ st ∧ st < 256) (hsq : 0 ≤ sq ∧ sq < 4294967296) (hv : 0 ≤ v ∧ v < 4294967296) {L : Nat → Int} (hL : ∀ i, i < 112 → L i = frSL o k st sq v true false i) :
    getE (bytesL L) 14 = 0 ∧ getV (bytesL L) 14 = frV o k st sq v ∧ bytesL L 0 % 16 = o := by
  have hb : ∀ i, i < 14 → bytesL L i = frL o k st sq v i := fun i hi => by
    have : bytesL L i = bytesL (ofL (frL o k st sq v)) i := numL_congr fun j hj => by
      show L (8 * i + j) = _
      rw [hL _ (by omega), frSL, appL, if_pos (by omega)]
    rw [this, ofL_num _ _ (frL_byte hm hst i hi)]
  obtain ⟨g1, g2⟩ := got_of hm hsq hv hb
  have hr := mayB_in hm
  refine ⟨g1, g2, ?_⟩
  have h2 : getV (bytesL L) 14 = frV (bytesL L 0 % 16) (bytesL L 0 / 16) (bytesL L 1) (sqOf (bytesL L)) (vlOf (bytesL L)) := by simp [getV, g1]
  rw [h2] at g2
  simp [frV] at g2
  exact g2.1
theorem high_iff {o : Int} {N F : Nat → Int} : highQ o N F = true ↔ isB o N F = true ∧ (∀ i, i < 113 → N i = F i ∧ N i ≠ 0) ∧ N 112 = 2 ∧ N 113 = 1 ∧ F 113 = 1 := by
  simp only [highQ, wholeQ, Bool.and_eq_true, decide_eq_true_eq, unlike_none]
  constructor
  · rintro ⟨⟨h1, h2, h3, h4⟩, h5, h6⟩
    exact ⟨h1, h2, h3, h5, h6⟩
  · rintro ⟨h1, h2, h3, h5, h6⟩
    exact ⟨⟨h1, h2, h3, by rw [← (h2 112 (by omega)).1, h3]⟩, h5, h6⟩
theorem high_uncut {o : Int} {N F : Nat → Int} (h : highQ o N F = true) : cutB N F 114 = false := by
  obtain ⟨h1, h2, h3⟩ := high_iff.1 h
  refine cut_none.2 fun i hi hi2 => ?_
  have := h2 i (by omega)
  simp [bodyI, this.2]
/-- Is a catch high, behind 114 pairs? -/
def hiQ (o : Int) (N F : Nat → Int) : Bool := !cutB N F 114 && highQ o N F
theorem hiQ_eq {o : Int} {N F : Nat → Int} : hiQ o N F = highQ o N F := by
  unfold hiQ
  cases h : highQ o N F with
  | false => simp
  | true => simp [high_uncut h]
theorem cut_mono {N F : Nat → Int} {n m : Nat} (h : cutB N F m = false) (hn : n ≤ m) : cutB N F n = false := by
  cases h1 : cutB N F n with
  | false => rfl
  | true => rw [cutB_mono h1 hn] at h; exact absurd h (by simp)
/-- A catch of a good frame's symbols, twice. -/
theorem run_good {o k st sq v : Int} (hm : mayB o k = true) (hst : 0 ≤ st ∧ st < 256) (hsq : 0 ≤ sq ∧ sq < 4294967296) (hv : 0 ≤ v ∧ v < 4294967296) {N F : Nat → Int} (hN : ∀ i, i < 114 → N i = frSL o k st sq v true false i) (hF : ∀ i, i < 114 → F i = frSL o k st sq v true false i) :
    highQ o N F = true ∧ getV (bytesL (bodyI N F)) 14 = frV o k st sq v ∧ ∀ i, i < 114 → outI o N F i = frSL o k st sq v true false i := by
  have hN0 : ∀ i, i < 114 → N i ≠ 0 := fun i hi => by rw [hN i hi]; have := frSL_one (o := o) (k := k) (st := st) (sq := sq) (v := v) i hi; omega
  have hB : ∀ i, i < 112 → bodyI N F i = frSL o k st sq v true false i := fun i hi => by rw [bodyI, if_pos (hN0 i (by omega)), hN i (by omega)]
  obtain ⟨g1, g2, g3⟩ := body_frame hm hst hsq hv hB
  have hh : highQ o N F = true := high_iff.2 ⟨by simp [isB, g1, g3], fun i hi => ⟨by rw [hN i (by omega), hF i (by omega)], hN0 i (by omega)⟩, by rw [hN _ (by omega), frSL_112], by rw [hN _ (by omega), frSL_113], by rw [hF _ (by omega), frSL_113]⟩
  have hw : wholeQ o N F = true := by simp only [highQ, Bool.and_eq_true] at hh; exact hh.1
  have hc := high_uncut hh
  refine ⟨hh, g2, fun i hi => ?_⟩
  have h1 : ¬ (114 ≤ i ∨ cutB N F (i + 1) = true) := by
    rw [cut_mono hc (by omega)]
    simp; omega
  rw [outI, if_neg h1]
  rcases Nat.lt_or_ge i 112 with h2 | h2
  · rw [if_pos h2]; exact hB i h2
  · obtain rfl | rfl : i = 112 ∨ i = 113 := by omega
    · rw [if_neg (by omega), if_pos rfl, if_pos hw, frSL_112]
    · rw [if_neg (by omega), if_neg (by omega), if_pos hh, frSL_113]
/-- A catch of a good frame's symbols, far alone. -/
theorem run_none {o k st sq v : Int} (hm : mayB o k = true) (hst : 0 ≤ st ∧ st < 256) (hsq : 0 ≤ sq ∧ sq < 4294967296) (hv : 0 ≤ v ∧ v < 4294967296) {N F : Nat → Int} (hN : ∀ i, i < 114 → N i = 0) (hF : ∀ i, i < 114 → F i = frSL o k st sq v true false i) :
    highQ o N F = false ∧ (∀ i, i < 112 → outI o N F i = frSL o k st sq v true false i) ∧ outI o N F 112 = 1 ∧ outI o N F 113 = 2 := by
  have hB : ∀ i, i < 112 → bodyI N F i = frSL o k st sq v true false i := fun i hi => by rw [bodyI, if_neg (by rw [hN i (by omega)]; simp), hF i (by omega)]
  have hu : ¬ unlikeI N F 113 = -1 := fun e => absurd (hN 0 (by omega)) (unlike_none.1 e 0 (by omega)).2
  have hw : wholeQ o N F = false := by simp [wholeQ, hu]
  have hh : highQ o N F = false := by simp [highQ, hw]
  have hc : cutB N F 114 = false := cut_none.2 fun i hi hi2 => by rw [hB i hi2]; have := frSL_one (o := o) (k := k) (st := st) (sq := sq) (v := v) i hi; omega
  have h1 : ∀ i, i < 114 → ¬ (114 ≤ i ∨ cutB N F (i + 1) = true) := fun i hi => by
    rw [cut_mono hc (by omega)]
    simp; omega
  refine ⟨hh, fun i hi => ?_, ?_, ?_⟩
  · rw [outI, if_neg (h1 i (by omega)), if_pos hi, hB i hi]
  · rw [outI, if_neg (h1 112 (by omega)), if_neg (by omega), if_pos rfl, if_neg (by simp [hw])]
  · rw [outI, if_neg (h1 113 (by omega)), if_neg (by omega), if_neg (by omega), if_neg (by simp [hh])]
/-- The known symbols of a list of n. -/
def knL (X : Nat → Int) (n i : Nat) : Int := knownI (if i < n then X i else 0)
theorem knL_in (X : Nat → Int) (n i : Nat) : knL X n i = 0 ∨ knL X n i = 1 ∨ knL X n i = 2 := knownI_in _
theorem knL_one {X : Nat → Int} {n i : Nat} (hi : i < n) (h : X i = 1 ∨ X i = 2) : knL X n i = X i := by rw [knL, if_pos hi, knownI_one h]
theorem knL_some {X : Nat → Int} {n i : Nat} (h : knL X n i ≠ 0) : i < n ∧ knL X n i = X i ∧ (X i = 1 ∨ X i = 2) := by
  unfold knL at h ⊢
  by_cases hi : i < n
  · rw [if_pos hi] at h ⊢
    unfold knownI at h ⊢
    split at h
    · rename_i h1; exact ⟨hi, by rw [if_pos h1], h1⟩
    · exact absurd rfl h
  · rw [if_neg hi] at h
    exact absurd (by decide) h
/-- A catch is high just where both lists were the symbols of one frame of the owner's, with a good tail. -/
theorem high_read {o : Int} {X Y : Nat → Int} : highQ o (knL X 114) (knL Y 114) = true ↔ (∀ i, i < 114 → X i = Y i) ∧ readE X 114 = 0 ∧ (X 112 = 2 ∧ X 113 ≠ 2) ∧ bytesL X 0 % 16 = o := by
  rw [high_iff]
  constructor
  · rintro ⟨h1, h2, h3, h4, h5⟩
    have hx : ∀ i, i < 114 → knL X 114 i = X i ∧ (X i = 1 ∨ X i = 2) := fun i hi => by
      rcases Nat.lt_or_ge i 113 with h | h
      · exact (knL_some (h2 i h).2).2
      · obtain rfl : i = 113 := by omega
        exact (knL_some (by rw [h4]; decide)).2
    have hy : ∀ i, i < 114 → knL Y 114 i = Y i := fun i hi => by
      rcases Nat.lt_or_ge i 113 with h | h
      · exact (knL_some (by rw [← (h2 i h).1]; exact (h2 i h).2)).2.1
      · obtain rfl : i = 113 := by omega
        exact (knL_some (by rw [h5]; decide)).2.1
    have hw : readOk X 114 = true := by simp [readOk, wholeL_iff.2 fun i hi => (hx i hi).2]
    have hB : ∀ i, i < 112 → bodyI (knL X 114) (knL Y 114) i = X i := fun i hi => by rw [bodyI, if_pos (h2 i (by omega)).2, (hx i (by omega)).1]
    have hbb := bytesL_congr (n := 14) (A := bodyI (knL X 114) (knL Y 114)) (B := X) (fun i hi => hB i (by omega))
    obtain ⟨c1, c2⟩ := getE_congr hbb
    simp only [isB, Bool.and_eq_true, decide_eq_true_eq] at h1
    rw [c1, hbb 0 (by omega)] at h1
    refine ⟨fun i hi => ?_, by rw [readE, if_pos hw, h1.1], ⟨by rw [← (hx 112 (by omega)).1, h3], by rw [← (hx 113 (by omega)).1, h4]; decide⟩, h1.2⟩
    rcases Nat.lt_or_ge i 113 with h | h
    · rw [← (hx i hi).1, ← hy i hi, (h2 i h).1]
    · obtain rfl : i = 113 := by omega
      rw [← (hx 113 hi).1, ← hy 113 hi, h4, h5]
  · rintro ⟨h1, h2, ⟨h3, h4⟩, h5⟩
    have hw : readOk X 114 = true := by
      cases h : readOk X 114 with
      | true => rfl
      | false => rw [readE, h] at h2; simp at h2
    have hx := wholeL_iff.1 (show wholeL X 114 = true by simp [readOk] at hw; exact hw)
    have hk : ∀ i, i < 114 → knL X 114 i = X i := fun i hi => knL_one hi (hx i hi)
    have hk2 : ∀ i, i < 114 → knL Y 114 i = X i := fun i hi => by rw [knL_one hi (by rw [← h1 i hi]; exact hx i hi), h1 i hi]
    have h0 : ∀ i, i < 114 → X i ≠ 0 := fun i hi => by have := hx i hi; omega
    have hB : ∀ i, i < 112 → bodyI (knL X 114) (knL Y 114) i = X i := fun i hi => by rw [bodyI, if_pos (by rw [hk i (by omega)]; exact h0 i (by omega)), hk i (by omega)]
    have hbb := bytesL_congr (n := 14) (A := bodyI (knL X 114) (knL Y 114)) (B := X) (fun i hi => hB i (by omega))
    obtain ⟨c1, c2⟩ := getE_congr hbb
    rw [readE, if_pos hw] at h2
    have h6 : X 113 = 1 := by have := hx 113 (by omega); omega
    exact ⟨by simp [isB, c1, h2, hbb 0 (by omega), h5], fun i hi => ⟨by rw [hk i (by omega), hk2 i (by omega)], by rw [hk i (by omega)]; exact h0 i (by omega)⟩, by rw [hk _ (by omega), h3], by rw [hk _ (by omega), h6], by rw [hk2 _ (by omega), h6]⟩
/-- What a high catch has given. -/
theorem high_out {o : Int} {X Y : Nat → Int} (h : highQ o (knL X 114) (knL Y 114) = true) : (∀ i, i < 114 → outI o (knL X 114) (knL Y 114) i = X i) ∧ getV (bytesL (bodyI (knL X 114) (knL Y 114))) 14 = readV X 114 := by
  obtain ⟨h1, h2, ⟨h3, h4⟩, h5⟩ := high_read.1 h
  have hc := high_uncut h
  have hw : readOk X 114 = true := by
    cases h : readOk X 114 with
    | true => rfl
    | false => rw [readE, h] at h2; simp at h2
  have hx := wholeL_iff.1 (show wholeL X 114 = true by simp [readOk] at hw; exact hw)
  have hk : ∀ i, i < 114 → knL X 114 i = X i := fun i hi => knL_one hi (hx i hi)
  have hB : ∀ i, i < 112 → bodyI (knL X 114) (knL Y 114) i = X i := fun i hi => by rw [bodyI, if_pos (by rw [hk i (by omega)]; have := hx i (by omega); omega), hk i (by omega)]
  have hbb := bytesL_congr (n := 14) (A := bodyI (knL X 114) (knL Y 114)) (B := X) (fun i hi => hB i (by omega))
  have hwq : wholeQ o (knL X 114) (knL Y 114) = true := by simp only [highQ, Bool.and_eq_true] at h; exact h.1
  refine ⟨fun i hi => ?_, by rw [readV, if_pos hw, (getE_congr hbb).2]⟩
  have h1' : ¬ (114 ≤ i ∨ cutB (knL X 114) (knL Y 114) (i + 1) = true) := by
    rw [cut_mono hc (by omega)]
    simp; omega
  rw [outI, if_neg h1']
  rcases Nat.lt_or_ge i 112 with h2 | h2
  · rw [if_pos h2]; exact hB i h2
  · obtain rfl | rfl : i = 112 ∨ i = 113 := by omega
    · rw [if_neg (by omega), if_pos rfl, if_pos hwq, h3]
    · have := hx 113 (by omega)
      rw [if_neg (by omega), if_neg (by omega), if_pos h]
      omega
/-- What another catch has given ends with no good tail. -/
theorem low_out {o : Int} {N F : Nat → Int} (h : highQ o N F = false) : outI o N F 113 ≠ 1 := by
  unfold outI
  split
  · decide
  · rw [if_neg (by omega), if_neg (by omega), h]
    decide
/-- Of what another catch has given no good frame is read. -/
theorem low_read {o : Int} {N F : Nat → Int} (h : highQ o N F = false) : ¬ (readE (outI o N F) 114 = 0 ∧ outI o N F 113 ≠ 2) := by
  rintro ⟨h1, h2⟩
  have hw : readOk (outI o N F) 114 = true := by
    cases h : readOk (outI o N F) 114 with
    | true => rfl
    | false => rw [readE, h] at h1; simp at h1
  have hx := wholeL_iff.1 (show wholeL (outI o N F) 114 = true by simp [readOk] at hw; exact hw) 113 (by omega)
  have := low_out h
  omega
end Go.Proofs.Ytbfbpagfmhdblaa
