/- FramesBack: the plain laws; SameBytes of any two lists. -/
import Derived.Test.YtmdohnbhogfopaaZFramesDI
namespace Go.Proofs.Ytmdohnbhogfopaa
open Go.RowKit
set_option linter.unusedSimpArgs false
set_option linter.unusedVariables false
set_option maxRecDepth 100000
theorem numU_tail (s : Nat) (hs : s < 4294967296) : numU (tailB s) 4 = s := by
  have e0 : (2 : Nat) ^ (8 * (3 - 0)) = 16777216 := by decide
  have e1 : (2 : Nat) ^ (8 * (3 - 1)) = 65536 := by decide
  have e2 : (2 : Nat) ^ (8 * (3 - 2)) = 256 := by decide
  have e3 : (2 : Nat) ^ (8 * (3 - 3)) = 1 := by decide
  simp only [numU, tailB, e0, e1, e2, e3]
  omega
theorem numU_congr {A B : Nat → Int} : ∀ {n : Nat}, (∀ i, i < n → A i = B i) → numU A n = numU B n
  | 0, _ => rfl
  | n + 1, h => by simp only [numU]; rw [numU_congr (n := n) fun i hi => h i (by omega), h n (by omega)]
/-- What was put is got. -/
theorem got_of {L : Nat → Int} {o k st sq v : Int} (hm : mayB o k = true) (hsq : 0 ≤ sq ∧ sq < 4294967296) (hv : 0 ≤ v ∧ v < 4294967296) (h : ∀ i, i < 14 → L i = frL o k st sq v i) :
    getE L 14 = 0 ∧ getV L 14 = frV o k st sq v := by
  have hr := mayB_in hm
  have hh : ∀ i, i < 10 → L i = headL (16 * k + o) st sq.toNat v.toNat i := fun i hi => by rw [h i (by omega), frL, putS, if_pos hi]
  have h0 : L 0 = 16 * k + o := hh 0 (by omega)
  have h1 : L 1 = st := hh 1 (by omega)
  have h2 : sqOf L = sq := by
    have : numU (fun i => L (2 + i)) 4 = numU (tailB sq.toNat) 4 := numU_congr fun i hi => by
      show L (2 + i) = _
      rw [hh (2 + i) (by omega), headL, appL, if_pos (by omega), appL, if_neg (by omega)]; congr 1; omega
    rw [sqOf, this, numU_tail _ (by omega)]
    omega
  have h3 : vlOf L = v := by
    have : numU (fun i => L (6 + i)) 4 = numU (tailB v.toNat) 4 := numU_congr fun i hi => by
      show L (6 + i) = _
      rw [hh (6 + i) (by omega), headL, appL, if_neg (by omega)]; congr 1; omega
    rw [vlOf, this, numU_tail _ (by omega)]
    omega
  have hok : okS L 14 = true := by
    simp only [okS, Bool.and_eq_true, decide_eq_true_eq]
    refine ⟨by omega, alikeB_true.2 fun i hi => ?_⟩
    rw [putS_congr (fun j hj => hh j hj), h i hi, frL]
  have e1 : L 0 % 16 = o := by omega
  have e2 : L 0 / 16 = k := by omega
  have hE : getE L 14 = 0 := by simp [getE, hok, e1, e2, hm]
  exact ⟨hE, by rw [getV, if_pos hE, e1, e2, h1, h2, h3]⟩
theorem put_alike {o k st sq v o' k' st' sq' v' : Int} (hm : mayB o k = true) (hsq : 0 ≤ sq ∧ sq < 4294967296) (hv : 0 ≤ v ∧ v < 4294967296) (hm' : mayB o' k' = true) (hsq' : 0 ≤ sq' ∧ sq' < 4294967296) (hv' : 0 ≤ v' ∧ v' < 4294967296) :
    alikeB (frL o k st sq v) (frL o' k' st' sq' v') 14 = decide (o = o' ∧ k = k' ∧ st = st' ∧ sq = sq' ∧ v = v') := by
  rw [Bool.eq_iff_iff, alikeB_true, decide_eq_true_eq]
  constructor
  · intro h
    have h1 := (got_of hm hsq hv (L := frL o k st sq v) fun i _ => rfl).2
    have h2 := (got_of hm' hsq' hv' (L := frL o k st sq v) h).2
    rw [h1] at h2
    simpa [frV] using h2
  · rintro ⟨rfl, rfl, rfl, rfl, rfl⟩ i _
    rfl
theorem frSL_read {o k st sq v : Int} {wh un : Bool} (hm : mayB o k = true) (hst : 0 ≤ st ∧ st < 256) (hsq : 0 ≤ sq ∧ sq < 4294967296) (hv : 0 ≤ v ∧ v < 4294967296) :
    readE (frSL o k st sq v wh un) 114 = 0 ∧ readV (frSL o k st sq v wh un) 114 = frV o k st sq v ∧ readT (frSL o k st sq v wh un) 114 = tailV wh un := by
  have hb : ∀ i, i < 14 → bytesL (frSL o k st sq v wh un) i = frL o k st sq v i := fun i hi => by
    have : bytesL (frSL o k st sq v wh un) i = bytesL (ofL (frL o k st sq v)) i := numL_congr fun j hj => by
      show frSL o k st sq v wh un (8 * i + j) = _
      rw [frSL, appL, if_pos (by omega)]
    rw [this, ofL_num _ _ (frL_byte hm hst i hi)]
  have hw : wholeL (frSL o k st sq v wh un) 114 = true := wholeL_iff.2 fun i hi => by
    rw [frSL, appL]
    split
    · unfold ofL bitN; omega
    · obtain rfl | rfl : i = 112 ∨ i = 113 := by omega
      · cases wh <;> simp [tailSL, at2, symI]
      · cases un <;> simp [tailSL, at2, symI]
  have hr : readOk (frSL o k st sq v wh un) 114 = true := by simp [readOk, hw]
  obtain ⟨g1, g2⟩ := got_of hm hsq hv hb
  refine ⟨by rw [readE, if_pos hr, g1], by rw [readV, if_pos hr, g2], ?_⟩
  rw [readT, if_pos hr]
  have t0 : frSL o k st sq v wh un 112 = symI wh := by rw [frSL, appL, if_neg (by omega)]; rfl
  have t1 : frSL o k st sq v wh un 113 = symI un := by rw [frSL, appL, if_neg (by omega)]; rfl
  rw [t0, t1]
  cases wh <;> cases un <;> simp [symI]
theorem sameBytesG (w : World) (aa ab : Option Addr) (n ca cb : Nat) (A B : Nat → Int) (ha : Rd .u8 w aa n A) (hb : Rd .u8 w ab n B) (hA : ∀ i, i < n → 0 ≤ A i ∧ A i < 256) (hB : ∀ i, i < n → 0 ≤ B i ∧ B i < 256) :
    Calls Try.prog 45 #[.slice aa n ca, .slice ab n cb] w fun e w' => e = .returned (.bool (alikeB A B n)) ∧ ∃ q, w' = w.drewN q := by
  have e1 := run_bytesStr w aa n ca A ha
  have e2 := run_bytesStr w ab n cb B hb
  have h1 := bytesStr_eq (n := n) (m := n) hA hB
  have h3 : ((bytesStr A n).toList == (bytesStr B n).toList) = alikeB A B n := by
    cases hal : alikeB A B n with
    | true => rw [h1.2 (by simp [hal])]; simp
    | false =>
      rw [beq_eq_false_iff_ne]
      intro e
      have h2 : bytesStr A n = bytesStr B n := by
        rw [ByteArray.toList_eq, ByteArray.toList_eq] at e
        exact ByteArray.ext (Array.toList_inj.1 e)
      have := h1.1 h2
      simp [hal] at this
  clear ha hb hA hB h1
  generalize alikeB A B n = r at *
  generalize bytesStr A n = S at *
  generalize bytesStr B n = T at *
  go_enter Try.func45, Try.ntmps45
  go_wp2
  go_ret
  exact ⟨rfl, 0, rfl⟩
end Go.Proofs.Ytmdohnbhogfopaa
