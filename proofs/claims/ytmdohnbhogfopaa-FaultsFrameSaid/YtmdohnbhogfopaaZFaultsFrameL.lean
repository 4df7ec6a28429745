/- FaultsFrame: what is said of a tick's post, by each of the four kinds; the mouth among other things. -/
import Derived.Test.YtmdohnbhogfopaaZLivC
import Derived.Test.YtmdohnbhogfopaaZFramesBackL
import Derived.Maps.AppendAt
namespace Go.Proofs.Ytmdohnbhogfopaa
open Go.RowKit Go.Maps
set_option linter.unusedSimpArgs false
set_option linter.unusedVariables false
set_option maxRecDepth 100000
theorem fr205 (a : Act) (hs : a.tmps.size = 205) (hd : a.defers = []) : a = ⟨#[slot a 0, slot a 1, slot a 2, slot a 3, slot a 4, slot a 5, slot a 6, slot a 7, slot a 8, slot a 9, slot a 10, slot a 11, slot a 12, slot a 13, slot a 14, slot a 15, slot a 16, slot a 17, slot a 18, slot a 19, slot a 20, slot a 21, slot a 22, slot a 23, slot a 24, slot a 25, slot a 26, slot a 27, slot a 28, slot a 29, slot a 30, slot a 31, slot a 32, slot a 33, slot a 34, slot a 35, slot a 36, slot a 37, slot a 38, slot a 39, slot a 40, slot a 41, slot a 42, slot a 43, slot a 44, slot a 45, slot a 46, slot a 47, slot a 48, slot a 49, slot a 50, slot a 51, slot a 52, slot a 53, slot a 54, slot a 55, slot a 56, slot a 57, slot a 58, slot a 59, slot a 60, slot a 61, slot a 62, slot a 63, slot a 64, slot a 65, slot a 66, slot a 67, slot a 68, slot a 69, slot a 70, slot a 71, slot a 72, slot a 73, slot a 74, slot a 75, slot a 76, slot a 77, slot a 78, slot a 79, slot a 80, slot a 81, slot a 82, slot a 83, slot a 84, slot a 85, slot a 86, slot a 87, slot a 88, slot a 89, slot a 90, slot a 91, slot a 92, slot a 93, slot a 94, slot a 95, slot a 96, slot a 97, slot a 98, slot a 99, slot a 100, slot a 101, slot a 102, slot a 103, slot a 104, slot a 105, slot a 106, slot a 107, slot a 108, slot a 109, slot a 110, slot a 111, slot a 112, slot a 113, slot a 114, slot a 115, slot a 116, slot a 117, slot a 118, slot a 119, slot a 120, slot a 121, slot a 122, slot a 123, slot a 124, slot a 125, slot a 126, slot a 127, slot a 128, slot a 129, slot a 130, slot a 131, slot a 132, slot a 133, slot a 134, slot a 135, slot a 136, slot a 137, slot a 138, slot a 139, slot a 140, slot a 141, slot a 142, slot a 143, slot a 144, slot a 145, slot a 146, slot a 147, slot a 148, slot a 149, slot a 150, slot a 151, slot a 152, slot a 153, slot a 154, slot a 155, slot a 156, slot a 157, slot a 158, slot a 159, slot a 160, slot a 161, slot a 162, slot a 163, slot a 164, slot a 165, slot a 166, slot a 167, slot a 168, slot a 169, slot a 170, slot a 171, slot a 172, slot a 173, slot a 174, slot a 175, slot a 176, slot a 177, slot a 178, slot a 179, slot a 180, slot a 181, slot a 182, slot a 183, slot a 184, slot a 185, slot a 186, slot a 187, slot a 188, slot a 189, slot a 190, slot a 191, slot a 192, slot a 193, slot a 194, slot a 195, slot a 196, slot a 197, slot a 198, slot a 199, slot a 200, slot a 201, slot a 202, slot a 203, slot a 204], []⟩ := frame_of 205 a hs hd
def FF (sd fr kd : Int) : FaultC := ⟨4, -1, 6, [⟨fr, 1000, 0, kd, sd⟩]⟩
theorem FF_ok (sd fr kd : Int) (hs : 0 ≤ sd ∧ sd < 18446744073709551616) (hf : 0 ≤ fr ∧ fr < 256) (hk : 0 ≤ kd ∧ kd < 256) : FaultOk (FF sd fr kd) := ⟨by simp [FF], by simp [FF], by simp [FF], by simp [FF], fun s h => by
  simp [FF] at h
  subst h
  exact ⟨wfI _ (by simp only; omega) (by simp only; omega), rfl, rfl, wfR .u8 _ 0 255 (by decide) (by decide) (by simp only; omega), wfR .u64 _ 0 18446744073709551615 (by decide) (by decide) (by simp only; omega)⟩⟩
def sayF (sd fr kd t : Int) (p : PostC) : PostC := if t < fr then p else kindP (FF sd fr kd) (fun _ => none) ⟨fr, 1000, 0, kd, sd⟩ t 6 p
theorem FF_says (sd fr kd t : Int) (hf : 0 ≤ fr) (ht : 0 ≤ t ∧ t < 1000) (hk : kd ≠ 4) (T : Int × Int → Option PostC) (G : Int → Option Int) (p : PostC) : saysP (FF sd fr kd) T G t 6 p = sayF sd fr kd t p := by
  have h1 : isF (FF sd fr kd) 6 = true := by unfold isF FF; rfl
  have h2 : toldB (FF sd fr kd) t 6 = true := by
    unfold toldB
    rw [h1, decide_eq_true (by omega)]
    rfl
  have h3 : spellF (FF sd fr kd) t 6 = if t < fr then noSpell else ⟨fr, 1000, 0, kd, sd⟩ := by
    unfold spellF FF
    simp only [List.find?_cons, List.find?_nil]
    by_cases q : t < fr
    · have e : inSp (-1) 6 t ⟨fr, 1000, 0, kd, sd⟩ = false := by
        unfold inSp
        have : decide (fr ≤ t ∧ t < 1000) = false := by simp; omega
        simp only [this, Bool.false_and]
      rw [e, if_pos q]
      rfl
    · have e : inSp (-1) 6 t ⟨fr, 1000, 0, kd, sd⟩ = true := by
        unfold inSp
        have : decide (fr ≤ t ∧ t < 1000) = true := by simp; omega
        simp only [this, Bool.true_and]
        rfl
      rw [e, if_neg q]
      rfl
  unfold saysP sayF
  rw [h1, h2, h3]
  simp only [Bool.true_eq_false, if_false]
  by_cases q : t < fr
  · rw [if_pos q, if_pos q]
    unfold kindP noSpell
    simp
  · rw [if_neg q, if_neg q]
    unfold kindP
    simp only [hk, if_false]
/-- The kinds in their order. -/
def kdOf (k : Nat) : Int := if k = 0 then 8 else if k = 1 then 2 else if k = 2 then 5 else 6
def sameB (k i : Nat) : Bool := decide (k < 2) || (decide (k = 2) && !decide (i = 1)) || (decide (k = 3) && decide (i = 1))
theorem xor_ne (n : Int) (hn : 0 ≤ n ∧ n < 256) : bits .xor .u32 n 1 ≠ n := by
  obtain ⟨m, rfl⟩ : ∃ m : Nat, n = m := ⟨n.toNat, by omega⟩
  have hm : m < 256 := by omega
  have : ∀ m : Nat, m < 256 → bits .xor .u32 (m : Int) 1 ≠ (m : Int) := by
    intro m hm
    have h : ((List.range 256).all fun m => bits .xor .u32 (m : Int) 1 != (m : Int)) = true := by kernel_rfl
    have := List.all_eq_true.1 h m (by simpa using hm)
    simpa using this
  exact this m hm
theorem xor_ne0 : bits .xor .u32 0 1 ≠ 0 := xor_ne 0 (by omega)
theorem sameL_ne {h h' : List Value} (k : HeldOk h) (k' : HeldOk h') (e : h ≠ h') : sameL h h' = false := by
  cases q : sameL h h' with
  | false => rfl
  | true => exact absurd ((sameL_iff k k').1 q) e
theorem lie_ne (n d : Int) (hn : 0 ≤ n ∧ n < 256) : sameL (lieH d (rowN n).hd) (rowN n).hd = false := by
  have hk := (rowN_ok n hn).hd
  refine sameL_ne (lieH_ok hk d) hk fun e => ?_
  have h7 : (lieH d (rowN n).hd)[7]? = some (.int .u32 (bits .xor .u32 n 1)) := rfl
  rw [e] at h7
  have h7' : (rowN n).hd[7]? = some (.int .u32 n) := rfl
  rw [h7'] at h7
  simp only [Option.some.injEq, Value.int.injEq, true_and] at h7
  exact xor_ne n hn h7.symm
theorem forge_ne (n : Int) (hn : 0 ≤ n ∧ n < 256) : sameL (forgeH (rowN n).hd) (rowN n).hd = false := by
  have hk := (rowN_ok n hn).hd
  refine sameL_ne (forgeH_ok hk) hk fun e => ?_
  have h13 : (forgeH (rowN n).hd)[13]? = some (.int .u32 (bits .xor .u32 0 1)) := rfl
  rw [e] at h13
  have h13' : (rowN n).hd[13]? = some (.int .u32 0) := rfl
  rw [h13'] at h13
  simp only [Option.some.injEq, Value.int.injEq, true_and] at h13
  exact xor_ne0 h13.symm
/-- What holds of what the k-th says of a post, from its spell's beginning on. -/
structure SaidK (sd fr : Int) (k : Nat) (t n : Int) (r : PostC) : Prop where
  fine : RowsFine r.R
  len : r.R.length = 4
  row : ∀ i : Nat, i < 4 → ∃ x, r.R[i]? = some x ∧ x.tab = (rowN n).tab ∧ x.hd.head? = (rowN n).hd.head? ∧ sameL x.hd (rowN n).hd = sameB k i
  sym : 1 < k → r.s = 1 + n % 2
  frame : k = 0 → r.s = frameS sd fr t
  turn : k = 1 → r.s = 1 + n % 2 ∨ r.s = turnS (1 + n % 2)
theorem rep4 (n : Int) (i : Nat) (hi : i < 4) : (postC n).R[i]? = some (rowN n) := by
  unfold postC
  rw [List.getElem?_replicate, if_pos hi]
theorem rowsSame (n : Int) (hn : 0 ≤ n ∧ n < 256) (k : Nat) (hk : k < 2) (i : Nat) (hi : i < 4) : ∃ x, (postC n).R[i]? = some x ∧ x.tab = (rowN n).tab ∧ x.hd.head? = (rowN n).hd.head? ∧ sameL x.hd (rowN n).hd = sameB k i :=
  ⟨_, rep4 n i hi, rfl, rfl, by rw [sameL_self (rowN_ok n hn).hd]; simp [sameB, hk]⟩
theorem saidK (sd fr : Int) (k : Nat) (hk : k < 4) (t n : Int) (hn : 0 ≤ n ∧ n < 256) (ht : ¬ t < fr) : SaidK sd fr k t n (sayF sd fr (kdOf k) t (postC n)) := by
  have hp := postC_ok n hn
  have hl4 : (postC n).R.length = 4 := by simp [postC]
  unfold sayF
  rw [if_neg ht]
  obtain rfl | rfl | rfl | rfl : k = 0 ∨ k = 1 ∨ k = 2 ∨ k = 3 := by omega
  · have e : kindP (FF sd fr (kdOf 0)) (fun _ => none) ⟨fr, 1000, 0, kdOf 0, sd⟩ t 6 (postC n) = ⟨frameS sd fr t, (postC n).R⟩ := by simp [kindP, kdOf]
    rw [e]
    exact ⟨hp.fine, hl4, rowsSame n hn 0 (by omega), fun h => by omega, fun _ => rfl, fun h => by omega⟩
  · have e : kindP (FF sd fr (kdOf 1)) (fun _ => none) ⟨fr, 1000, 0, kdOf 1, sd⟩ t 6 (postC n) = ⟨if numI sd t 6 0 % 4 = 0 then turnS (postC n).s else (postC n).s, (postC n).R⟩ := by simp [kindP, kdOf]
    rw [e]
    refine ⟨hp.fine, hl4, rowsSame n hn 1 (by omega), fun h => by omega, fun h => by omega, fun _ => ?_⟩
    simp only
    split
    · exact .inr rfl
    · exact .inl rfl
  · have e : kindP (FF sd fr (kdOf 2)) (fun _ => none) ⟨fr, 1000, 0, kdOf 2, sd⟩ t 6 (postC n) = ⟨(postC n).s, (postC n).R.mapIdx (lieR 6 sd)⟩ := by simp [kindP, kdOf]
    rw [e]
    refine ⟨hp.fine.mapIdx (fun i r hr => lieR_ok hr _ _ _) (fun i r => by unfold lieR; split <;> rfl), by simpa using hl4, fun i hi => ?_, fun _ => rfl, fun h => by omega, fun h => by omega⟩
    refine ⟨lieR 6 sd i (rowN n), by rw [List.getElem?_mapIdx, rep4 n i hi]; rfl, by unfold lieR; split <;> rfl, ?_, ?_⟩
    · unfold lieR
      split <;> rfl
    · unfold lieR sameB
      by_cases h1 : i = 1
      · rw [if_pos (by omega)]
        simpa [h1] using lie_ne n (sd % 1000) hn
      · rw [if_neg (by omega), sameL_self (rowN_ok n hn).hd]
        simp [h1]
  · have e : kindP (FF sd fr (kdOf 3)) (fun _ => none) ⟨fr, 1000, 0, kdOf 3, sd⟩ t 6 (postC n) = ⟨(postC n).s, (postC n).R.mapIdx (forgeR 6)⟩ := by simp [kindP, kdOf]
    rw [e]
    refine ⟨hp.fine.mapIdx (fun i r hr => forgeR_ok hr _ _) (fun i r => by unfold forgeR; split <;> rfl), by simpa using hl4, fun i hi => ?_, fun _ => rfl, fun h => by omega, fun h => by omega⟩
    refine ⟨forgeR 6 i (rowN n), by rw [List.getElem?_mapIdx, rep4 n i hi]; rfl, by unfold forgeR; split <;> rfl, ?_, ?_⟩
    · unfold forgeR
      split <;> rfl
    · unfold forgeR sameB
      by_cases h1 : i = 1
      · rw [if_pos (by omega), sameL_self (rowN_ok n hn).hd]
        simp [h1]
      · rw [if_neg (by omega)]
        simpa [h1] using forge_ne n hn
/-- One row of a word is a word. -/
theorem WordAt.sub {w : World} {ad : Addr} {n cap : Nat} {R : List RowC} (h : WordAt 0 w (.slice (some ad) n cap) R) {i : Nat} {r : RowC} (hr : R[i]? = some r) {m : Nat} (hm : 1 ≤ m ∧ m ≤ cap) : WordAt 0 w (.slice (some (ad.add (i * 57))) 1 m) [r] := by
  rcases h with ⟨h, _⟩ | ⟨ad', cap', h1, h2, h3, h4, h5⟩
  · cases h
  · simp only [Value.slice.injEq, Option.some.injEq] at h1
    obtain ⟨rfl, rfl, rfl⟩ := h1
    refine .inr ⟨_, m, rfl, hm.1, by omega, Nat.zero_le _, fun j x hx => ?_⟩
    match j, hx with
    | 0, hx =>
      simp at hx
      subst hx
      have := h5 i r hr
      rw [add_add', Nat.zero_mul, Nat.add_zero]
      exact this
theorem ownsRow_keep {w w' : World} {B : Nat} {E : TypeId} {v : Value} {n z : Nat} {xs : List Value} (h : w.ownsRow B E z v n xs) (k : ∀ g c, B ≤ g → Blk w g c E → Blk w' g c E) : w'.ownsRow B E z v n xs := by
  refine ⟨h.1, ?_⟩
  rcases h.2 with h3 | ⟨g, cap, cur, h3, h4, h5, h6⟩
  · exact .inl h3
  · exact .inr ⟨g, cap, cur, h3, h4, k g cur h4 h5, h6⟩
end Go.Proofs.Ytmdohnbhogfopaa
