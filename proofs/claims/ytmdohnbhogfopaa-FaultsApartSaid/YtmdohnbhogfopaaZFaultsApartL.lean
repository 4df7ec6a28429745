/- FaultsApart: what holds of spells and links, and a mouth among other things. -/
import Derived.Test.YtmdohnbhogfopaaZFaultsAgainW
namespace Go.Proofs.Ytmdohnbhogfopaa
open Go.RowKit Go.Maps
set_option linter.unusedSimpArgs false
set_option linter.unusedVariables false
set_option maxRecDepth 100000
theorem fr205 (a : Act) (hs : a.tmps.size = 205) (hd : a.defers = []) : a = ⟨#[slot a 0, slot a 1, slot a 2, slot a 3, slot a 4, slot a 5, slot a 6, slot a 7, slot a 8, slot a 9, slot a 10, slot a 11, slot a 12, slot a 13, slot a 14, slot a 15, slot a 16, slot a 17, slot a 18, slot a 19, slot a 20, slot a 21, slot a 22, slot a 23, slot a 24, slot a 25, slot a 26, slot a 27, slot a 28, slot a 29, slot a 30, slot a 31, slot a 32, slot a 33, slot a 34, slot a 35, slot a 36, slot a 37, slot a 38, slot a 39, slot a 40, slot a 41, slot a 42, slot a 43, slot a 44, slot a 45, slot a 46, slot a 47, slot a 48, slot a 49, slot a 50, slot a 51, slot a 52, slot a 53, slot a 54, slot a 55, slot a 56, slot a 57, slot a 58, slot a 59, slot a 60, slot a 61, slot a 62, slot a 63, slot a 64, slot a 65, slot a 66, slot a 67, slot a 68, slot a 69, slot a 70, slot a 71, slot a 72, slot a 73, slot a 74, slot a 75, slot a 76, slot a 77, slot a 78, slot a 79, slot a 80, slot a 81, slot a 82, slot a 83, slot a 84, slot a 85, slot a 86, slot a 87, slot a 88, slot a 89, slot a 90, slot a 91, slot a 92, slot a 93, slot a 94, slot a 95, slot a 96, slot a 97, slot a 98, slot a 99, slot a 100, slot a 101, slot a 102, slot a 103, slot a 104, slot a 105, slot a 106, slot a 107, slot a 108, slot a 109, slot a 110, slot a 111, slot a 112, slot a 113, slot a 114, slot a 115, slot a 116, slot a 117, slot a 118, slot a 119, slot a 120, slot a 121, slot a 122, slot a 123, slot a 124, slot a 125, slot a 126, slot a 127, slot a 128, slot a 129, slot a 130, slot a 131, slot a 132, slot a 133, slot a 134, slot a 135, slot a 136, slot a 137, slot a 138, slot a 139, slot a 140, slot a 141, slot a 142, slot a 143, slot a 144, slot a 145, slot a 146, slot a 147, slot a 148, slot a 149, slot a 150, slot a 151, slot a 152, slot a 153, slot a 154, slot a 155, slot a 156, slot a 157, slot a 158, slot a 159, slot a 160, slot a 161, slot a 162, slot a 163, slot a 164, slot a 165, slot a 166, slot a 167, slot a 168, slot a 169, slot a 170, slot a 171, slot a 172, slot a 173, slot a 174, slot a 175, slot a 176, slot a 177, slot a 178, slot a 179, slot a 180, slot a 181, slot a 182, slot a 183, slot a 184, slot a 185, slot a 186, slot a 187, slot a 188, slot a 189, slot a 190, slot a 191, slot a 192, slot a 193, slot a 194, slot a 195, slot a 196, slot a 197, slot a 198, slot a 199, slot a 200, slot a 201, slot a 202, slot a 203, slot a 204], []⟩ := frame_of 205 a hs hd
/-- Is any of the first j spells one at that place? -/
def anyS (F : FaultC) (l t : Int) (j : Nat) : Bool := (F.S.take j).any (inSp F.nd l t)
theorem anyS_zero (F : FaultC) (l t : Int) : anyS F l t 0 = false := by simp [anyS]
theorem anyS_more {F : FaultC} {l t : Int} {j : Nat} {s : SpellC} (h : F.S[j]? = some s) : anyS F l t (j + 1) = (anyS F l t j || inSp F.nd l t s) := by
  unfold anyS
  rw [List.take_add_one, h]
  simp
theorem says_same (F : FaultC) (T : Int × Int → Option PostC) (G : Int → Option Int) (t l : Int) (p : PostC) (ht : 0 ≤ t ∧ t ≤ 1099511627776) (h : isF F l = false ∨ anyS F l t F.S.length = false) : saysP F T G t l p = p := by
  unfold saysP
  by_cases h1 : isF F l = false
  · rw [if_pos h1]
  · have h1' : isF F l = true := by simpa using h1
    have h2 : toldB F t l = true := by
      unfold toldB
      rw [h1', decide_eq_true ht]
      rfl
    rcases h with h | h
    · exact absurd h h1
    · have h3 : spellF F t l = noSpell := by
        unfold anyS at h
        rw [List.take_length] at h
        unfold spellF
        have : F.S.find? (inSp F.nd l t) = none := by
          rw [List.find?_eq_none]
          intro s hs hq
          rw [List.any_eq_false] at h
          exact h s hs hq
        rw [this]
        rfl
      rw [if_neg h1, h2, h3]
      unfold kindP noSpell
      simp
/-- How many of the first k links are its own. -/
def cntI (F : FaultC) (k : Int) : Int := if F.nd = -1 then (if 0 ≤ F.lk ∧ F.lk < k then 1 else 0) else if k ≤ 4 * F.nd then 0 else if k ≤ 4 * F.nd + 4 then k - 4 * F.nd else 4
theorem cntI_zero {F : FaultC} (hF : FaultOk F) : cntI F 0 = 0 := by
  have := hF.nd
  unfold cntI
  repeat' split
  all_goals omega
theorem cntI_more {F : FaultC} (hF : FaultOk F) (k : Int) (hk : 0 ≤ k ∧ k < 4 * F.m) : cntI F (k + 1) = cntI F k + if isF F k = true then 1 else 0 := by
  have h1 := hF.nd
  have h2 := hF.lk
  have h3 : isF F k = (if F.nd = -1 then decide (k = F.lk) else decide (k / 4 = F.nd)) := by
    unfold isF
    rw [decide_eq_true hk, Bool.true_and]
  rw [h3]
  unfold cntI
  by_cases h4 : F.nd = -1
  · simp only [h4, if_true]
    by_cases h5 : k = F.lk
    · simp only [h5, decide_true, if_true]
      rw [if_pos (by omega), if_neg (by omega)]
      rfl
    · simp only [h5, decide_false, Bool.false_eq_true, if_false]
      by_cases h6 : 0 ≤ F.lk ∧ F.lk < k
      · rw [if_pos (by omega), if_pos h6]
        rfl
      · rw [if_neg (by omega), if_neg h6]
        rfl
  · simp only [h4, if_false]
    by_cases h5 : k / 4 = F.nd
    · simp only [h5, decide_true, if_true]
      repeat' split
      all_goals omega
    · simp only [h5, decide_false, Bool.false_eq_true, if_false]
      repeat' split
      all_goals omega
theorem cntI_range {F : FaultC} (hF : FaultOk F) (k : Int) (hk : 0 ≤ k ∧ k ≤ 4 * F.m) : 0 ≤ cntI F k ∧ cntI F k ≤ 4 := by
  have := hF.nd
  unfold cntI
  repeat' split
  all_goals omega
theorem cntI_all {F : FaultC} (hF : FaultOk F) : (F.nd = -1 ∧ F.lk = -1 ∧ cntI F (4 * F.m) = 0) ∨ (F.nd = -1 ∧ 0 ≤ F.lk ∧ cntI F (4 * F.m) = 1) ∨ (0 ≤ F.nd ∧ cntI F (4 * F.m) = 4) := by
  have h1 := hF.nd
  have h2 := hF.lk
  unfold cntI
  by_cases h4 : F.nd = -1
  · by_cases h5 : F.lk = -1
    · refine .inl ⟨h4, h5, ?_⟩
      rw [if_pos h4, if_neg (by omega)]
    · refine .inr (.inl ⟨h4, by omega, ?_⟩)
      rw [if_pos h4, if_pos (by omega)]
  · refine .inr (.inr ⟨by omega, ?_⟩)
    rw [if_neg h4, if_neg (by omega)]
    split <;> omega
/-- What a link is, as the law asks it. -/
theorem own_said {F : FaultC} (hF : FaultOk F) (k : Int) (hk : 0 ≤ k ∧ k < 4 * F.m) : isF F k = if 0 ≤ F.nd then (k / 4 == F.nd) else (k == F.lk) := by
  have h1 := hF.nd
  unfold isF
  rw [decide_eq_true hk, Bool.true_and]
  by_cases h4 : F.nd = -1
  · rw [if_pos h4, if_neg (by omega)]
    rfl
  · rw [if_neg h4, if_pos (by omega)]
    rfl
/-- The mouth, the fault's box. -/
structure ApartAt (w : World) (F : FaultC) (u : Value) (pm bt bl c : Nat) (W : World) : Prop where
  bel : Below w.heap.size w W
  box : Blk W w.heap.size #[.int .i64 F.nd, .int .i64 F.lk, u] 34
  ge : w.heap.size ≤ bt ∧ w.heap.size ≤ bl
  m : ∃ T G, Mo W pm bt bl c F T G []
theorem ApartAt.below {w : World} {F : FaultC} {u : Value} {pm bt bl c : Nat} {W W' : World} (h : ApartAt w F u pm bt bl c W) (hb : Below W.heap.size W W') : ApartAt w F u pm bt bl c W' := by
  obtain ⟨T, G, h1⟩ := h.m
  exact ⟨bthen h.bel hb, h.box.below hb h.box.lt, h.ge, T, G, h1.below hb⟩
theorem ApartAt.is {w : World} {F : FaultC} (hF : FaultOk F) {u : Value} {pm bt bl c : Nat} {W : World} (h : ApartAt w F u pm bt bl c W) (l : Int) : Calls Try.prog 33 #[.pointer (some ⟨pm, 0, none⟩), .int .i64 l] W fun e w' => e = .returned (.bool (isF F l)) ∧ W = w' := by
  obtain ⟨T, G, h1⟩ := h.m
  exact h1.is hF l
theorem ApartAt.says {w : World} {F : FaultC} (hF : FaultOk F) {u : Value} {pm bt bl c : Nat} {W : World} (h : ApartAt w F u pm bt bl c W) (hc : c < 100000) (t l : Int) (ht : 0 ≤ t ∧ t ≤ 1099511627776) (p : PostC) (hp : PostOk p) (v : Value) (hw : WordAt 0 W v p.R) :
    Calls Try.prog 17 #[.pointer (some ⟨pm, 0, none⟩), .int .i64 t, .int .i64 l, .agg #[.int .u8 p.s, v]] W fun e W' => ∃ (r : PostC) (a : Option Addr) (n k : Nat), e = .returned (.agg #[.int .u8 r.s, .slice a n k]) ∧ WordAt 0 W' (.slice a n k) r.R ∧ (isF F l = false ∨ anyS F l t F.S.length = false → r = p) ∧ ApartAt w F u pm bt bl (c + 1) W' := by
  obtain ⟨T, G, h1⟩ := h.m
  have hS := saysM h1 hF (by omega) t l p hp v hw
  refine hS.mono ?_
  rintro e W' ⟨v', rfl, ⟨a, n, k, rfl⟩, h5, h6, hT⟩
  have hge := h.ge
  exact ⟨_, a, n, k, rfl, h5, fun hq => says_same F T G t l p ht hq, hT.below h.bel h.bel.size (by simp; omega), h1.blks hT h.box, h.ge, _, _, h6⟩
end Go.Proofs.Ytmdohnbhogfopaa
