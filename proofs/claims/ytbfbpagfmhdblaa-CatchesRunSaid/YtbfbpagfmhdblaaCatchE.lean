/- Catches: a catch by what came; one pair more. -/
import Derived.Test.YtbfbpagfmhdblaaCatchD
namespace Go.Proofs.Ytbfbpagfmhdblaa
open Go.RowKit
set_option linter.unusedSimpArgs false
set_option linter.unusedVariables false
set_option maxRecDepth 100000
/-- What takes the next pair, behind n. -/
def nextV (b : Nat) (N F : Nat → Int) (n : Nat) : Value :=
  if cutB N F n = true then (if lenB N F n = 112 then tailF b else firstF b)
  else if n < 112 then firstF b else if n = 112 then tailF b else if n = 113 then lastF b else .nilFunc
/-- A catch behind n pairs. -/
structure CatchAt (w : World) (b : Nat) (v : Value) (o : Int) (N F : Nat → Int) (n : Nat) : Prop where
  ct : Ct w b o (nextV b N F n) v n (unlikeI N F n) (cutB N F n) (decide (113 ≤ n) && (!cutB N F n && wholeQ o N F)) (decide (114 ≤ n) && (!cutB N F n && highQ o N F))
  own : w.ownsRow 0 77 1 v (lenB N F n) (nums .u8 (bodyI N F) (lenB N F n))
theorem lenB_le {N F : Nat → Int} : ∀ n, lenB N F n ≤ n ∧ lenB N F n ≤ 112
  | 0 => by simp [lenB]
  | n + 1 => by
    have := lenB_le (N := N) (F := F) n
    simp only [lenB]
    split <;> omega
theorem unNext_is {N F : Nat → Int} {n : Nat} {x y : Int} (hx : knownI x = N n) (hy : knownI y = F n) : unNext (unlikeI N F n) n (knownI x) (knownI y) = unlikeI N F (n + 1) := by
  rw [hx, hy]
  rfl
theorem touchS {w w' : World} {b : Nat} {v : Value} (h : Touch [b] w w') : Touch (catchS b v) w w' := h.mono (fun k hk => catchS_mem.2 (.inl (by simpa using hk)))
/-- The blocks of a catch that has taken a pair. -/
def Moved (w : World) (v v' : Value) : Prop := v'.ownBlock = v.ownBlock ∨ ∃ g, v'.ownBlock = some g ∧ w.heap.size ≤ g
theorem catchStep (w : World) (b : Nat) (v : Value) (o : Int) (N F : Nat → Int) (n : Nat) (x y : Int) (hn : n < 114) (hN : ∀ i, N i = 0 ∨ N i = 1 ∨ N i = 2) (hF : ∀ i, F i = 0 ∨ F i = 1 ∨ F i = 2) (hx : knownI x = N n) (hy : knownI y = F n) (h : CatchAt w b v o N F n) :
    Calls Try.prog 45 #[.pointer (some ⟨b, 0, none⟩), .int .u8 x, .int .u8 y] w fun e w' =>
      e = .returned (.int .u8 (outI o N F n)) ∧ ∃ v', CatchAt w' b v' o N F (n + 1) ∧ Touch (catchS b v) w w' ∧ Moved w v v' := by
  have hct := h.ct
  have hown := h.own
  have hU := unNext_is (N := N) (F := F) hx hy
  cases hc : cutB N F n with
  | true =>
    have hc1 : cutB N F (n + 1) = true := cutB_mono hc (Nat.le_succ n)
    have hl : lenB N F (n + 1) = lenB N F n := by simp [lenB, hc]
    have hnv : nextV b N F (n + 1) = nextV b N F n := by simp [nextV, hc, hc1, hl]
    have ho : outI o N F n = 0 := by simp [outI, hc1]
    obtain ⟨f, hf⟩ : ∃ f, nextV b N F n = .func (.func f) #[.pointer (some ⟨b, 0, none⟩)] #[] := by
      simp only [nextV, hc, if_true]
      split
      · exact ⟨_, rfl⟩
      · exact ⟨_, rfl⟩
    rw [hc, hf] at hct
    simp only [Bool.not_true, Bool.false_and, Bool.and_false] at hct
    refine (stepCut w b o f _ v n (unlikeI N F n) false false x y ⟨by omega, by omega⟩ hct).mono ?_
    rintro e w' ⟨rfl, h2, ht⟩
    rw [ho]
    refine ⟨rfl, v, ⟨?_, ?_⟩, touchS ht, .inl rfl⟩
    · rw [hnv, hf, hc1, ← hU]
      simp only [Bool.not_true, Bool.false_and, Bool.and_false]
      exact h2
    · rw [hl]
      exact own_touch hown ht (fun k hk hm => own_ne hown h.ct (by decide) (by rw [hk]; simpa using hm))
  | false =>
    rcases Nat.lt_or_ge n 112 with h1 | h1
    · have hl : lenB N F n = n := by rw [lenB_full hc]; omega
      have hl1 : lenB N F (n + 1) = n + 1 := by simp [lenB, hc]; omega
      have hc1 : cutB N F (n + 1) = decide (bodyI N F n = 0) := by simp [cutB, hc, h1]
      have hnv : nextV b N F n = firstF b := by simp [nextV, hc, h1]
      have hnv1 : nextV b N F (n + 1) = if n + 1 = 112 then tailF b else firstF b := by
        unfold nextV
        rw [hl1]
        by_cases h3 : n + 1 = 112
        · simp [h3]
        · have h4 : n + 1 < 112 := by omega
          simp [h3, h4]
      have ho : outI o N F n = bodyI N F n := by
        unfold outI
        rw [hc1]
        have h3 : ¬ 114 ≤ n := by omega
        by_cases h4 : bodyI N F n = 0
        · simp [h4]
        · simp [h4, h3, h1]
      have hd1 : decide (113 ≤ n) = false := by simp; omega
      have hd2 : decide (114 ≤ n) = false := by simp; omega
      have hd3 : decide (113 ≤ n + 1) = false := by simp; omega
      have hd4 : decide (114 ≤ n + 1) = false := by simp; omega
      rw [hc, hnv, hd1, hd2] at hct
      simp only [Bool.false_and] at hct
      rw [hl] at hown
      refine (stepNext w b o _ (.inl rfl) v n (unlikeI N F n) false false x y ⟨by omega, by omega⟩ (fun r w' => r = outI o N F n ∧ ∃ v', CatchAt w' b v' o N F (n + 1) ∧ Touch (catchS b v) w w' ∧ Moved w v v') hct ?_).mono ?_
      · intro W hW hT
        have hownW := own_touch hown hT (fun k hk hm => own_ne hown h.ct (by decide) (by rw [hk]; simpa using hm))
        refine (catchFirst W b n o _ v (n + 1) _ false false false (knownI x) (knownI y) (bodyI N F) h1 (by rw [hx, hy]; rfl) hW hownW).mono ?_
        rintro e w' ⟨rfl, v', h2, h3, h4, h5⟩
        refine ⟨_, rfl, ho.symm, v', ⟨?_, ?_⟩, ?_, ?_⟩
        · rw [hnv1, hc1, hd3, hd4, ← hU]
          simp only [Bool.false_and]
          exact_mod_cast h2
        · rw [hl1]; exact h3
        · exact (touchS hT).trans h4
        · exact h5.imp id (fun ⟨g, e1, e2⟩ => ⟨g, e1, Nat.le_trans hT.size e2⟩)
      · rintro e w' ⟨r, rfl, rfl, h2⟩
        exact ⟨rfl, h2⟩
    · have hc1 : cutB N F (n + 1) = false := by rw [cutB_late (by omega), ← cutB_late h1, hc]
      have hl : lenB N F n = 112 := by rw [lenB_full hc]; omega
      have hl1 : lenB N F (n + 1) = 112 := by rw [lenB_full hc1]; omega
      have hw : wholeL (bodyI N F) 112 = true := body_whole hN hF (Nat.le_refl _) (by rw [← cutB_late h1, hc])
      have hlift : ∀ (W w' : World), Touch [b] w W → Touch [b] W w' → Touch (catchS b v) w w' := fun W w' h1 h2 => touchS (h1.trans h2)
      rw [hl] at hown
      obtain rfl | rfl : n = 112 ∨ n = 113 := by omega
      · have hnv : nextV b N F 112 = tailF b := by simp [nextV, hc]
        have hnv1 : nextV b N F 113 = lastF b := by simp [nextV, hc1]
        have ho : outI o N F 112 = if wholeQ o N F then 2 else 1 := by simp [outI, hc1]
        rw [hc, hnv] at hct
        simp only [show decide (113 ≤ 112) = false from rfl, show decide (114 ≤ 112) = false from rfl, Bool.false_and] at hct
        refine (stepNext w b o _ (.inr (.inl rfl)) v (112 : Nat) (unlikeI N F 112) false false x y ⟨by omega, by omega⟩ (fun r w' => r = outI o N F 112 ∧ ∃ v', CatchAt w' b v' o N F 113 ∧ Touch (catchS b v) w w' ∧ Moved w v v') hct ?_).mono ?_
        · intro W hW hT
          have hownW := own_touch hown hT (fun k hk hm => own_ne hown h.ct (by decide) (by rw [hk]; simpa using hm))
          have T := catchTail W b o _ v ((112 : Nat) + 1) _ false false false (bodyI N F) (knownI x) (knownI y) hW hownW hw
          have hq : (isL o (bodyI N F) && (decide (unNext (unlikeI N F 112) (112 : Nat) (knownI x) (knownI y) = -1) && (decide (knownI x = 2) && decide (knownI y = 2)))) = wholeQ o N F := by
            rw [hU, hx, hy]
            rfl
          rw [hq] at T
          refine T.mono ?_
          rintro e w' ⟨rfl, h2, h3⟩
          refine ⟨_, rfl, ho.symm, v, ⟨?_, ?_⟩, hlift _ _ hT h3, .inl rfl⟩
          · rw [hnv1, hc1, ← hU]
            simp only [show decide (113 ≤ 113) = true from rfl, show decide (114 ≤ 113) = false from rfl, Bool.false_and, Bool.true_and, Bool.not_false]
            exact_mod_cast h2
          · rw [hl1]
            exact own_touch hownW h3 (fun k hk hm => own_ne hownW hW (by decide) (by rw [hk]; simpa using hm))
        · rintro e w' ⟨r, rfl, rfl, h2⟩
          exact ⟨rfl, h2⟩
      · have hnv : nextV b N F 113 = lastF b := by simp [nextV, hc]
        have hnv1 : nextV b N F 114 = .nilFunc := by simp [nextV, hc1]
        have ho : outI o N F 113 = if highQ o N F then 1 else 2 := by simp [outI, hc1]
        rw [hc, hnv] at hct
        simp only [show decide (113 ≤ 113) = true from rfl, show decide (114 ≤ 113) = false from rfl, Bool.false_and, Bool.true_and, Bool.not_false] at hct
        refine (stepNext w b o _ (.inr (.inr rfl)) v (113 : Nat) (unlikeI N F 113) (wholeQ o N F) false x y ⟨by omega, by omega⟩ (fun r w' => r = outI o N F 113 ∧ ∃ v', CatchAt w' b v' o N F 114 ∧ Touch (catchS b v) w w' ∧ Moved w v v') hct ?_).mono ?_
        · intro W hW hT
          have hownW := own_touch hown hT (fun k hk hm => own_ne hown h.ct (by decide) (by rw [hk]; simpa using hm))
          have T := catchLast W b o _ v ((113 : Nat) + 1) _ false (wholeQ o N F) false (knownI x) (knownI y) hW
          have hq : (wholeQ o N F && (decide (knownI x = 1) && decide (knownI y = 1))) = highQ o N F := by
            rw [hx, hy]
            rfl
          rw [hq] at T
          refine T.mono ?_
          rintro e w' ⟨rfl, h2, h3⟩
          refine ⟨_, rfl, ho.symm, v, ⟨?_, ?_⟩, hlift _ _ hT h3, .inl rfl⟩
          · rw [hnv1, hc1, ← hU]
            simp only [show decide (113 ≤ 114) = true from rfl, show decide (114 ≤ 114) = true from rfl, Bool.true_and, Bool.not_false]
            exact_mod_cast h2
          · rw [hl1]
            exact own_touch hownW h3 (fun k hk hm => own_ne hownW hW (by decide) (by rw [hk]; simpa using hm))
        · rintro e w' ⟨r, rfl, rfl, h2⟩
          exact ⟨rfl, h2⟩
/-- A catch that a call made. -/
theorem catchAt_new {w : World} {b : Nat} {o : Int} {N F : Nat → Int} (h : Ct w b o (firstF b) (.slice none 0 0) 0 (-1) false false false) : CatchAt w b (.slice none 0 0) o N F 0 :=
  ⟨by simpa [nextV, cutB, unlikeI] using h, World.ownsRow_nil _ _ _ _⟩
theorem CatchAt.touch {S : List Nat} {w w' : World} {b : Nat} {v : Value} {o : Int} {N F : Nat → Int} {n : Nat} (h : CatchAt w b v o N F n) (ht : Touch S w w') (hs : ∀ k ∈ catchS b v, k ∉ S) : CatchAt w' b v o N F n :=
  ⟨(ht.block b h.ct.lt (hs b (catchS_mem.2 (.inl rfl)))).trans h.ct, own_touch h.own ht (fun k hk => hs k (catchS_mem.2 (.inr hk)))⟩
end Go.Proofs.Ytbfbpagfmhdblaa
