/- A mouth for a law: hidden but for its maps; what it says is fine. -/
import Derived.Test.YtmdohnbhogfopaaZLivB
namespace Go.Proofs.Ytmdohnbhogfopaa
open Go.RowKit Go.Maps
set_option linter.unusedSimpArgs false
set_option linter.unusedVariables false
set_option maxRecDepth 100000
/-- Rows that may be told and compared. -/
structure RowsFine (R : List RowC) : Prop where
  ok : ∀ r ∈ R, RowOk r
  n : R.length ≤ 1000
  t : ∀ r ∈ R, r.tab.length ≤ 1000
theorem PostOk.fine {p : PostC} (h : PostOk p) : RowsFine p.R := ⟨h.R, h.n, h.t⟩
theorem RowsFine.nil : RowsFine [] := ⟨by simp, by simp, by simp⟩
theorem RowsFine.mapIdx {R : List RowC} (h : RowsFine R) {ch : Nat → RowC → RowC} (h1 : ∀ i r, RowOk r → RowOk (ch i r)) (h2 : ∀ i r, (ch i r).tab = r.tab) : RowsFine (R.mapIdx ch) := by
  have hm : ∀ r ∈ R.mapIdx ch, ∃ i r0, r0 ∈ R ∧ r = ch i r0 := fun r hr => by
    obtain ⟨i, hi, rfl⟩ := List.getElem_of_mem hr
    have hi' : i < R.length := by simpa using hi
    exact ⟨i, R[i], List.getElem_mem hi', by simp⟩
  refine ⟨fun r hr => ?_, by simpa using h.n, fun r hr => ?_⟩
  · obtain ⟨i, r0, h0, rfl⟩ := hm r hr
    exact h1 i r0 (h.ok r0 h0)
  · obtain ⟨i, r0, h0, rfl⟩ := hm r hr
    rw [h2]
    exact h.t r0 h0
theorem noiseC_fine {R : List RowC} (h : RowsFine R) (sd t l : Int) (m : Nat) (hm : m ≤ 16) : RowsFine (noiseC sd t l m R).R := by
  refine ⟨fun r hr => ?_, by simp [noiseC]; omega, fun r hr => ?_⟩
  · obtain ⟨i, _, rfl⟩ := List.mem_map.1 hr
    exact noiseRow_ok h.ok sd t l i
  · obtain ⟨i, _, rfl⟩ := List.mem_map.1 hr
    unfold noiseRow
    split
    · simp
    · show ((R[i]?.getD ⟨zeroH, []⟩).tab).length ≤ 1000
      cases hr2 : R[i]? with
      | none => simp
      | some r => exact h.t r (List.mem_of_getElem? hr2)
section
variable {M : Nat → Prop} {w : World} {pm bt bl c : Nat} {f : Int × Int → Option (Int × Option (Nat × Nat × Nat))} {F : FaultC} {T : Int × Int → Option PostC} {G : Int → Option Int}
theorem saysP_fine (h : MouthIs M w pm bt bl c f F T G) (hF : FaultOk F) (t l : Int) (p : PostC) (hp : PostOk p) : RowsFine (saysP F T G t l p).R := by
  have hm := hF.m
  unfold saysP
  by_cases h1 : isF F l = false
  · rw [if_pos h1]
    exact hp.fine
  · rw [if_neg h1]
    by_cases h2 : toldB F t l = false
    · rw [if_pos h2]
      exact .nil
    · rw [if_neg h2]
      have h2' : toldB F t l = true := by simpa using h2
      have hl := isF_range hF (by simpa using h1)
      have ht : 0 ≤ t ∧ t ≤ 1099511627776 := by
        unfold toldB at h2'
        simp only [Bool.and_eq_true, decide_eq_true_eq] at h2'
        exact h2'.2
      unfold kindP
      repeat' split
      all_goals first | exact hp.fine | exact .nil | exact noiseC_fine hp.fine _ _ _ _ hm.2 | exact hp.fine.mapIdx (fun i r hr => lieR_ok hr _ _ _) (fun i r => by unfold lieR; split <;> rfl) | exact hp.fine.mapIdx (fun i r hr => forgeR_ok hr _ _) (fun i r => by unfold forgeR; split <;> rfl) | skip
      unfold lateC
      cases hT : keepT T G t l p (l, t - (spellF F t l).sd % 64) with
      | none => exact .nil
      | some q =>
        show RowsFine q.R
        unfold keepT at hT
        split at hT
        · cases hT
        · split at hT
          · simp only [Option.some.injEq] at hT
            subst hT
            exact hp.fine
          · exact (h.word _ q ⟨wfI _ (by omega) (by omega), wfI _ (by simp only; omega) (by simp only; omega)⟩ hT).1.fine
/-- A mouth in a law: A has blocks that are not its own. -/
def Mo (W : World) (pm bt bl c : Nat) (F : FaultC) (T : Int × Int → Option PostC) (G : Int → Option Int) (A : List Nat) : Prop :=
  ∃ M f, MouthIs M W pm bt bl c f F T G ∧ OldOut T G ∧ ∀ k ∈ A, k < W.heap.size ∧ ¬ M k ∧ k ≠ pm ∧ k ≠ bt ∧ k ≠ bl
theorem Mo.below {W : World} {A : List Nat} (h : Mo w pm bt bl c F T G A) (hb : Below w.heap.size w W) : Mo W pm bt bl c F T G A := by
  obtain ⟨M, f, h1, h2, h3⟩ := h
  exact ⟨M, f, h1.below hb, h2, fun k hk => ⟨Nat.lt_of_lt_of_le (h3 k hk).1 hb.size, (h3 k hk).2⟩⟩
theorem Mo.other {W : World} {A S : List Nat} (h : Mo w pm bt bl c F T G A) (hT : Touch S w W) (hS : ∀ k ∈ S, k ∈ A) : Mo W pm bt bl c F T G A := by
  obtain ⟨M, f, h1, h2, h3⟩ := h
  refine ⟨M, f, h1.agree (fun k hk => hT.block k (h1.lts k hk) fun hm => ?_) hT.size, h2, fun k hk => ⟨Nat.lt_of_lt_of_le (h3 k hk).1 hT.size, (h3 k hk).2⟩⟩
  obtain ⟨_, q1, q2, q3, q4⟩ := h3 k (hS k hm)
  rcases hk with hk | hk | hk | hk
  · exact q1 hk
  · exact q2 hk
  · exact q3 hk
  · exact q4 hk
theorem Mo.grow {W : World} {A A' : List Nat} (h : Mo w pm bt bl c F T G A) (hb : Below w.heap.size w W) (hA : ∀ k ∈ A', w.heap.size ≤ k ∧ k < W.heap.size) : Mo W pm bt bl c F T G A' := by
  obtain ⟨M, f, h1, h2, h3⟩ := h
  have hl := h1.lts
  refine ⟨M, f, h1.below hb, h2, fun k hk => ⟨(hA k hk).2, fun hm => ?_, ?_, ?_, ?_⟩⟩
  · have := hl k (.inl hm); have := (hA k hk).1; omega
  · rintro rfl; have := hl k (by simp); have := (hA k hk).1; omega
  · rintro rfl; have := hl k (by simp); have := (hA k hk).1; omega
  · rintro rfl; have := hl k (by simp); have := (hA k hk).1; omega
theorem Mo.keepC {W : World} {A : List Nat} (h : Mo w pm bt bl c F T G A) (hT : Touch [bt, bl] w W) : KeepC w W := by
  obtain ⟨M, f, h1, _⟩ := h
  exact h1.keepC hT
theorem Mo.blks {W : World} {A : List Nat} (h : Mo w pm bt bl c F T G A) (hT : Touch [bt, bl] w W) {b : Nat} {cs : Array Value} {U : TypeId} (hb : Blk w b cs U) : Blk W b cs U := by
  obtain ⟨M, f, h1, _⟩ := h
  exact h1.blks hb hT
theorem Mo.is {A : List Nat} (h : Mo w pm bt bl c F T G A) (hF : FaultOk F) (l : Int) : Calls Try.prog 33 #[.pointer (some ⟨pm, 0, none⟩), .int .i64 l] w fun e w' => e = .returned (.bool (isF F l)) ∧ w = w' := by
  obtain ⟨M, f, h1, _⟩ := h
  exact isR h1 hF l
theorem Mo.fine {A : List Nat} (h : Mo w pm bt bl c F T G A) (hF : FaultOk F) (t l : Int) (p : PostC) (hp : PostOk p) : RowsFine (saysP F T G t l p).R := by
  obtain ⟨M, f, h1, _⟩ := h
  exact saysP_fine h1 hF t l p hp
theorem saysM {A : List Nat} (h : Mo w pm bt bl c F T G A) (hF : FaultOk F) (hc : c < 900000000) (t l : Int) (p : PostC) (hp : PostOk p) (v : Value) (hw : WordAt 0 w v p.R) :
    Calls Try.prog 17 #[.pointer (some ⟨pm, 0, none⟩), .int .i64 t, .int .i64 l, .agg #[.int .u8 p.s, v]] w fun e w' => ∃ v', e = .returned (.agg #[.int .u8 (saysP F T G t l p).s, v']) ∧ (∃ a n k, v' = .slice a n k) ∧ WordAt 0 w' v' (saysP F T G t l p).R ∧
      Mo w' pm bt bl (c + 1) F (saysT F T G t l p) (saysG F G t l) A ∧ Touch [bt, bl] w w' := by
  have hfine := h.fine hF t l p hp
  obtain ⟨M, f, h1, h2, h3⟩ := h
  refine (saysR h1 hF h2 hc t l p hp v hw).mono ?_
  rintro e w' ⟨v', lo, hi, f', rfl, q1, q2, q3, hO, hM, hT⟩
  refine ⟨v', rfl, hO.sl, hO.at0 hfine.ok, ⟨_, f', hM, h2.says F t l p, fun k hk => ?_⟩, hT⟩
  obtain ⟨g1, g2, g3⟩ := h3 k hk
  exact ⟨Nat.lt_of_lt_of_le g1 hT.size, fun hq => by
    rcases hq with hq | hq
    · exact g2 hq
    · omega, g3⟩
end
theorem newM (w : World) (F : FaultC) (hF : FaultOk F) (v : Value) (hs : SpAt 0 w v F.S) (A : List Nat) (hA : ∀ k ∈ A, k < w.heap.size) :
    Calls Try.prog 16 #[.int .i64 F.m, .agg #[.int .i64 F.nd, .int .i64 F.lk, v]] w fun e w' => ∃ pm bt bl, e = .returned (.tuple #[.pointer (some ⟨pm, 0, none⟩), .int .i64 0]) ∧ Mo w' pm bt bl 0 F (fun _ => none) (fun _ => none) A ∧ Below w.heap.size w w' ∧ w.heap.size ≤ pm ∧ w.heap.size ≤ bt ∧ w.heap.size ≤ bl ∧ bt < w'.heap.size ∧ bl < w'.heap.size := by
  refine (newOk w F hF v hs).mono ?_
  rintro e w' ⟨pm, bt, bl, M, rfl, hM, hb, hMg, g1, g2, g3, g4⟩
  have l1 := hM.lts bt (by simp)
  have l2 := hM.lts bl (by simp)
  refine ⟨pm, bt, bl, rfl, ⟨M, _, hM, OldOut.none, fun k hk => ?_⟩, hb, g1, g2, g3, l1, l2⟩
  have := hA k hk
  exact ⟨Nat.lt_of_lt_of_le this hb.size, fun hq => by have := hMg k hq; omega, by omega, by omega, by omega⟩
end Go.Proofs.Ytmdohnbhogfopaa
