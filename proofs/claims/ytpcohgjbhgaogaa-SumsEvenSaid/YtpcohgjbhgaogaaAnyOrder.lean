/- A region that draws its order, walked once an operation: what holds of the operations that have come up, whichever they are. -/
import Derived.Test.YtpcohgjbhgaogaaBase
import Derived.Deep.RegionHeld3
namespace Go.Proofs.Ytpcohgjbhgaogaa
open Go.RowKit
set_option linter.unusedSimpArgs false
set_option linter.unusedVariables false
theorem count_set : ∀ {l : List Bool} {j : Nat}, l[j]? = some false → ((l.set j true).countP (!·)) + 1 = l.countP (!·)
  | [], j, h => by simp at h
  | b :: l, 0, h => by
    simp at h
    subst h
    simp [List.countP_cons]
  | b :: l, j + 1, h => by
    simp only [List.getElem?_cons_succ] at h
    have := count_set h
    rw [List.set_cons_succ, List.countP_cons, List.countP_cons]
    omega
theorem getD_false {listed : Array Bool} {j : Nat} (h : listed.getD j true = false) : listed[j]? = some false := by
  rw [Array.getD_eq_getD_getElem?] at h
  cases e : listed[j]? with
  | none => rw [e] at h; simp at h
  | some b => rw [e] at h; simp at h; rw [h]
theorem wpAny_rule {P : Program} {md : Region.Mode} {ops : Array Oper} {Q : Exit → Act → World → Prop} {J : Array Bool → Act → World → Prop}
    (hstep : ∀ listed a w j o, J listed a w → listed.getD j true = false → ops[j]? = some o → (∀ e ∈ o.after, Region.binds md e = true → listed.getD e.on false = true) → wpOp P ops Q j (fun a' w' => J (listed.setIfInBounds j true) a' w') a w)
    (hdone : ∀ listed a w, J listed a w → (∀ j, j < ops.size → listed.getD j false = true) → Q .normal a w)
    (hback : ∀ (j : Nat) (o : Oper), ops[j]? = some o → ∀ e ∈ o.after, e.on < j) :
    ∀ fuel listed a w, J listed a w → listed.size = ops.size → listed.toList.countP (!·) ≤ fuel → wpAny P md ops Q fuel listed a w := by
  have hend : ∀ listed a w, J listed a w → listed.size = ops.size → Region.ready md ops listed = [] → Q .normal a w := fun listed a w hJ hz hr => by
    refine hdone listed a w hJ fun j => ?_
    induction j using Nat.strongRecOn with
    | ind j ih =>
      intro hj
      cases hb : listed.getD j true with
      | true =>
        rw [Array.getD_eq_getD_getElem?, Array.getElem?_eq_getElem (by omega)] at hb ⊢
        simpa using hb
      | false =>
        exfalso
        have hm : j ∈ Region.ready md ops listed := mem_ready.2 ⟨hb, ops[j], Array.getElem?_eq_getElem hj, fun e he hbi => ih e.on (hback j _ (Array.getElem?_eq_getElem hj) e he) (by have := hback j _ (Array.getElem?_eq_getElem hj) e he; omega)⟩
        rw [hr] at hm
        cases hm
  intro fuel
  induction fuel with
  | zero =>
    intro listed a w hJ hz hc
    have hr : Region.ready md ops listed = [] := by
      rw [List.eq_nil_iff_forall_not_mem]
      intro j hj
      have h1 := getD_false (mem_ready.1 hj).1
      rw [← Array.getElem?_toList] at h1
      have := count_set h1
      omega
    exact ⟨hr, hend _ _ _ hJ hz hr⟩
  | succ fuel ih =>
    intro listed a w hJ hz hc
    refine ⟨hend _ _ _ hJ hz, fun j hj => ?_⟩
    obtain ⟨h1, o, ho, hd⟩ := mem_ready.1 hj
    refine wpOp_mono (fun a' w' hJ' => ih _ a' w' hJ' (by simpa using hz) ?_) (hstep listed a w j o hJ h1 ho hd)
    have h2 := getD_false h1
    rw [← Array.getElem?_toList] at h2
    have := count_set h2
    rw [Array.toList_setIfInBounds]
    omega
theorem wp_region_rule {P : Program} {ops : Array Oper} {Q : Exit → Act → World → Prop} {id : Nat} {a : Act} {w : World} (J : Array Bool → Act → World → Prop) (hm : P.follows .mixedOrders = true)
    (h0 : J (Array.replicate ops.size false) a w.drew)
    (hstep : ∀ listed a w j o, J listed a w → listed.getD j true = false → ops[j]? = some o → (∀ e ∈ o.after, Region.binds .any e = true → listed.getD e.on false = true) → wpOp P ops Q j (fun a' w' => J (listed.setIfInBounds j true) a' w') a w)
    (hdone : ∀ listed a w, J listed a w → (∀ j, j < ops.size → listed.getD j false = true) → Q .normal a w)
    (hback : (ops.toList.zipIdx.all fun (o, j) => o.after.toList.all fun e => decide (e.on < j)) = true) : (Code.region id ops true).wp P Q a w := by
  refine wp_region_any hm (wpAny_rule hstep hdone ?_ _ _ _ _ h0 (by simp) (by simp [List.countP_replicate]))
  intro j o ho e he
  rw [List.all_eq_true] at hback
  have h1 := hback (o, j) (by
    rw [List.mem_iff_getElem?]
    exact ⟨j, by rw [List.getElem?_zipIdx, Array.getElem?_toList, ho]; simp⟩)
  simp only [List.all_eq_true, decide_eq_true_eq] at h1
  exact h1 e (by simpa using he)
/-- The values that have come up, one more. -/
def upd (t : Nat → Value) (j : Nat) (v : Value) (k : Nat) : Value := if k = j then v else t k
theorem up_step {listed : Array Bool} {t : Nat → Value} {w w' : World} {V : Nat → Value → World → Prop} {j : Nat} {v : Value} (h : ∀ k, listed.getD k false = true → V k (t k) w) (hv : V j v w') (hk : ∀ k v, V k v w → V k v w') :
    ∀ k, (listed.setIfInBounds j true).getD k false = true → V k (upd t j v k) w' := fun k hd => by
  unfold upd
  split
  · rename_i e
    subst e
    exact hv
  · rename_i e
    refine hk k _ (h k ?_)
    rw [Array.getD_eq_getD_getElem?, Array.getElem?_setIfInBounds_ne (by omega)] at hd
    rw [Array.getD_eq_getD_getElem?]
    exact hd
end Go.Proofs.Ytpcohgjbhgaogaa
