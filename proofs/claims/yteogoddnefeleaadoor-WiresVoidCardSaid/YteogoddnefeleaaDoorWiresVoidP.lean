/- WiresVoid: the card. -/
import Derived.Test.YteogoddnefeleaaDoorWiresVoidW
import Derived.Test.YteogoddnefeleaaDoorLawLaid03
import Derived.Test.YteogoddnefeleaaDoorLawKit8
namespace Go.Proofs.YteogoddnefeleaaDoor
open Go.ChangeShapes Go.WideShapes Go.ChangeAt Go.RowKit
set_option maxRecDepth 100000 in
set_option maxHeartbeats 2000000 in
theorem wiresVoid_lifted (os : Os) (started : os.Started) (H : Type) (enc : TypeId × Value → H) :
    ReturnsInHanded {} Tryd.checked os 14 .any (fun w args => (Rows.wiresVoidSpec.pre enc Tryd.prog Tryd.f14 Rows.wiresVoidRow.domain false w args ∧ laidX w args) ∧ sizedMet enc Tryd.prog Tryd.f14 (OpenSpec.ofChange Rows.wiresVoidSpec) false w args) (Rows.wiresVoidSpec.post enc Tryd.prog Tryd.f14 false true false false) := by
  refine returnsInHanded_of_change_and (C := Tryd.checked) (X := laidX) laidX_heap own started (by kernel_rfl) Tryd.func14
    (ChangeSpec.witness_at (enc := enc) (C := Tryd.checked) (os := os) (X := laidX) false (laidWorld os) #[.agg #[.int .u8 0, .int .i64 0, .int .i64 0, .int .u8 0, .int .i64 0, .int .i64 0]] 8 rfl (by kernel_rfl) (by kernel_rfl) (by kernel_rfl) (by kernel_rfl) (by kernel_rfl) (laidW os _ rfl)) ?_
  intro W base args ds gs before hval0 hW hcnd _ hL _
  have hval : ∀ (j : Nat) t v, Tryd.f14.params[j]? = some t → args[j]? = some v → Value.okWide Tryd.prog W .any base t v := hval0
  have hW' := hW
  obtain ⟨p, q, hA0, hV, rfl, hfz, hnd⟩ := hW
  have hA : DataW.TrodAll enc Tryd.prog W 0 (fun _ => true) true Tryd.f14.params.toList args.toList ds p := hA0
  rw [Tryd.params14] at hA hval
  obtain ⟨v0, vs0, d0, ds0, p0, q0, hargs, rfl, rfl, h0, r0⟩ := trodAll_cons hA
  obtain ⟨rfl, rfl, rfl⟩ := trodAll_nil r0
  obtain rfl : args = #[v0] := by cases args; simp_all
  obtain ⟨rfl, rfl⟩ := trodVars_none hV
  have k0 := h0
  have lt0 : ∀ x ∈ p0, x.block < W.heap.size := by obtain ⟨m, hm⟩ := k0; exact DataW.trod_lt m _ _ _ hm
  obtain ⟨kd0, lk0, x0, dr0, nd0, hp0, rfl, w0⟩ := open_act (hval 0 66 v0 rfl rfl) h0
  clear hA0 hval0
  refine (wiresVoid_any W kd0 lk0 x0 dr0 nd0 hp0 (signs_of hL)).mono fun e W' ⟨he, bel⟩ => ?_
  subst he
  exact ⟨_, rfl, _, _, _, [], _, [], hW', trodAll_mk1 (shut_bool Tryd.underlying4 _), (trodAll_cons_mk (Below.trod laidOut (by kernel_rfl) (of_decide_eq_true (by kernel_rfl)) k0 bel lt0) trodAll_mk0), rfl, bel.frame _, fun h => by cases h⟩
theorem wiresVoid_holds : Rows.WiresVoidSaid :=
  OpenClaim.holds_of_wide 14 Tryd.f14 rfl rfl rfl rfl rfl rfl rfl ⟨rfl, rfl, rfl, rfl, rfl⟩ rfl rfl rfl rfl rfl (by kernel_rfl) Tryd.func14 (by kernel_rfl)
    (of_decide_eq_true (by kernel_rfl)) (by unfold Func.isWrapper; first | (rw [if_pos (by decide +kernel)]; kernel_rfl) | (rw [if_neg (by decide +kernel)]; exact ⟨rfl, rfl⟩))
    (fun os started H enc _ => wiresVoid_lifted os started H enc)
#print axioms wiresVoid_holds
theorem wiresVoid_card : Rows.WiresVoidCardSaid :=
  Claim7.holds_tied_plain_at .later [] [.data] true (true, "8a3025fee988f85c99ece6c98bc69756f62e66b44f80b6ac1da19e3147113691") false
    wiresVoid_holds (fun _ h => by cases h) (by kernel_rfl) (fun _ h => by cases h) wiresVoid_row_tie rfl ⟨rfl, rfl⟩ (by kernel_rfl) rfl
    (fun f fn hf hfn => by
      obtain rfl : f = 14 := Option.some.inj ((show Tryd.prog.funcNamed "sennit/sennitlaw08.WiresVoid" = some 14 by kernel_rfl).symm.trans hf) |>.symm
      obtain rfl : fn = Tryd.f14 := (Option.some.inj (Tryd.func14.symm.trans hfn)).symm
      exact ⟨by kernel_rfl, fun j t ht => by
        rw [Tryd.params14] at ht
        rcases j with _ | j
        all_goals (simp at ht)
        all_goals (subst ht; kernel_rfl)⟩)
    (by kernel_rfl)
#print axioms wiresVoid_card
end Go.Proofs.YteogoddnefeleaaDoor
