/- CatchesChain: for whatever owner, payload and four numbers the law returns true. No conditions. -/
import Derived.Test.YtbfbpagfmhdblaaLawKit5
import Derived.Test.YtbfbpagfmhdblaaLawKit7
import Derived.Test.YtbfbpagfmhdblaaCatchesChainW
namespace Go.Proofs.Ytbfbpagfmhdblaa
open Go.ChangeShapes Go.WideShapes Go.ChangeAt Go.RowKit
open Go.ChangeMaps (open_string shut_string)
set_option linter.unusedVariables false
theorem catchesChain_law (w : World) (o k st sq v x y z u : Int) (ho : (Lit.int .u8 o).wf = true) (hp : PayOk k st sq v) (hx : (Lit.int .u8 x).wf = true) (hy : (Lit.int .u8 y).wf = true) (hz : (Lit.int .u8 z).wf = true) (hu : (Lit.int .u8 u).wf = true) :
    Calls Try.prog 9 #[.int .u8 o, .agg #[.int .u8 k, .int .u8 st, .int .u32 sq, .int .u32 v], .agg #[.int .u8 x, .int .u8 y, .int .u8 z, .int .u8 u]] w fun e w' => e = .returned (.bool true) ∧ Below w.heap.size w w' := by
  have h1 := wf_u8 hx
  have h2 := wf_u8 hy
  have h3 := wf_u8 hz
  have h4 := wf_u8 hu
  obtain ⟨p, rfl⟩ := Int.eq_ofNat_of_zero_le h1.1
  obtain ⟨q, rfl⟩ := Int.eq_ofNat_of_zero_le h2.1
  obtain ⟨r, rfl⟩ := Int.eq_ofNat_of_zero_le h3.1
  obtain ⟨s, rfl⟩ := Int.eq_ofNat_of_zero_le h4.1
  exact catchesChain_any w o k st sq v p q r s (wf_u8 ho) hp.in.1 hp.in.2.1 hp.in.2.2.1 hp.in.2.2.2 (by omega) (by omega) (by omega) (by omega)
set_option maxRecDepth 100000 in
set_option maxHeartbeats 2000000 in
theorem catchesChain_lifted (os : Os) (started : os.Started) (H : Type) (enc : TypeId × Value → H) :
    ReturnsInHanded {} Try.checked os 9 .any (Rows.catchesChainSpec.pre6 enc Try.prog Try.f9 Rows.catchesChainRow.domain false) (Rows.catchesChainSpec.post enc Try.prog Try.f9 false true false false) := by
  refine returnsInHanded_of_change (C := Try.checked) own started (by kernel_rfl) Try.func9
    (ChangeSpec.witness6 (enc := enc) (C := Try.checked) false ⟨#[], #[.int .u8 0, .agg #[.int .u8 0, .int .u8 0, .int .u32 0, .int .u32 0], .agg #[.int .u8 0, .int .u8 0, .int .u8 0, .int .u8 0]], []⟩ 8 (by kernel_rfl) (by kernel_rfl) (by kernel_rfl) (by kernel_rfl)) ?_
  intro W base args ds gs before hval0 hW hcnd _
  have hval : ∀ (j : Nat) t v, Try.f9.params[j]? = some t → args[j]? = some v → Value.okWide Try.prog W .any base t v := hval0
  have hW' := hW
  obtain ⟨p, q, hA0, hV, rfl, hfz, hnd⟩ := hW
  have hA : DataW.TrodAll enc Try.prog W 0 (fun _ => true) true Try.f9.params.toList args.toList ds p := hA0
  rw [Try.params9] at hA hval
  obtain ⟨v0, vs0, d0, ds0, p0, q0, hargs, rfl, rfl, h0, r0⟩ := trodAll_cons hA
  obtain ⟨v1, vs1, d1, ds1, p1, q1, rfl, rfl, rfl, h1, r1⟩ := trodAll_cons r0
  obtain ⟨v2, vs2, d2, ds2, p2, q2, rfl, rfl, rfl, h2, r2⟩ := trodAll_cons r1
  obtain ⟨rfl, rfl, rfl⟩ := trodAll_nil r2
  obtain rfl : args = #[v0, v1, v2] := by cases args; simp_all
  obtain ⟨rfl, rfl⟩ := trodVars_none hV
  have k0 := h0
  have lt0 : ∀ x ∈ p0, x.block < W.heap.size := by obtain ⟨m, hm⟩ := k0; exact DataW.trod_lt m _ _ _ hm
  have k1 := h1
  have lt1 : ∀ x ∈ p1, x.block < W.heap.size := by obtain ⟨m, hm⟩ := k1; exact DataW.trod_lt m _ _ _ hm
  have k2 := h2
  have lt2 : ∀ x ∈ p2, x.block < W.heap.size := by obtain ⟨m, hm⟩ := k2; exact DataW.trod_lt m _ _ _ hm
  obtain ⟨x0, rfl, rfl, rfl, w0⟩ := open_int Try.underlying5 (hval 0 5 v0 rfl rfl) h0
  obtain ⟨kk1, st1, sq1, vl1, rfl, w1⟩ := open_pay (hval 1 25 v1 rfl rfl) h1
  obtain ⟨x2, y2, z2, p2, rfl, w2, u2, t2, q2⟩ := open_arr4 Try.underlying79 Try.underlying5 (by kernel_rfl) (by kernel_rfl) (hval 2 79 v2 rfl rfl) h2
  clear hA0 hval0
  refine (catchesChain_law W x0 kk1 st1 sq1 vl1 x2 y2 z2 p2 w0 w1 w2 u2 t2 q2).mono fun e W' ⟨he, bel⟩ => ?_
  subst he
  exact ⟨_, rfl, _, _, _, [], _, [], hW', trodAll_mk1 (shut_bool Try.underlying4 _), (trodAll_cons_mk (Below.trod laidOut (by kernel_rfl) (of_decide_eq_true (by kernel_rfl)) k0 bel lt0) (trodAll_cons_mk (Below.trod laidOut (by kernel_rfl) (of_decide_eq_true (by kernel_rfl)) k1 bel lt1) (trodAll_cons_mk (Below.trod laidOut (by kernel_rfl) (of_decide_eq_true (by kernel_rfl)) k2 bel lt2) trodAll_mk0))), rfl, bel.frame _, fun h => by cases h⟩
theorem catchesChain_holds : Rows.CatchesChainSaid :=
  OpenClaim.holds_of_wide 9 Try.f9 rfl rfl rfl rfl rfl rfl rfl ⟨rfl, rfl, rfl, rfl, rfl⟩ rfl rfl rfl rfl rfl (by kernel_rfl) Try.func9 (by kernel_rfl)
    (of_decide_eq_true (by kernel_rfl)) (by unfold Func.isWrapper; first | (rw [if_pos (by decide +kernel)]; kernel_rfl) | (rw [if_neg (by decide +kernel)]; exact ⟨rfl, rfl⟩))
    (fun os started H enc _ => catchesChain_lifted os started H enc)
#print axioms catchesChain_holds
end Go.Proofs.Ytbfbpagfmhdblaa
