/- BitsJoin: for whatever two lists of bytes and two numbers the law returns true, and all read afterwards as before. No conditions. -/
import Derived.Test.YtdcfoapgafiigaaLawKit
import Derived.Test.YtdcfoapgafiigaaBitsJoinW
namespace Go.Proofs.Ytdcfoapgafiigaa
open Go.ChangeShapes Go.WideShapes Go.ChangeAt Go.RowKit
open Go.ChangeMaps (open_string shut_string)
set_option linter.unusedVariables false
theorem bitsJoin_law (w : World) (ao : Option Addr) (n c : Nat) (L : Nat → Int) (ax : Option Addr) (m cx : Nat) (M : Nat → Int) (x y : Int) (ha : Rd .u8 w ao n L) (hnil : NilOk ao n c) (fL : ∀ i, i < n → (Lit.int .u8 (L i)).wf = true)
    (hx : Rd .u8 w ax m M) (hnilx : NilOk ax m cx) (fM : ∀ i, i < m → (Lit.int .u8 (M i)).wf = true) (w1 : (Lit.int .u64 x).wf = true) (w2 : (Lit.int .u64 y).wf = true) :
    Calls Try.prog 5 #[.slice ao n c, .slice ax m cx, .agg #[.int .u64 x, .int .u64 y]] w fun e w' => e = .returned (.bool true) ∧ Below w.heap.size w w' := by
  obtain ⟨p, rfl, hp⟩ := wf_u64 w1
  obtain ⟨q, rfl, hq⟩ := wf_u64 w2
  exact bitsJoin_any w ao n c L ax m cx M p q ha hnil.2.2 (fun i hi => wf_u8 (fL i hi)) hx hnilx.2.2 (fun i hi => wf_u8 (fM i hi)) hp hq
set_option maxRecDepth 100000 in
theorem bitsJoin_lifted (os : Os) (started : os.Started) (H : Type) (enc : TypeId × Value → H) :
    ReturnsInHanded {} Try.checked os 5 .any (Rows.bitsJoinSpec.pre6 enc Try.prog Try.f5 Rows.bitsJoinRow.domain false) (Rows.bitsJoinSpec.post enc Try.prog Try.f5 false true false false) := by
  refine returnsInHanded_of_change (C := Try.checked) own started (by kernel_rfl) Try.func5
    (ChangeSpec.witness6 (enc := enc) (C := Try.checked) false ⟨#[], #[.slice none 0 0, .slice none 0 0, .agg #[.int .u64 0, .int .u64 0]], []⟩ 8 (by kernel_rfl) (by kernel_rfl) (by kernel_rfl) (by kernel_rfl)) ?_
  intro W base args ds gs before hval0 hW hcnd _
  have hval : ∀ (j : Nat) t v, Try.f5.params[j]? = some t → args[j]? = some v → Value.okWide Try.prog W .any base t v := hval0
  have hW' := hW
  obtain ⟨p, q, hA0, hV, rfl, hfz, hnd⟩ := hW
  have hA : DataW.TrodAll enc Try.prog W 0 (fun _ => true) true Try.f5.params.toList args.toList ds p := hA0
  rw [Try.params5] at hA hval
  obtain ⟨v0, vs0, d0, ds0, p0, q0, hargs, rfl, rfl, h0, r0⟩ := trodAll_cons hA
  obtain ⟨v1, vs1, d1, ds1, p1, q1, rfl, rfl, rfl, h1, r1⟩ := trodAll_cons r0
  obtain ⟨v2, vs2, d2, ds2, p2, q2, rfl, rfl, rfl, h2, r2⟩ := trodAll_cons r1
  obtain ⟨rfl, rfl, rfl⟩ := trodAll_nil r2
  obtain rfl : args = #[v0, v1, v2] := by cases args; simp_all
  obtain ⟨rfl, rfl⟩ := trodVars_none hV
  have k0 := h0
  have lt0 : ∀ x ∈ p0, x.block < W.heap.size := by obtain ⟨m, hm⟩ := k0; exact DataW.trod_lt m _ _ _ hm
  have k1 := h1
  have lt1 : ∀ x ∈ p1, x.block < W.heap.size := by obtain ⟨m, hm⟩ := k1; exact DataW.trod_lt m _ _ _ hm
  have k2 := h2
  have lt2 : ∀ x ∈ p2, x.block < W.heap.size := by obtain ⟨m, hm⟩ := k2; exact DataW.trod_lt m _ _ _ hm
  obtain ⟨a0, n0, c0, rfl⟩ := okWide_slice Try.underlying43 (hval 0 43 v0 rfl rfl)
  obtain ⟨L0, n00, s0, f0⟩ := rd_nums Try.underlying43 Try.underlying5 (by kernel_rfl) h0
  obtain ⟨a1, n1, c1, rfl⟩ := okWide_slice Try.underlying43 (hval 1 43 v1 rfl rfl)
  obtain ⟨L1, n01, s1, f1⟩ := rd_nums Try.underlying43 Try.underlying5 (by kernel_rfl) h1
  obtain ⟨x2, y2, rfl, w2, u2⟩ := open_arr2 Try.underlying44 Try.underlying23 (by kernel_rfl) (by kernel_rfl) (hval 2 44 v2 rfl rfl) h2
  clear hA0 hval0
  refine (bitsJoin_law W a0 n0 c0 L0 a1 n1 c1 L1 x2 y2 s0 n00 f0 s1 n01 f1 w2 u2).mono fun e W' ⟨he, bel⟩ => ?_
  subst he
  exact ⟨_, rfl, _, _, _, [], _, [], hW', trodAll_mk1 (shut_bool Try.underlying4 _), (trodAll_cons_mk (Below.trod laidOut (by kernel_rfl) (of_decide_eq_true (by kernel_rfl)) k0 bel lt0) (trodAll_cons_mk (Below.trod laidOut (by kernel_rfl) (of_decide_eq_true (by kernel_rfl)) k1 bel lt1) (trodAll_cons_mk (Below.trod laidOut (by kernel_rfl) (of_decide_eq_true (by kernel_rfl)) k2 bel lt2) trodAll_mk0))), rfl, bel.frame _, fun h => by cases h⟩
theorem bitsJoin_holds : Rows.BitsJoinSaid :=
  OpenClaim.holds_of_wide 5 Try.f5 rfl rfl rfl rfl rfl rfl rfl ⟨rfl, rfl, rfl, rfl, rfl⟩ rfl rfl rfl rfl rfl (by kernel_rfl) Try.func5 (by kernel_rfl)
    (of_decide_eq_true (by kernel_rfl)) (by unfold Func.isWrapper; first | (rw [if_pos (by decide +kernel)]; kernel_rfl) | (rw [if_neg (by decide +kernel)]; exact ⟨rfl, rfl⟩))
    (fun os started H enc _ => bitsJoin_lifted os started H enc)
#print axioms bitsJoin_holds
end Go.Proofs.Ytdcfoapgafiigaa
