/- WiresRun: the card. -/
import Derived.Test.YteogoddnefeleaaDoorWiresRunW
import Derived.Test.YteogoddnefeleaaDoorLawLaid03
import Derived.Test.YteogoddnefeleaaDoorLawKit8
import Derived.Deep.Slices
namespace Go.Proofs.YteogoddnefeleaaDoor
open Go.ChangeShapes Go.WideShapes Go.ChangeAt Go.RowKit
set_option linter.unusedVariables false
theorem rd_acts {H : Type} {enc : TypeId × Value → H} {W : World} {t : TypeId} {a : Option Addr} {n cap : Nat} {d : DataW H} {p : List MemPlace}
    (ht : Tryd.prog.underlying t = some (.slice 66)) (h : DataW.Trod enc Tryd.prog W 0 (fun _ => true) true t (.slice a n cap) d p) : ActsAt W a n ∧ n ≤ maxLen := by
  obtain ⟨fuel, hf⟩ := h
  rcases Go.Deep.open_slice ht hf with ⟨hcs, _⟩ | ⟨x, l, c, m, n', D, Pl, hcs, _, hl, hm, hmm, _, hx⟩
  · simp [Value.cells] at hcs
    obtain ⟨rfl, rfl, rfl⟩ := hcs
    exact ⟨.inl rfl, by unfold maxLen; omega⟩
  · simp [Value.cells] at hcs
    obtain ⟨rfl, rfl, rfl⟩ := hcs
    refine ⟨.inr ⟨x, rfl, fun i hi => ?_⟩, by omega⟩
    have hmi : i < m := by rw [hmm, if_pos rfl]; omega
    obtain ⟨cs', h1, h2⟩ := hx i hmi
    have hC : Tryd.prog.cellsOf 66 = 6 := by kernel_rfl
    rw [hC] at h1
    obtain ⟨kd, lk, x', dr, nd, hp, rfl, ok⟩ := act_trod h2
    obtain ⟨_, _, h3⟩ := World.cells?_some h1
    have g0 := h3 0 (by omega)
    have g1 := h3 1 (by omega)
    have g2 := h3 2 (by omega)
    have g3 := h3 3 (by omega)
    have g4 := h3 4 (by omega)
    have g5 := h3 5 (by omega)
    exact ⟨kd, lk, x', dr, nd, hp, ⟨g0, g1, g2, g3, g4, g5⟩, ok⟩
set_option maxRecDepth 100000 in
set_option maxHeartbeats 2000000 in
theorem wiresRun_lifted (os : Os) (started : os.Started) (H : Type) (enc : TypeId × Value → H) :
    ReturnsInHanded {} Tryd.checked os 13 .any (fun w args => (Rows.wiresRunSpec.pre enc Tryd.prog Tryd.f13 Rows.wiresRunRow.domain false w args ∧ laidX w args) ∧ sizedMet enc Tryd.prog Tryd.f13 (OpenSpec.ofChange Rows.wiresRunSpec) false w args) (Rows.wiresRunSpec.post enc Tryd.prog Tryd.f13 false true false false) := by
  refine returnsInHanded_of_change_and (C := Tryd.checked) (X := laidX) laidX_heap own started (by kernel_rfl) Tryd.func13
    (ChangeSpec.witness_at (enc := enc) (C := Tryd.checked) (os := os) (X := laidX) false (laidWorld os) #[.int .i64 0, .slice none 0 0] 8 rfl (by kernel_rfl) (by kernel_rfl) (by kernel_rfl) (by kernel_rfl) (by kernel_rfl) (laidW os _ rfl)) ?_
  intro W base args ds gs before hval0 hW hcnd _ hL _
  have hval : ∀ (j : Nat) t v, Tryd.f13.params[j]? = some t → args[j]? = some v → Value.okWide Tryd.prog W .any base t v := hval0
  have hW' := hW
  obtain ⟨p, q, hA0, hV, rfl, hfz, hnd⟩ := hW
  have hA : DataW.TrodAll enc Tryd.prog W 0 (fun _ => true) true Tryd.f13.params.toList args.toList ds p := hA0
  rw [Tryd.params13] at hA hval
  obtain ⟨v0, vs0, d0, ds0, p0, q0, hargs, rfl, rfl, h0, r0⟩ := trodAll_cons hA
  obtain ⟨v1, vs1, d1, ds1, p1, q1, rfl, rfl, rfl, h1, r1⟩ := trodAll_cons r0
  obtain ⟨rfl, rfl, rfl⟩ := trodAll_nil r1
  obtain rfl : args = #[v0, v1] := by cases args; simp_all
  obtain ⟨rfl, rfl⟩ := trodVars_none hV
  have k0 := h0
  have lt0 : ∀ x ∈ p0, x.block < W.heap.size := by obtain ⟨m, hm⟩ := k0; exact DataW.trod_lt m _ _ _ hm
  have k1 := h1
  have lt1 : ∀ x ∈ p1, x.block < W.heap.size := by obtain ⟨m, hm⟩ := k1; exact DataW.trod_lt m _ _ _ hm
  obtain ⟨x0, rfl, rfl, rfl, w0⟩ := open_int Tryd.underlying3 (hval 0 3 v0 rfl rfl) h0
  obtain ⟨a1, n1, c1, rfl⟩ := okWide_slice Tryd.underlying61 (hval 1 61 v1 rfl rfl)
  obtain ⟨s1, m1⟩ := rd_acts Tryd.underlying61 h1
  clear hA0 hval0
  refine (wiresRun_any W x0 a1 n1 c1 (signs_of hL) s1 m1).mono fun e W' ⟨he, bel⟩ => ?_
  subst he
  exact ⟨_, rfl, _, _, _, [], _, [], hW', trodAll_mk1 (shut_bool Tryd.underlying4 _), (trodAll_cons_mk (Below.trod laidOut (by kernel_rfl) (of_decide_eq_true (by kernel_rfl)) k0 bel lt0) (trodAll_cons_mk (Below.trod laidOut (by kernel_rfl) (of_decide_eq_true (by kernel_rfl)) k1 bel lt1) trodAll_mk0)), rfl, bel.frame _, fun h => by cases h⟩
theorem wiresRun_holds : Rows.WiresRunSaid :=
  OpenClaim.holds_of_wide 13 Tryd.f13 rfl rfl rfl rfl rfl rfl rfl ⟨rfl, rfl, rfl, rfl, rfl⟩ rfl rfl rfl rfl rfl (by kernel_rfl) Tryd.func13 (by kernel_rfl)
    (of_decide_eq_true (by kernel_rfl)) (by unfold Func.isWrapper; first | (rw [if_pos (by decide +kernel)]; kernel_rfl) | (rw [if_neg (by decide +kernel)]; exact ⟨rfl, rfl⟩))
    (fun os started H enc _ => wiresRun_lifted os started H enc)
#print axioms wiresRun_holds
theorem wiresRun_card : Rows.WiresRunCardSaid :=
  Claim7.holds_tied_plain_at .later [] [.data] true (true, "8a3025fee988f85c99ece6c98bc69756f62e66b44f80b6ac1da19e3147113691") false
    wiresRun_holds (fun _ h => by cases h) (by kernel_rfl) (fun _ h => by cases h) wiresRun_row_tie rfl ⟨rfl, rfl⟩ (by kernel_rfl) rfl
    (fun f fn hf hfn => by
      obtain rfl : f = 13 := Option.some.inj ((show Tryd.prog.funcNamed "sennit/sennitlaw08.WiresRun" = some 13 by kernel_rfl).symm.trans hf) |>.symm
      obtain rfl : fn = Tryd.f13 := (Option.some.inj (Tryd.func13.symm.trans hfn)).symm
      exact ⟨by kernel_rfl, fun j t ht => by
        rw [Tryd.params13] at ht
        rcases j with _ | _ | j
        all_goals (simp at ht)
        all_goals (subst ht; kernel_rfl)⟩)
    (by kernel_rfl)
#print axioms wiresRun_card
end Go.Proofs.YteogoddnefeleaaDoor
