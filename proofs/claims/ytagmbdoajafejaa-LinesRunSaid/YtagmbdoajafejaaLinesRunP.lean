/- LinesRun: for whatever hop and whatever sendings the law returns true, and the sendings read afterwards as before. No conditions. -/
import Derived.Test.YtagmbdoajafejaaLawKit
import Derived.Test.YtagmbdoajafejaaLinesRunW
import Derived.Deep.Matrix
namespace Go.Proofs.Ytagmbdoajafejaa
open Go.ChangeShapes Go.WideShapes Go.ChangeAt Go.RowKit
open Go.ChangeMaps (open_string shut_string)
set_option linter.unusedVariables false
set_option linter.unusedSimpArgs false
set_option maxRecDepth 100000
open Go.Deep in
theorem rd_rows {H : Type} {enc : TypeId × Value → H} {W : World} {t e q : TypeId} {a : Option Addr} {n cap : Nat} {d : DataW H} {p : List MemPlace}
    (ht : Try.prog.underlying t = some (.slice e)) (he : Try.prog.underlying e = some (.slice q)) (hq : Try.prog.underlying q = some (.int .i64)) (ce : Try.prog.cellsOf e = 1) (cq : Try.prog.cellsOf q = 1)
    (h : DataW.Trod enc Try.prog W 0 (fun _ => true) true t (.slice a n cap) d p) : ∃ A M C L, SlSl W a n A M C L := by
  obtain ⟨fuel, hf⟩ := h
  rcases open_int_rows ht he hq ce cq hf with ⟨hcs, _⟩ | ⟨x, l, c, A, Ln, C, Z, hcs, _, hl, hm, _, hr⟩
  · simp [Value.cells] at hcs
    obtain ⟨rfl, rfl, rfl⟩ := hcs
    exact ⟨fun _ => none, fun _ => 0, fun _ => 0, fun _ _ => 0, fun i hi => absurd hi (Nat.not_lt_zero _)⟩
  · simp [Value.cells] at hcs
    obtain ⟨rfl, rfl, rfl⟩ := hcs
    refine ⟨A, Ln, C, fun r i => (Z r).getD i 0, fun r hr' => ?_⟩
    have h0 := hr 0 (by omega)
    obtain ⟨h1, h2, h3, h4, h5, h6, h7⟩ := hr r (by omega)
    obtain ⟨b, o, rfl, hb⟩ := addr_at h0.1 h1
    refine ⟨b, o, rfl, hb, h6, fun j hj => ?_, by unfold maxLen at h3; omega⟩
    cases hA : A r with
    | none => have := h6 hA; omega
    | some a' =>
      obtain ⟨_, h8⟩ := h7 a' hA
      obtain ⟨b', o', rfl, hb'⟩ := addr_at (h8 0 (by omega)) (h8 j (by omega))
      exact ⟨b', o', rfl, hb'⟩
theorem newInt_no (w : World) (hop : Int) (h1 : hop ≠ 1) (h2 : hop ≠ 2) : Calls Try.prog 12 #[.int .i64 hop] w fun e w' => e = .returned (.tuple #[.pointer none, .int .i64 1]) ∧ w = w' := by
  have hb : (decide (hop < 1) || decide (2 < hop)) = true := by simp; omega
  rcases (by omega : hop < 1 ∨ ¬ hop < 1 ∧ 2 < hop) with h | ⟨h, h'⟩
  · have e1 : decide (hop < 1) = true := by simp [h]
    go_enter Try.func12, Try.ntmps12
    go_wp2
    go_ret2
    exact ⟨rfl, rfl⟩
  · have e1 : decide (hop < 1) = false := by simp; omega
    have e2 : decide (2 < hop) = true := by simp [h']
    go_enter Try.func12, Try.ntmps12
    go_wp2
    go_ret2
    exact ⟨rfl, rfl⟩
set_option maxHeartbeats 2000000 in
theorem linesRun_any (w : World) (hop : Int) (la : Option Addr) (n cap : Nat) (A : Nat → Option Addr) (M C : Nat → Nat) (L : Nat → Nat → Int) (hl : SlSl w la n A M C L) :
    Calls Try.prog 4 #[.int .i64 hop, .slice la n cap] w fun e w' => e = .returned (.bool true) ∧ Below w.heap.size w w' := by
  by_cases hn : n ≤ 300
  · by_cases h1 : hop = 1
    · subst h1
      exact run_loop w w la n cap 0 0 0 1 A M C L hl hn (.inl rfl) (nwInt_1 w) (fun w0 h0 => (refNew_1 w0 _ h0))
    by_cases h2 : hop = 2
    · subst h2
      exact run_loop w w la n cap 0 0 0 2 A M C L hl hn (.inr rfl) (nwInt_2 w) (fun w0 h0 => (refNew_2 w0 _ h0))
    · have hn1 : decide ((300 : Int) < (n : Int)) = false := by simp; omega
      have N1 := Lib.hid (fun W => newInt_no W hop h1 h2)
      have N2 := Lib.hid (fun W => refNew_no W hop h1 h2)
      clear h1 h2 hl
      go_enter Try.func4, Try.ntmps4
      go_wp2_with fail
      refine (N1.out _).mono ?_
      rintro e _ ⟨rfl, rfl⟩
      go_wp2_with fail
      refine (N2.out _).mono ?_
      rintro e _ ⟨rfl, rfl⟩
      go_wp2_with fail
      refine (lives07 _).mono ?_
      rintro e wx ⟨rfl, hbL⟩
      go_wp2_with fail
      go_ret
      exact ⟨rfl, hbL⟩
  · have hn1 : decide ((300 : Int) < (n : Int)) = true := by simp; omega
    go_enter Try.func4, Try.ntmps4
    go_wp2_with fail
    refine (lives07 _).mono ?_
    rintro e wx ⟨rfl, hbL⟩
    go_wp2_with fail
    go_ret
    exact ⟨rfl, hbL⟩
set_option maxRecDepth 100000 in
set_option maxHeartbeats 2000000 in
theorem linesRun_lifted (os : Os) (started : os.Started) (H : Type) (enc : TypeId × Value → H) :
    ReturnsInHanded {} Try.checked os 4 .any (Rows.linesRunSpec.pre6 enc Try.prog Try.f4 Rows.linesRunRow.domain false) (Rows.linesRunSpec.post enc Try.prog Try.f4 false true false false) := by
  refine returnsInHanded_of_change (C := Try.checked) own started (by kernel_rfl) Try.func4
    (ChangeSpec.witness6 (enc := enc) (C := Try.checked) false ⟨#[], #[.int .i64 0, .slice none 0 0], []⟩ 8 (by kernel_rfl) (by kernel_rfl) (by kernel_rfl) (by kernel_rfl)) ?_
  intro W base args ds gs before hval0 hW hcnd _
  have hval : ∀ (j : Nat) t v, Try.f4.params[j]? = some t → args[j]? = some v → Value.okWide Try.prog W .any base t v := hval0
  have hW' := hW
  obtain ⟨p, q, hA0, hV, rfl, hfz, hnd⟩ := hW
  have hA : DataW.TrodAll enc Try.prog W 0 (fun _ => true) true Try.f4.params.toList args.toList ds p := hA0
  rw [Try.params4] at hA hval
  obtain ⟨v0, vs0, d0, ds0, p0, q0, hargs, rfl, rfl, h0, r0⟩ := trodAll_cons hA
  obtain ⟨v1, vs1, d1, ds1, p1, q1, rfl, rfl, rfl, h1, r1⟩ := trodAll_cons r0
  obtain ⟨rfl, rfl, rfl⟩ := trodAll_nil r1
  obtain rfl : args = #[v0, v1] := by cases args; simp_all
  obtain ⟨rfl, rfl⟩ := trodVars_none hV
  have k0 := h0
  have lt0 : ∀ x ∈ p0, x.block < W.heap.size := by obtain ⟨m, hm⟩ := k0; exact DataW.trod_lt m _ _ _ hm
  have k1 := h1
  have lt1 : ∀ x ∈ p1, x.block < W.heap.size := by obtain ⟨m, hm⟩ := k1; exact DataW.trod_lt m _ _ _ hm
  obtain ⟨x0, rfl, rfl, rfl, w0⟩ := open_int Try.underlying3 (hval 0 3 v0 rfl rfl) h0
  obtain ⟨a1, n1, c1, rfl⟩ := okWide_slice Try.underlying34 (hval 1 34 v1 rfl rfl)
  obtain ⟨A1, M1, C1, L1, s1⟩ := rd_rows Try.underlying34 Try.underlying41 (by kernel_rfl) (by kernel_rfl) (by kernel_rfl) h1
  clear hA0 hval0
  refine (linesRun_any W x0 a1 n1 c1 A1 M1 C1 L1 s1).mono fun e W' ⟨he, bel⟩ => ?_
  subst he
  exact ⟨_, rfl, _, _, _, [], _, [], hW', trodAll_mk1 (shut_bool Try.underlying4 _), (trodAll_cons_mk (Below.trod laidOut (by kernel_rfl) (of_decide_eq_true (by kernel_rfl)) k0 bel lt0) (trodAll_cons_mk (Below.trod laidOut (by kernel_rfl) (of_decide_eq_true (by kernel_rfl)) k1 bel lt1) trodAll_mk0)), rfl, bel.frame _, fun h => by cases h⟩
theorem linesRun_holds : Rows.LinesRunSaid :=
  OpenClaim.holds_of_wide 4 Try.f4 rfl rfl rfl rfl rfl rfl rfl ⟨rfl, rfl, rfl, rfl, rfl⟩ rfl rfl rfl rfl rfl (by kernel_rfl) Try.func4 (by kernel_rfl)
    (of_decide_eq_true (by kernel_rfl)) (by unfold Func.isWrapper; first | (rw [if_pos (by decide +kernel)]; kernel_rfl) | (rw [if_neg (by decide +kernel)]; exact ⟨rfl, rfl⟩))
    (fun os started H enc _ => linesRun_lifted os started H enc)
#print axioms linesRun_holds
end Go.Proofs.Ytagmbdoajafejaa
