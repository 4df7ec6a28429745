/- What the frames of laws need besides: two payloads. -/
import Derived.Test.YtlhiamgaobbdnaaLawKit5
namespace Go.Proofs.Ytlhiamgaobbdnaa
open Go.ChangeShapes Go.WideShapes Go.ChangeAt Go.RowKit Go.Joins
set_option linter.unusedVariables false
set_option maxRecDepth 100000
theorem trod_pay {H : Type} {enc : TypeId × Value → H} {w : World} {base : Nat} {sp : Nat → Bool} {held : Bool} {fuel : Nat} {c0 c1 c2 c3 : Value} {x : DataW H × List MemPlace}
    (h : DataW.trod enc Try.prog w base sp held fuel 25 [c0, c1, c2, c3] = some x) :
    ∃ k st sq vl, c0 = .int .u8 k ∧ c1 = .int .u8 st ∧ c2 = .int .u32 sq ∧ c3 = .int .u32 vl ∧ PayOk k st sq vl := by
  obtain ⟨y0, y1, y2, y3, n, _, _, h0, h1, h2, h3⟩ := trod_struct4 Try.underlying25 h
  obtain ⟨a, e0, _, w0⟩ := DataW.trod_int (k := .u8) (by kernel_rfl) h0
  obtain ⟨b, e1, _, w1⟩ := DataW.trod_int (k := .u8) (by kernel_rfl) h1
  obtain ⟨c, e2, _, w2⟩ := DataW.trod_int (k := .u32) (by kernel_rfl) h2
  obtain ⟨e, e3, _, w3⟩ := DataW.trod_int (k := .u32) (by kernel_rfl) h3
  have t1 : Try.prog.cellsOf 22 = 1 := by kernel_rfl
  have t2 : Try.prog.cellsOf 5 = 1 := by kernel_rfl
  have t3 : Try.prog.cellsOf 23 = 1 := by kernel_rfl
  simp [t1, t2, t3] at e0 e1 e2 e3
  exact ⟨a, b, c, e, e0, e1, e2, e3, w0, w1, w2, w3⟩
theorem open_arrP2 {H : Type} {enc : TypeId × Value → H} {W : World} {base : Nat} {sp : Nat → Bool} {held : Bool} {t : TypeId} {v : Value} {d : DataW H} {p : List MemPlace} {r : Reach} {b0 : Nat}
    (ht : Try.prog.underlying t = some (.array 2 25)) (hct : Try.prog.cellsOf t = 8) (hval : Value.okWide Try.prog W r b0 t v) (h : DataW.Trod enc Try.prog W base sp held t v d p) :
    ∃ k0 s0 q0 v0 k1 s1 q1 v1, v = .agg #[.int .u8 k0, .int .u8 s0, .int .u32 q0, .int .u32 v0, .int .u8 k1, .int .u8 s1, .int .u32 q1, .int .u32 v1] ∧ PayOk k0 s0 q0 v0 ∧ PayOk k1 s1 q1 v1 := by
  have hce : Try.prog.cellsOf 25 = 4 := by kernel_rfl
  simp only [Value.okWide, ht] at hval
  obtain ⟨cs, rfl, h2, _⟩ := hval
  rw [hct] at h2
  obtain ⟨c0, c1, c2, c3, c4, c5, c6, c7, rfl⟩ : ∃ c0 c1 c2 c3 c4 c5 c6 c7, cs = #[c0, c1, c2, c3, c4, c5, c6, c7] := by
    obtain ⟨l⟩ := cs
    match l, h2 with
    | [c0, c1, c2, c3, c4, c5, c6, c7], _ => exact ⟨c0, c1, c2, c3, c4, c5, c6, c7, rfl⟩
  obtain ⟨fuel, hf⟩ := h
  simp only [Value.cells] at hf
  cases fuel with
  | zero => simp [DataW.trod] at hf
  | succ n =>
    unfold DataW.trod at hf
    rw [ht] at hf
    have r3 : List.range 2 = [0, 1] := rfl
    simp [r3, hce] at hf
    obtain ⟨_, hf⟩ := hf
    cases h0 : DataW.trod enc Try.prog W base sp held n 25 [c0, c1, c2, c3] with
    | none => simp [h0] at hf
    | some y0 =>
      cases h1 : DataW.trod enc Try.prog W base sp held n 25 [c4, c5, c6, c7] with
      | none => simp [h0, h1] at hf
      | some y1 =>
        obtain ⟨a, b, c, e, rfl, rfl, rfl, rfl, w0⟩ := trod_pay h0
        obtain ⟨a', b', c', e', rfl, rfl, rfl, rfl, w1⟩ := trod_pay h1
        exact ⟨a, b, c, e, a', b', c', e', rfl, w0, w1⟩
end Go.Proofs.Ytlhiamgaobbdnaa
