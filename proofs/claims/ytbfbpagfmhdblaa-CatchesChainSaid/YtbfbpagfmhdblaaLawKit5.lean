/- What the frames of laws need besides: payloads, two bools, two payloads. -/
import Derived.Test.YtbfbpagfmhdblaaLawKit
import Derived.Lib.SmallJoins
namespace Go.Proofs.Ytbfbpagfmhdblaa
open Go.ChangeShapes Go.WideShapes Go.ChangeAt Go.RowKit Go.Joins
set_option linter.unusedVariables false
set_option maxRecDepth 100000
/-- The four numbers of a payload are numbers of their kinds. -/
def PayOk (k st sq v : Int) : Prop := (Lit.int .u8 k).wf = true ∧ (Lit.int .u8 st).wf = true ∧ (Lit.int .u32 sq).wf = true ∧ (Lit.int .u32 v).wf = true
theorem PayOk.in {k st sq v : Int} (h : PayOk k st sq v) : (0 ≤ k ∧ k < 256) ∧ (0 ≤ st ∧ st < 256) ∧ (0 ≤ sq ∧ sq < 4294967296) ∧ (0 ≤ v ∧ v < 4294967296) :=
  ⟨wf_u8 h.1, wf_u8 h.2.1, wf_u32 h.2.2.1, wf_u32 h.2.2.2⟩
theorem open_pay {H : Type} {enc : TypeId × Value → H} {W : World} {base : Nat} {sp : Nat → Bool} {held : Bool} {v : Value} {d : DataW H} {p : List MemPlace} {r : Reach} {b0 : Nat}
    (hval : Value.okWide Try.prog W r b0 25 v) (h : DataW.Trod enc Try.prog W base sp held 25 v d p) :
    ∃ k st sq vl, v = .agg #[.int .u8 k, .int .u8 st, .int .u32 sq, .int .u32 vl] ∧ PayOk k st sq vl := by
  obtain ⟨v0, v1, v2, v3, y0, y1, y2, y3, n, rfl, _, _, h0, h1, h2, h3⟩ := open_agg4 Try.underlying25 (by kernel_rfl) (by kernel_rfl) hval h
  obtain ⟨a, e0, _, w0⟩ := DataW.trod_int (k := .u8) (by kernel_rfl) h0
  obtain ⟨b, e1, _, w1⟩ := DataW.trod_int (k := .u8) (by kernel_rfl) h1
  obtain ⟨c, e2, _, w2⟩ := DataW.trod_int (k := .u32) (by kernel_rfl) h2
  obtain ⟨e, e3, _, w3⟩ := DataW.trod_int (k := .u32) (by kernel_rfl) h3
  simp only [List.cons.injEq, and_true] at e0 e1 e2 e3
  subst e0 e1 e2 e3
  exact ⟨a, b, c, e, rfl, w0, w1, w2, w3⟩
theorem open_arrB2 {H : Type} {enc : TypeId × Value → H} {P : Program} {W : World} {base : Nat} {sp : Nat → Bool} {held : Bool} {t e : TypeId} {v : Value} {d : DataW H} {p : List MemPlace} {r : Reach} {b0 : Nat}
    (ht : P.underlying t = some (.array 2 e)) (he : P.underlying e = some .bool) (hce : P.cellsOf e = 1) (hct : P.cellsOf t = 2) (hval : Value.okWide P W r b0 t v) (h : DataW.Trod enc P W base sp held t v d p) :
    ∃ x y, v = .agg #[.bool x, .bool y] := by
  simp only [Value.okWide, ht] at hval
  obtain ⟨cs, rfl, h2, _⟩ := hval
  rw [hct] at h2
  obtain ⟨c0, c1, rfl⟩ : ∃ c0 c1, cs = #[c0, c1] := by
    obtain ⟨l⟩ := cs
    match l, h2 with
    | [c0, c1], _ => exact ⟨c0, c1, rfl⟩
  obtain ⟨fuel, hf⟩ := h
  simp only [Value.cells] at hf
  obtain ⟨y0, y1, n, q0, q1⟩ := trod_array2 ht hce hf
  obtain ⟨a, e1, _⟩ := DataW.trod_bool he q0
  obtain ⟨b, e2, _⟩ := DataW.trod_bool he q1
  simp only [List.cons.injEq, and_true] at e1 e2
  subst e1
  subst e2
  exact ⟨a, b, rfl⟩
end Go.Proofs.Ytbfbpagfmhdblaa
