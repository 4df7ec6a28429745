/- What the frames of laws need besides: an act (six one-cell fields), by value or as cells. -/
import Derived.Test.YteogoddnefeleaaDoorWiresVoidW
import Derived.Test.YteogoddnefeleaaDoorLawKit
import Derived.Lib.SmallJoins
namespace Go.Proofs.YteogoddnefeleaaDoor
open Go.ChangeShapes Go.WideShapes Go.ChangeAt Go.RowKit Go.Joins
set_option linter.unusedVariables false
set_option maxRecDepth 100000
/-- The numbers of an act are numbers of their kinds. -/
def ActOk (kd lk x dr nd hp : Int) : Prop := (Lit.int .u8 kd).wf = true ∧ (Lit.int .i64 lk).wf = true ∧ (Lit.int .i64 x).wf = true ∧ (Lit.int .u8 dr).wf = true ∧ (Lit.int .i64 nd).wf = true ∧ (Lit.int .i64 hp).wf = true
theorem act_trod {H : Type} {enc : TypeId × Value → H} {W : World} {base : Nat} {sp : Nat → Bool} {held : Bool} {fuel : Nat} {cs : List Value} {y : DataW H × List MemPlace}
    (h : DataW.trod enc Tryd.prog W base sp held fuel 66 cs = some y) :
    ∃ kd lk x dr nd hp, cs = [.int .u8 kd, .int .i64 lk, .int .i64 x, .int .u8 dr, .int .i64 nd, .int .i64 hp] ∧ ActOk kd lk x dr nd hp := by
  obtain ⟨xs, n, _, rfl, hl, hlen, hf⟩ := DataW.trod_struct Tryd.underlying66 h
  have hC : Tryd.prog.cellsOf 66 = 6 := by kernel_rfl
  rw [hC] at hl
  match xs, hlen, cs, hl with
  | [y0, y1, y2, y3, y4, y5], _, [c0, c1, c2, c3, c4, c5], _ =>
    have h0 : DataW.trod enc Tryd.prog W base sp held n _ [c0] = some y0 := hf 0 _ rfl
    have h1 : DataW.trod enc Tryd.prog W base sp held n _ [c1] = some y1 := hf 1 _ rfl
    have h2 : DataW.trod enc Tryd.prog W base sp held n _ [c2] = some y2 := hf 2 _ rfl
    have h3 : DataW.trod enc Tryd.prog W base sp held n _ [c3] = some y3 := hf 3 _ rfl
    have h4 : DataW.trod enc Tryd.prog W base sp held n _ [c4] = some y4 := hf 4 _ rfl
    have h5 : DataW.trod enc Tryd.prog W base sp held n _ [c5] = some y5 := hf 5 _ rfl
    obtain ⟨a0, e0, _, w0⟩ := DataW.trod_int (k := .u8) (by kernel_rfl) h0
    obtain ⟨a1, e1, _, w1⟩ := DataW.trod_int (k := .i64) (by kernel_rfl) h1
    obtain ⟨a2, e2, _, w2⟩ := DataW.trod_int (k := .i64) (by kernel_rfl) h2
    obtain ⟨a3, e3, _, w3⟩ := DataW.trod_int (k := .u8) (by kernel_rfl) h3
    obtain ⟨a4, e4, _, w4⟩ := DataW.trod_int (k := .i64) (by kernel_rfl) h4
    obtain ⟨a5, e5, _, w5⟩ := DataW.trod_int (k := .i64) (by kernel_rfl) h5
    simp only [List.cons.injEq, and_true] at e0 e1 e2 e3 e4 e5
    subst e0 e1 e2 e3 e4 e5
    exact ⟨a0, a1, a2, a3, a4, a5, rfl, w0, w1, w2, w3, w4, w5⟩
theorem open_act {H : Type} {enc : TypeId × Value → H} {W : World} {base : Nat} {sp : Nat → Bool} {held : Bool} {v : Value} {d : DataW H} {p : List MemPlace} {r : Reach} {b0 : Nat}
    (hval : Value.okWide Tryd.prog W r b0 66 v) (h : DataW.Trod enc Tryd.prog W base sp held 66 v d p) :
    ∃ kd lk x dr nd hp, v = actV kd lk x dr nd hp ∧ ActOk kd lk x dr nd hp := by
  obtain ⟨cs, rfl, hsz⟩ := okWide_struct Tryd.underlying66 hval
  obtain ⟨fuel, hf⟩ := h
  simp only [Value.cells] at hf
  obtain ⟨kd, lk, x, dr, nd, hp, e, ok⟩ := act_trod hf
  obtain ⟨l⟩ := cs
  simp only at e
  subst e
  exact ⟨kd, lk, x, dr, nd, hp, rfl, ok⟩
end Go.Proofs.YteogoddnefeleaaDoor
