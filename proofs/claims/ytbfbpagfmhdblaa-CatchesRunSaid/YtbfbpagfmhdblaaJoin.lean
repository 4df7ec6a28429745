/- One list behind another one: 'append(x, y...)' where x has no room. -/
import Derived.Test.YtbfbpagfmhdblaaFresh
namespace Go.Proofs.Ytbfbpagfmhdblaa
open Go.RowKit
set_option linter.unusedVariables false
/-- One list behind another one. -/
def appL (L : Nat → Int) (n : Nat) (M : Nat → Int) (i : Nat) : Int := if i < n then L i else M (i - n)
theorem nums_app (k : IntKind) (L : Nat → Int) (n : Nat) (M : Nat → Int) (m : Nat) : nums k L n ++ nums k M m = nums k (appL L n M) (n + m) := by
  apply List.ext_getElem?
  intro i
  by_cases h : i < n
  · rw [List.getElem?_append_left (by rw [nums_len]; exact h), nums_get h, nums_get (by omega)]
    simp [appL, h]
  · rw [List.getElem?_append_right (by rw [nums_len]; omega), nums_len]
    by_cases h2 : i - n < m
    · rw [nums_get h2, nums_get (by omega)]
      simp [appL, h]
    · rw [List.getElem?_eq_none (by rw [nums_len]; omega), List.getElem?_eq_none (by rw [nums_len]; omega)]
theorem run_append_zero {P : Program} (w : World) (t ty e : TypeId) (i : TypeInfo) (ht : P.underlying t = some (.slice e)) (hi : P.info? e = some i) (b ax : Option Addr) (n c cx : Nat) (hnc : n ≤ c) :
    (Builtin.append_ #[t, t] ty #[.slice b n c, .slice ax 0 cx]).run P w = .ok (.slice b n c) w := by
  cases ax <;> cases b <;> simp [Builtin.append_, run_underlying ht, sizeOf, typeInfo, hi, Builtin.lenOf, Builtin.firstCells, loadCells, loadCellsFrom, storeCells, hnc]
theorem wpList_append_zero {P : Program} {w : World} {ops : Array Oper} {rest : List Oper} {o : Oper} {a : Act} {Q : Exit → Act → World → Prop} (hgd : o.guard = none) (s x : Operand) (t : TypeId)
    (ho : o.op = .call { callee := .builtin .append, args := #[s, x], argTypes := #[t, t] })
    (e : TypeId) (i : TypeInfo) (ht : P.underlying t = some (.slice e)) (hi : P.info? e = some i)
    (b ax : Option Addr) (n c cx : Nat) (hs : a.eval s = .slice b n c) (hx : a.eval x = .slice ax 0 cx) (hnc : n ≤ c)
    (h : wpList P ops Q rest (a.put o.dst (.slice b n c)) w) : wpList P ops Q (o :: rest) a w := by
  refine wpList_plain hgd fun K hK => ?_
  have hrun := run_append_zero (P := P) w t o.type e i ht hi b ax n c cx hnc
  unfold Oper.wp
  simp [execOp, ho, resolve, invoke, builtin, hs, hx, hrun, Result.andThen]
  exact hK _ _ h
theorem append_clip {P : Program} {w : World} {ops : Array Oper} {rest : List Oper} {o : Oper} {a : Act} {Q : Exit → Act → World → Prop} (hgd : o.guard = none) (s x : Operand) (t : TypeId)
    (ho : o.op = .call { callee := .builtin .append, args := #[s, x], argTypes := #[t, t] })
    (e : TypeId) (i : TypeInfo) (z : Value) (bytes : Nat) (ht : P.underlying t = some (.slice e)) (hi : P.info? e = some i) (hz : i.zero = some z)
    (hsize : i.size = 1) (hby : i.bytes = bytes) (hzs : z.cells.size = 1)
    (k : IntKind) (ao : Option Addr) (n : Nat) (L : Nat → Int) (hs : a.eval s = .slice ao n n) (hL : Rd k w ao n L) (hnil : ao = none → n = 0 ∧ n = 0)
    (ax : Option Addr) (m c : Nat) (M : Nat → Int) (hx : a.eval x = .slice ax m c) (hM : Rd k w ax m M) (hn : n + m ≤ 1000000000) (hbytes : bytes ≤ 1000)
    (h : ∀ a' c' w', Rd k w' a' (n + m) (appL L n M) → n + m ≤ c' → c' ≤ 9223372036854775807 → (a' = none → n + m = 0) → Below w.heap.size w w' → wpList P ops Q rest (a.put o.dst (.slice a' (n + m) c')) w') : wpList P ops Q (o :: rest) a w := by
  rcases Nat.eq_zero_or_pos m with rfl | hm
  · refine wpList_append_zero hgd s x t ho e i ht hi ao ax n n c hs hx (Nat.le_refl _) (h ao n w ?_ (Nat.le_refl _) (by omega) (fun e => by have := (hnil e).1; omega) (Below.refl _ _))
    exact fun j hj => by
      have := hL j hj
      simpa [appL, show j < n from hj] using this
  · obtain ⟨b0, o0, had, _⟩ := hM 0 hm
    have hb : (n + m) * bytes ≤ 1000000000 * 1000 := Nat.mul_le_mul hn hbytes
    refine wpList_append_grows w hgd s x t ho e i z 1 bytes ht hi hz hsize hby hzs (by decide) ao n n (nums k L n) hs hnil (by simp [nums_len]) (fun b hb => nums_news hL b hb) ⟨b0, o0, none⟩ m c (nums k M m) (by rw [hx, had]) (by simp [nums_len]) (nums_news hM _ had) (nums_one _ _ _) (by omega) (by unfold maxLen; omega) (by omega) ?_
    intro v' w' hown hg
    rw [nums_app] at hown
    obtain ⟨a', c', rfl, h1, h2, h3, h4⟩ := own_mine hown
    exact h a' c' w' h4.rd h1 h2 (fun e => (h3 e).1) (Below.grown (Below.refl _ _) hg (Nat.le_refl _) (by simp))
end Go.Proofs.Ytbfbpagfmhdblaa
