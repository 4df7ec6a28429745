/- Appending to a slice of the call's own, from whatever source. -/
import Derived.Test.YteogoddnefeleaaDoorRead
import Derived.Laws.AppendOwnNone
namespace Go.Proofs.YteogoddnefeleaaDoor
open Go.RowKit
theorem grown_refl (w : World) (r : Option Nat) : w.grownBy w r := ⟨rfl, rfl, rfl, Nat.le_refl _, fun _ _ _ => rfl⟩
theorem append_src {P : Program} {w : World} {ops : Array Oper} {rest : List Oper} {o : Oper} {a : Act} {Q : Exit → Act → World → Prop} (hgd : o.guard = none) (s x : Operand) (t : TypeId)
    (ho : o.op = .call { callee := .builtin .append, args := #[s, x], argTypes := #[t, t] })
    (base : Nat) (e : TypeId) (i : TypeInfo) (z : Value) (bytes : Nat) (ht : P.underlying t = some (.slice e)) (hi : P.info? e = some i) (hz : i.zero = some z)
    (hsize : i.size = 1) (hby : i.bytes = bytes) (hzs : z.cells.size = 1)
    (v : Value) (n : Nat) (xs : List Value) (hs : a.eval s = v) (hown : w.ownsRow base e 1 v n xs)
    (sp : Option Addr) (m c : Nat) (news : List Value) (hx : a.eval x = .slice sp m c) (hnil : sp = none → m = 0 ∧ c = 0) (hl : news.length = m) (hnews : ∀ ad, sp = some ad → ∀ j u, news[j]? = some u → w.cell? (ad.add j) = some u) (h1 : ∀ u ∈ news, u.oneCell' = true)
    (h63 : n + m ≤ 9223372036854775807) (hbytes : (n + m) * bytes ≤ 140737488355328) (hbase : base ≤ w.heap.size)
    (h : ∀ v' w', w'.ownsRow base e 1 v' (n + m) (xs ++ news) → w.grownBy w' v.ownBlock → (v' = .slice none 0 0 ↔ v = .slice none 0 0 ∧ m = 0) → wpList P ops Q rest (a.put o.dst v') w') : wpList P ops Q (o :: rest) a w := by
  cases sp with
  | none =>
    obtain ⟨rfl, rfl⟩ := hnil rfl
    obtain rfl : news = [] := List.eq_nil_of_length_eq_zero hl
    exact wpList_append_own_none hgd s x t ho base e i 1 ht hi v n xs hs hown hx (h v w (by simpa using hown) (grown_refl _ _) (by simp))
  | some ad => exact wpList_append_own w hgd s x t ho base e i z 1 bytes ht hi hz hsize hby hzs (by decide) v n xs hs hown ad m c news hx (by simpa using hl) (hnews ad rfl) h1 (by unfold maxLen; omega) hbytes hbase h
/-- The cells behind a slice that reads as numbers. -/
def nums (k : IntKind) (L : Nat → Int) (n : Nat) : List Value := (List.range n).map fun i => .int k (L i)
theorem nums_len (k : IntKind) (L : Nat → Int) (n : Nat) : (nums k L n).length = n := by simp [nums]
theorem nums_get {k : IntKind} {L : Nat → Int} {n j : Nat} (h : j < n) : (nums k L n)[j]? = some (.int k (L j)) := by simp [nums, h]
theorem nums_one (k : IntKind) (L : Nat → Int) (n : Nat) : ∀ u ∈ nums k L n, u.oneCell' = true := by
  intro u hu
  simp only [nums, List.mem_map] at hu
  obtain ⟨i, _, rfl⟩ := hu
  rfl
theorem nums_news {k : IntKind} {w : World} {ao : Option Addr} {n : Nat} {L : Nat → Int} (h : Rd k w ao n L) : ∀ ad, ao = some ad → ∀ j u, (nums k L n)[j]? = some u → w.cell? (ad.add j) = some u := by
  intro ad had j u hj
  have hjn : j < n := by
    have := (List.getElem?_eq_some_iff.1 hj).1
    simpa [nums] using this
  rw [nums_get hjn] at hj
  simp only [Option.some.injEq] at hj
  subst hj
  obtain ⟨b, o, h1, h2⟩ := h j hjn
  rw [had] at h1
  simp only [Option.some.injEq] at h1
  subst h1
  by_cases hj0 : j = 0
  · subst hj0; simpa [Addr.add] using h2
  · simpa [Addr.add, hj0] using h2
theorem nums_take {k : IntKind} {L : Nat → Int} {n j : Nat} {cur : Array Value} {m : Nat} (h : cur.toList.take m = nums k L n) (hj : j < n) : cur[j]? = some (.int k (L j)) := by
  have h1 := nums_get (k := k) (L := L) hj
  rw [← h] at h1
  rw [List.getElem?_take] at h1
  split at h1
  · simpa using h1
  · simp at h1
end Go.Proofs.YteogoddnefeleaaDoor
