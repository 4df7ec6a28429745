/- Lists of the call's own: what an answered list is. -/
import Derived.Test.YteogoddnefeleaaDoorApp
namespace Go.Proofs.YteogoddnefeleaaDoor
open Go.RowKit
set_option linter.unusedVariables false
/-- The list at a, n long, lies at the beginning of a block of its own, from block B on, and reads as L. -/
def Mine (k : IntKind) (E : TypeId) (B : Nat) (w : World) (a : Option Addr) (n : Nat) (L : Nat → Int) : Prop :=
  0 < n → ∃ g cur, a = some ⟨g, 0, none⟩ ∧ B ≤ g ∧ Blk w g cur E ∧ n ≤ cur.size ∧ ∀ i, i < n → cur[i]? = some (.int k (L i))
theorem Mine.below {k : IntKind} {E : TypeId} {B B' : Nat} {w w' : World} {a : Option Addr} {n : Nat} {L : Nat → Int} (h : Mine k E B w a n L) (hb : Below B' w w') (hB : w.heap.size ≤ B') : Mine k E B w' a n L := fun hn => by
  obtain ⟨g, cur, h1, h2, h3, h4⟩ := h hn
  exact ⟨g, cur, h1, h2, h3.below hb (Nat.lt_of_lt_of_le h3.lt hB), h4⟩
theorem Mine.mono {k : IntKind} {E : TypeId} {B B' : Nat} {w : World} {a : Option Addr} {n : Nat} {L : Nat → Int} (h : Mine k E B w a n L) (hB : B' ≤ B) : Mine k E B' w a n L := fun hn => by
  obtain ⟨g, cur, h1, h2, h3⟩ := h hn
  exact ⟨g, cur, h1, Nat.le_trans hB h2, h3⟩
theorem Mine.congr {k : IntKind} {E : TypeId} {B : Nat} {w : World} {a : Option Addr} {n : Nat} {L L' : Nat → Int} (h : Mine k E B w a n L) (e : ∀ i, i < n → L i = L' i) : Mine k E B w a n L' := fun hn => by
  obtain ⟨g, cur, h1, h2, h3, h4, h5⟩ := h hn
  exact ⟨g, cur, h1, h2, h3, h4, fun i hi => by rw [← e i hi]; exact h5 i hi⟩
theorem Mine.rd {k : IntKind} {E : TypeId} {B : Nat} {w : World} {a : Option Addr} {n : Nat} {L : Nat → Int} (h : Mine k E B w a n L) : Rd k w a n L := fun i hi => by
  obtain ⟨g, cur, h1, h2, h3, h4, h5⟩ := h (by omega)
  exact ⟨g, 0, h1, by simpa using h3.cell (h5 i hi)⟩
theorem Mine.nil (k : IntKind) (E : TypeId) (B : Nat) (w : World) (a : Option Addr) (L : Nat → Int) : Mine k E B w a 0 L := fun h => absurd h (Nat.lt_irrefl 0)
theorem nums_succ (k : IntKind) (T : Nat → Int) (m : Nat) : nums k T (m + 1) = nums k T m ++ [.int k (T m)] := by simp [nums, List.range_succ]
theorem nums_congr {k : IntKind} {L L' : Nat → Int} {n : Nat} (e : ∀ i, i < n → L i = L' i) : nums k L n = nums k L' n := by
  simp only [nums]
  exact List.map_congr_left fun i hi => by rw [e i (by simpa using hi)]
theorem own_mine {k : IntKind} {E : TypeId} {B : Nat} {w : World} {v : Value} {n : Nat} {T : Nat → Int} (h : w.ownsRow B E 1 v n (nums k T n)) :
    ∃ a c, v = .slice a n c ∧ n ≤ c ∧ c ≤ 9223372036854775807 ∧ (a = none → n = 0 ∧ c = 0) ∧ Mine k E B w a n T := by
  rcases h.2 with ⟨rfl, h0⟩ | ⟨g, cap, cur, rfl, h2, h3, h4, h5, h6, h7⟩
  · subst h0
    exact ⟨none, 0, rfl, Nat.le_refl _, by omega, fun _ => ⟨rfl, rfl⟩, Mine.nil _ _ _ _ _ _⟩
  · refine ⟨_, cap, rfl, h4, by unfold maxLen at h5; omega, fun e => by simp at e, fun hn => ⟨g, cur, rfl, h2, h3, by omega, fun i hi => ?_⟩⟩
    exact nums_take (m := n * 1) (by simpa using h7) hi
/-- A slice that came in has no address only where it is nil. -/
def NilOk (a : Option Addr) (n c : Nat) : Prop := n ≤ c ∧ c ≤ 9223372036854775807 ∧ (a = none → n = 0 ∧ c = 0)
theorem NilOk.le {a : Option Addr} {n c : Nat} (h : NilOk a n c) : n ≤ c := h.1
theorem NilOk.max {a : Option Addr} {n c : Nat} (h : NilOk a n c) : c ≤ 9223372036854775807 := h.2.1
/-- One call more, behind a call: nothing of what was there has turned. -/
theorem bthen {w0 w1 w2 : World} (h : Below w0.heap.size w0 w1) (k : Below w1.heap.size w1 w2) : Below w0.heap.size w0 w2 := h.trans (k.mono h.size)
theorem bfrom {B : Nat} {w0 w1 w2 : World} (h : Below B w0 w1) (hB : B ≤ w1.heap.size) (k : Below w1.heap.size w1 w2) : Below B w0 w2 := h.trans (k.mono hB)
theorem below_drewN (w : World) (q : Nat) : Below w.heap.size w (w.drewN q) := bdrewN (Below.refl _ _) q
theorem Mine.set {k : IntKind} {E : TypeId} {B : Nat} {w : World} {g n : Nat} {L : Nat → Int} (h : Mine k E B w (some ⟨g, 0, none⟩) n L) (i : Nat) (hi : i < n) (x : Int) (L' : Nat → Int) (e : ∀ j, j < n → L' j = if j = i then x else L j) :
    Mine k E B (w.setCell ⟨g, i, none⟩ (.int k x)) (some ⟨g, 0, none⟩) n L' := fun hn => by
  obtain ⟨g', cur, h1, h2, h3, h4, h5⟩ := h hn
  simp only [Option.some.injEq, Addr.mk.injEq, and_true] at h1
  subst h1
  refine ⟨g, _, rfl, h2, h3.set i _, by simpa using h4, fun j hj => ?_⟩
  rw [Array.getElem?_setIfInBounds, e j hj]
  by_cases hji : i = j
  · subst hji
    rw [if_pos rfl, if_pos (by omega), if_pos rfl]
  · rw [if_neg hji, if_neg (fun e => hji e.symm)]
    exact h5 j hj
theorem Mine.some {k : IntKind} {E : TypeId} {B : Nat} {w : World} {a : Option Addr} {n : Nat} {L : Nat → Int} (h : Mine k E B w a n L) (hn : 0 < n) : ∃ g, a = some ⟨g, 0, none⟩ ∧ B ≤ g ∧ g < w.heap.size ∧ (∀ i, i < n → w.cell? ⟨g, i, none⟩ = Option.some (.int k (L i))) ∧ ∀ i, w.frozen? ⟨g, i, none⟩ = false := by
  obtain ⟨g, cur, h1, h2, h3, h4, h5⟩ := h hn
  exact ⟨g, h1, h2, h3.lt, fun i hi => h3.cell (h5 i hi), fun i => h3.free i⟩
theorem Mine.none {k : IntKind} {E : TypeId} {B : Nat} {w : World} {a : Option Addr} {n : Nat} {L : Nat → Int} (h : Mine k E B w a n L) : a = Option.none → n = 0 ∧ n = 0 := fun e => by
  rcases Nat.eq_zero_or_pos n with h0 | h0
  · exact ⟨h0, h0⟩
  · obtain ⟨g, h1, _⟩ := h.some h0
    rw [e] at h1
    simp at h1
/-- At a call: of the world no more is kept than is said. -/
theorem calls_abs {P : Program} {f : FuncId} {args : Array Value} {w : World} {R : Ending → World → Prop} (Pr : World → Prop) (h : Pr w) (k : ∀ w', Pr w' → Calls P f args w' R) : Calls P f args w R := k w h
/-- A list that a text writes out. -/
def litL (l : List Int) (i : Nat) : Int := l.getD i 0
theorem rdLit (k : IntKind) (E : TypeId) (w : World) (l : List Int) : Rd k (w.alloc (.cells (l.map (Value.int k)).toArray E)) (some ⟨w.heap.size, 0, Option.none⟩) l.length (litL l) :=
  Rd.of_blk (Blk.new _ _ _) fun i hi => by simp [litL, hi]
theorem rdLit2 (k : IntKind) (E : TypeId) (w : World) (o : Obj) (l : List Int) : Rd k ((w.alloc o).alloc (.cells (l.map (Value.int k)).toArray E)) (some ⟨w.heap.size + 1, 0, Option.none⟩) l.length (litL l) := by
  have := rdLit k E (w.alloc o) l
  simpa using this
theorem below_alloc (w : World) (o : Obj) : Below w.heap.size w (w.alloc o) := (Below.refl _ _).alloc (Nat.le_refl _) _
theorem grown_alloc {W w' : World} {o : Obj} {r : Option Nat} (h : (W.alloc o).grownBy w' r) : W.grownBy w' r :=
  ⟨h.os, h.tape, h.output, by have := h.size; simp at this; omega, fun k hk hne => (h.block k (by simp; omega) hne).trans (Below.heap_alloc _ _ _ hk)⟩
/-- One value more behind a list of the call's own. -/
theorem append_one {P : Program} {W : World} {ops : Array Oper} {rest : List Oper} {o : Oper} {a : Act} {Q : Exit → Act → World → Prop} (hgd : o.guard = none) (s x : Operand) (t : TypeId)
    (ho : o.op = .call { callee := .builtin .append, args := #[s, x], argTypes := #[t, t] })
    (base : Nat) (e : TypeId) (i : TypeInfo) (z : Value) (bytes : Nat) (ht : P.underlying t = some (.slice e)) (hi : P.info? e = some i) (hz : i.zero = some z)
    (hsize : i.size = 1) (hby : i.bytes = bytes) (hzs : z.cells.size = 1)
    (v : Value) (n : Nat) (xs : List Value) (hs : a.eval s = v) (hown : W.ownsRow base e 1 v n xs) (u : Value) (hx : a.eval x = .slice (some ⟨W.heap.size, 0, none⟩) 1 1) (hu : u.oneCell' = true)
    (hn : n ≤ 1000000000) (hbytes : bytes ≤ 1000) (hbase : base ≤ W.heap.size)
    (h : ∀ g c w', w'.ownsRow base e 1 (.slice (some ⟨g, 0, none⟩) (n + 1) c) (n + 1) (xs ++ [u]) → W.grownBy w' v.ownBlock → Below base W w' → wpList P ops Q rest (a.put o.dst (.slice (some ⟨g, 0, none⟩) (n + 1) c)) w') :
    wpList P ops Q (o :: rest) a (W.alloc (.cells #[u] e)) := by
  refine append_src hgd s x t ho base e i z bytes ht hi hz hsize hby hzs v n xs hs (hown.alloc _) (some ⟨W.heap.size, 0, none⟩) 1 1 [u] hx (by simp) rfl ?_ ?_ (by omega) ?_ (by simp; omega) ?_
  · intro ad had j y hj
    simp only [Option.some.injEq] at had
    subst had
    match j, hj with
    | 0, hj => simp at hj; subst hj; simp [Addr.add, go_sem]
  · intro y hy
    simp at hy
    subst hy
    exact hu
  · have : (n + 1) * bytes ≤ 1000000001 * 1000 := Nat.mul_le_mul (by omega) hbytes
    omega
  · intro v' w' hown' hg hiff
    have hg' := grown_alloc hg
    obtain ⟨g, c, rfl⟩ : ∃ g c, v' = .slice (some ⟨g, 0, none⟩) (n + 1) c := by
      rcases hown'.2 with ⟨_, h2⟩ | ⟨g, c, cur, h1, _⟩
      · exact absurd h2 (by omega)
      · exact ⟨g, c, h1⟩
    exact h g c w' hown' hg' (Below.grown (Below.refl _ _) hg' hbase (fun k hk => (hown.lt k hk).1))
end Go.Proofs.YteogoddnefeleaaDoor
