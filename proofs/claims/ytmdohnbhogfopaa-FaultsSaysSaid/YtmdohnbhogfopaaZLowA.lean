/- Several texts, one behind the other: Read App Fresh LawKit. -/
import Derived.Test.YtmdohnbhogfopaaZBase
import Derived.Test.YtmdohnbhogfopaaZSlots
import Derived.Laws.AppendOwnNone
import Derived.Test.YtmdohnbhogfopaaZLawBase
/- What a slice reads as. -/
namespace Go.Proofs.Ytmdohnbhogfopaa
open Go.RowKit
/-- Where ways meet again, at the end of a block. -/
theorem wp_cutQ {P : Program} {c : Code} {Q : Exit → Act → World → Prop} {a : Act} {w : World} (R : Act → World → Prop)
    (first : ∀ K' : Act → World → Prop, (∀ a' w', True → R a' w' → K' a' w') → c.wp P (Exit.then K' Q) a w) (rest : ∀ a' w', R a' w' → Q .normal a' w') : c.wp P Q a w :=
  Code.wp_mono (fun e a w q => by cases e <;> first | exact rest _ _ q | exact q) (first R fun _ _ _ h => h)
/-- A slice (its address, its length) reads as the numbers L. -/
def Rd (k : IntKind) (w : World) (ao : Option Addr) (n : Nat) (L : Nat → Int) : Prop :=
  ∀ i, i < n → ∃ b o, ao = some ⟨b, o, none⟩ ∧ w.cell? ⟨b, o + i, none⟩ = some (.int k (L i))
theorem Rd.below {k : IntKind} {w w' : World} {ao : Option Addr} {n : Nat} {L : Nat → Int} {B : Nat} (h : Rd k w ao n L) (hb : Below B w w') (hB : w.heap.size ≤ B) : Rd k w' ao n L := fun i hi => by
  obtain ⟨b, o, h1, h2⟩ := h i hi
  exact ⟨b, o, h1, below_cell h2 hb (Nat.lt_of_lt_of_le (World.block_lt_of_cell? w _ h2) hB)⟩
theorem Rd.drewN {k : IntKind} {w : World} {ao : Option Addr} {n : Nat} {L : Nat → Int} (h : Rd k w ao n L) (q : Nat) : Rd k (w.drewN q) ao n L := h
theorem Rd.drew {k : IntKind} {w : World} {ao : Option Addr} {n : Nat} {L : Nat → Int} (h : Rd k w ao n L) : Rd k w.drew ao n L := h
theorem Rd.of_blk {k : IntKind} {w : World} {g n : Nat} {cur : Array Value} {t : TypeId} {L : Nat → Int} (h : Blk w g cur t) (hc : ∀ i, i < n → cur[i]? = some (.int k (L i))) : Rd k w (some ⟨g, 0, none⟩) n L :=
  fun i hi => ⟨g, 0, rfl, by simpa using h.cell (hc i hi)⟩
theorem Rd.congr {k : IntKind} {w : World} {ao : Option Addr} {n : Nat} {L L' : Nat → Int} (h : Rd k w ao n L) (e : ∀ i, i < n → L i = L' i) : Rd k w ao n L' := fun i hi => by rw [← e i hi]; exact h i hi
theorem Rd.touch {k : IntKind} {w w' : World} {ao : Option Addr} {n : Nat} {L : Nat → Int} {S : List Nat} (h : Rd k w ao n L) (ht : Touch S w w') (hn : ∀ a, ao = some a → a.block ∉ S) : Rd k w' ao n L := fun i hi => by
  obtain ⟨b, o, h1, h2⟩ := h i hi
  exact ⟨b, o, h1, touch_cell h2 ht (by simpa using hn _ h1)⟩
end Go.Proofs.Ytmdohnbhogfopaa
/- Appending to a slice of the call's own, from whatever source. -/
namespace Go.Proofs.Ytmdohnbhogfopaa
open Go.RowKit
theorem grown_refl (w : World) (r : Option Nat) : w.grownBy w r := ⟨rfl, rfl, rfl, Nat.le_refl _, fun _ _ _ => rfl⟩
theorem append_src {P : Program} {w : World} {ops : Array Oper} {rest : List Oper} {o : Oper} {a : Act} {Q : Exit → Act → World → Prop} (hgd : o.guard = none) (s x : Operand) (t : TypeId)
    (ho : o.op = .call { callee := .builtin .append, args := #[s, x], argTypes := #[t, t] })
    (base : Nat) (e : TypeId) (i : TypeInfo) (z : Value) (bytes : Nat) (ht : P.underlying t = some (.slice e)) (hi : P.info? e = some i) (hz : i.zero = some z)
    (hsize : i.size = 1) (hby : i.bytes = bytes) (hzs : z.cells.size = 1)
    (v : Value) (n : Nat) (xs : List Value) (hs : a.eval s = v) (hown : w.ownsRow base e 1 v n xs)
    (sp : Option Addr) (m c : Nat) (news : List Value) (hx : a.eval x = .slice sp m c) (hnil : sp = none → m = 0 ∧ c = 0) (hl : news.length = m) (hnews : ∀ ad, sp = some ad → ∀ j u, news[j]? = some u → w.cell? (ad.add j) = some u) (h1 : ∀ u ∈ news, u.oneCell' = true)
    (h63 : n + m ≤ 9223372036854775807) (hbytes : (n + m) * bytes ≤ 140737488355328) (hbase : base ≤ w.heap.size)
    (h : ∀ v' w', w'.ownsRow base e 1 v' (n + m) (xs ++ news) → w.grownBy w' v.ownBlock → (v' = .slice none 0 0 ↔ v = .slice none 0 0 ∧ m = 0) → wpList P ops Q rest (a.put o.dst v') w') : wpList P ops Q (o :: rest) a w := by
  cases sp with
  | none =>
    obtain ⟨rfl, rfl⟩ := hnil rfl
    obtain rfl : news = [] := List.eq_nil_of_length_eq_zero hl
    exact wpList_append_own_none hgd s x t ho base e i 1 ht hi v n xs hs hown hx (h v w (by simpa using hown) (grown_refl _ _) (by simp))
  | some ad => exact wpList_append_own w hgd s x t ho base e i z 1 bytes ht hi hz hsize hby hzs (by decide) v n xs hs hown ad m c news hx (by simpa using hl) (hnews ad rfl) h1 (by unfold maxLen; omega) hbytes hbase h
/-- The cells behind a slice that reads as numbers. -/
def nums (k : IntKind) (L : Nat → Int) (n : Nat) : List Value := (List.range n).map fun i => .int k (L i)
theorem nums_len (k : IntKind) (L : Nat → Int) (n : Nat) : (nums k L n).length = n := by simp [nums]
theorem nums_get {k : IntKind} {L : Nat → Int} {n j : Nat} (h : j < n) : (nums k L n)[j]? = some (.int k (L j)) := by simp [nums, h]
theorem nums_one (k : IntKind) (L : Nat → Int) (n : Nat) : ∀ u ∈ nums k L n, u.oneCell' = true := by
  intro u hu
  simp only [nums, List.mem_map] at hu
  obtain ⟨i, _, rfl⟩ := hu
  rfl
theorem nums_news {k : IntKind} {w : World} {ao : Option Addr} {n : Nat} {L : Nat → Int} (h : Rd k w ao n L) : ∀ ad, ao = some ad → ∀ j u, (nums k L n)[j]? = some u → w.cell? (ad.add j) = some u := by
  intro ad had j u hj
  have hjn : j < n := by
    have := (List.getElem?_eq_some_iff.1 hj).1
    simpa [nums] using this
  rw [nums_get hjn] at hj
  simp only [Option.some.injEq] at hj
  subst hj
  obtain ⟨b, o, h1, h2⟩ := h j hjn
  rw [had] at h1
  simp only [Option.some.injEq] at h1
  subst h1
  by_cases hj0 : j = 0
  · subst hj0; simpa [Addr.add] using h2
  · simpa [Addr.add, hj0] using h2
theorem nums_take {k : IntKind} {L : Nat → Int} {n j : Nat} {cur : Array Value} {m : Nat} (h : cur.toList.take m = nums k L n) (hj : j < n) : cur[j]? = some (.int k (L j)) := by
  have h1 := nums_get (k := k) (L := L) hj
  rw [← h] at h1
  rw [List.getElem?_take] at h1
  split at h1
  · simpa using h1
  · simp at h1
end Go.Proofs.Ytmdohnbhogfopaa
/- Lists of the call's own: what an answered list is. -/
namespace Go.Proofs.Ytmdohnbhogfopaa
open Go.RowKit
set_option linter.unusedVariables false
/-- The list at a, n long, lies at the beginning of a block of its own, from block B on, and reads as L. -/
def Mine (k : IntKind) (E : TypeId) (B : Nat) (w : World) (a : Option Addr) (n : Nat) (L : Nat → Int) : Prop :=
  0 < n → ∃ g cur, a = some ⟨g, 0, none⟩ ∧ B ≤ g ∧ Blk w g cur E ∧ n ≤ cur.size ∧ ∀ i, i < n → cur[i]? = some (.int k (L i))
theorem Mine.below {k : IntKind} {E : TypeId} {B B' : Nat} {w w' : World} {a : Option Addr} {n : Nat} {L : Nat → Int} (h : Mine k E B w a n L) (hb : Below B' w w') (hB : w.heap.size ≤ B') : Mine k E B w' a n L := fun hn => by
  obtain ⟨g, cur, h1, h2, h3, h4⟩ := h hn
  exact ⟨g, cur, h1, h2, h3.below hb (Nat.lt_of_lt_of_le h3.lt hB), h4⟩
theorem Mine.mono {k : IntKind} {E : TypeId} {B B' : Nat} {w : World} {a : Option Addr} {n : Nat} {L : Nat → Int} (h : Mine k E B w a n L) (hB : B' ≤ B) : Mine k E B' w a n L := fun hn => by
  obtain ⟨g, cur, h1, h2, h3⟩ := h hn
  exact ⟨g, cur, h1, Nat.le_trans hB h2, h3⟩
theorem Mine.congr {k : IntKind} {E : TypeId} {B : Nat} {w : World} {a : Option Addr} {n : Nat} {L L' : Nat → Int} (h : Mine k E B w a n L) (e : ∀ i, i < n → L i = L' i) : Mine k E B w a n L' := fun hn => by
  obtain ⟨g, cur, h1, h2, h3, h4, h5⟩ := h hn
  exact ⟨g, cur, h1, h2, h3, h4, fun i hi => by rw [← e i hi]; exact h5 i hi⟩
theorem Mine.rd {k : IntKind} {E : TypeId} {B : Nat} {w : World} {a : Option Addr} {n : Nat} {L : Nat → Int} (h : Mine k E B w a n L) : Rd k w a n L := fun i hi => by
  obtain ⟨g, cur, h1, h2, h3, h4, h5⟩ := h (by omega)
  exact ⟨g, 0, h1, by simpa using h3.cell (h5 i hi)⟩
theorem Mine.nil (k : IntKind) (E : TypeId) (B : Nat) (w : World) (a : Option Addr) (L : Nat → Int) : Mine k E B w a 0 L := fun h => absurd h (Nat.lt_irrefl 0)
theorem nums_succ (k : IntKind) (T : Nat → Int) (m : Nat) : nums k T (m + 1) = nums k T m ++ [.int k (T m)] := by simp [nums, List.range_succ]
theorem nums_congr {k : IntKind} {L L' : Nat → Int} {n : Nat} (e : ∀ i, i < n → L i = L' i) : nums k L n = nums k L' n := by
  simp only [nums]
  exact List.map_congr_left fun i hi => by rw [e i (by simpa using hi)]
theorem own_mine {k : IntKind} {E : TypeId} {B : Nat} {w : World} {v : Value} {n : Nat} {T : Nat → Int} (h : w.ownsRow B E 1 v n (nums k T n)) :
    ∃ a c, v = .slice a n c ∧ n ≤ c ∧ c ≤ 9223372036854775807 ∧ (a = none → n = 0 ∧ c = 0) ∧ Mine k E B w a n T := by
  rcases h.2 with ⟨rfl, h0⟩ | ⟨g, cap, cur, rfl, h2, h3, h4, h5, h6, h7⟩
  · subst h0
    exact ⟨none, 0, rfl, Nat.le_refl _, by omega, fun _ => ⟨rfl, rfl⟩, Mine.nil _ _ _ _ _ _⟩
  · refine ⟨_, cap, rfl, h4, by unfold maxLen at h5; omega, fun e => by simp at e, fun hn => ⟨g, cur, rfl, h2, h3, by omega, fun i hi => ?_⟩⟩
    exact nums_take (m := n * 1) (by simpa using h7) hi
/-- A slice that came in has no address only where it is nil. -/
def NilOk (a : Option Addr) (n c : Nat) : Prop := n ≤ c ∧ c ≤ 9223372036854775807 ∧ (a = none → n = 0 ∧ c = 0)
theorem NilOk.le {a : Option Addr} {n c : Nat} (h : NilOk a n c) : n ≤ c := h.1
theorem NilOk.max {a : Option Addr} {n c : Nat} (h : NilOk a n c) : c ≤ 9223372036854775807 := h.2.1
/-- One call more, behind a call: nothing of what was there has turned. -/
theorem bthen {w0 w1 w2 : World} (h : Below w0.heap.size w0 w1) (k : Below w1.heap.size w1 w2) : Below w0.heap.size w0 w2 := h.trans (k.mono h.size)
theorem bfrom {B : Nat} {w0 w1 w2 : World} (h : Below B w0 w1) (hB : B ≤ w1.heap.size) (k : Below w1.heap.size w1 w2) : Below B w0 w2 := h.trans (k.mono hB)
theorem below_drewN (w : World) (q : Nat) : Below w.heap.size w (w.drewN q) := bdrewN (Below.refl _ _) q
theorem Mine.set {k : IntKind} {E : TypeId} {B : Nat} {w : World} {g n : Nat} {L : Nat → Int} (h : Mine k E B w (some ⟨g, 0, none⟩) n L) (i : Nat) (hi : i < n) (x : Int) (L' : Nat → Int) (e : ∀ j, j < n → L' j = if j = i then x else L j) :
    Mine k E B (w.setCell ⟨g, i, none⟩ (.int k x)) (some ⟨g, 0, none⟩) n L' := fun hn => by
  obtain ⟨g', cur, h1, h2, h3, h4, h5⟩ := h hn
  simp only [Option.some.injEq, Addr.mk.injEq, and_true] at h1
  subst h1
  refine ⟨g, _, rfl, h2, h3.set i _, by simpa using h4, fun j hj => ?_⟩
  rw [Array.getElem?_setIfInBounds, e j hj]
  by_cases hji : i = j
  · subst hji
    rw [if_pos rfl, if_pos (by omega), if_pos rfl]
  · rw [if_neg hji, if_neg (fun e => hji e.symm)]
    exact h5 j hj
theorem Mine.some {k : IntKind} {E : TypeId} {B : Nat} {w : World} {a : Option Addr} {n : Nat} {L : Nat → Int} (h : Mine k E B w a n L) (hn : 0 < n) : ∃ g, a = some ⟨g, 0, none⟩ ∧ B ≤ g ∧ g < w.heap.size ∧ (∀ i, i < n → w.cell? ⟨g, i, none⟩ = Option.some (.int k (L i))) ∧ ∀ i, w.frozen? ⟨g, i, none⟩ = false := by
  obtain ⟨g, cur, h1, h2, h3, h4, h5⟩ := h hn
  exact ⟨g, h1, h2, h3.lt, fun i hi => h3.cell (h5 i hi), fun i => h3.free i⟩
theorem Mine.none {k : IntKind} {E : TypeId} {B : Nat} {w : World} {a : Option Addr} {n : Nat} {L : Nat → Int} (h : Mine k E B w a n L) : a = Option.none → n = 0 ∧ n = 0 := fun e => by
  rcases Nat.eq_zero_or_pos n with h0 | h0
  · exact ⟨h0, h0⟩
  · obtain ⟨g, h1, _⟩ := h.some h0
    rw [e] at h1
    simp at h1
/-- At a call: of the world no more is kept than is said. -/
theorem calls_abs {P : Program} {f : FuncId} {args : Array Value} {w : World} {R : Ending → World → Prop} (Pr : World → Prop) (h : Pr w) (k : ∀ w', Pr w' → Calls P f args w' R) : Calls P f args w R := k w h
/-- A list that a text writes out. -/
def litL (l : List Int) (i : Nat) : Int := l.getD i 0
theorem rdLit (k : IntKind) (E : TypeId) (w : World) (l : List Int) : Rd k (w.alloc (.cells (l.map (Value.int k)).toArray E)) (some ⟨w.heap.size, 0, Option.none⟩) l.length (litL l) :=
  Rd.of_blk (Blk.new _ _ _) fun i hi => by simp [litL, hi]
theorem rdLit2 (k : IntKind) (E : TypeId) (w : World) (o : Obj) (l : List Int) : Rd k ((w.alloc o).alloc (.cells (l.map (Value.int k)).toArray E)) (some ⟨w.heap.size + 1, 0, Option.none⟩) l.length (litL l) := by
  have := rdLit k E (w.alloc o) l
  simpa using this
theorem below_alloc (w : World) (o : Obj) : Below w.heap.size w (w.alloc o) := (Below.refl _ _).alloc (Nat.le_refl _) _
theorem grown_alloc {W w' : World} {o : Obj} {r : Option Nat} (h : (W.alloc o).grownBy w' r) : W.grownBy w' r :=
  ⟨h.os, h.tape, h.output, by have := h.size; simp at this; omega, fun k hk hne => (h.block k (by simp; omega) hne).trans (Below.heap_alloc _ _ _ hk)⟩
/-- One value more behind a list of the call's own. -/
theorem append_one {P : Program} {W : World} {ops : Array Oper} {rest : List Oper} {o : Oper} {a : Act} {Q : Exit → Act → World → Prop} (hgd : o.guard = none) (s x : Operand) (t : TypeId)
    (ho : o.op = .call { callee := .builtin .append, args := #[s, x], argTypes := #[t, t] })
    (base : Nat) (e : TypeId) (i : TypeInfo) (z : Value) (bytes : Nat) (ht : P.underlying t = some (.slice e)) (hi : P.info? e = some i) (hz : i.zero = some z)
    (hsize : i.size = 1) (hby : i.bytes = bytes) (hzs : z.cells.size = 1)
    (v : Value) (n : Nat) (xs : List Value) (hs : a.eval s = v) (hown : W.ownsRow base e 1 v n xs) (u : Value) (hx : a.eval x = .slice (some ⟨W.heap.size, 0, none⟩) 1 1) (hu : u.oneCell' = true)
    (hn : n ≤ 1000000000) (hbytes : bytes ≤ 1000) (hbase : base ≤ W.heap.size)
    (h : ∀ g c w', w'.ownsRow base e 1 (.slice (some ⟨g, 0, none⟩) (n + 1) c) (n + 1) (xs ++ [u]) → W.grownBy w' v.ownBlock → Below base W w' → wpList P ops Q rest (a.put o.dst (.slice (some ⟨g, 0, none⟩) (n + 1) c)) w') :
    wpList P ops Q (o :: rest) a (W.alloc (.cells #[u] e)) := by
  refine append_src hgd s x t ho base e i z bytes ht hi hz hsize hby hzs v n xs hs (hown.alloc _) (some ⟨W.heap.size, 0, none⟩) 1 1 [u] hx (by simp) rfl ?_ ?_ (by omega) ?_ (by simp; omega) ?_
  · intro ad had j y hj
    simp only [Option.some.injEq] at had
    subst had
    match j, hj with
    | 0, hj => simp at hj; subst hj; simp [Addr.add, go_sem]
  · intro y hy
    simp at hy
    subst hy
    exact hu
  · have : (n + 1) * bytes ≤ 1000000001 * 1000 := Nat.mul_le_mul (by omega) hbytes
    omega
  · intro v' w' hown' hg hiff
    have hg' := grown_alloc hg
    obtain ⟨g, c, rfl⟩ : ∃ g c, v' = .slice (some ⟨g, 0, none⟩) (n + 1) c := by
      rcases hown'.2 with ⟨_, h2⟩ | ⟨g, c, cur, h1, _⟩
      · exact absurd h2 (by omega)
      · exact ⟨g, c, h1⟩
    exact h g c w' hown' hg' (Below.grown (Below.refl _ _) hg' hbase (fun k hk => (hown.lt k hk).1))
end Go.Proofs.Ytmdohnbhogfopaa
/- What a law's arguments read as, more kinds. -/
namespace Go.Proofs.Ytmdohnbhogfopaa
open Go.ChangeShapes Go.WideShapes Go.ChangeAt Go.RowKit
theorem rd_nums {H : Type} {enc : TypeId × Value → H} {P : Program} {W : World} {t e : TypeId} {k : IntKind} {a : Option Addr} {n cap : Nat} {d : DataW H} {p : List MemPlace}
    (ht : P.underlying t = some (.slice e)) (he : P.underlying e = some (.int k)) (hc : P.cellsOf e = 1) (h : DataW.Trod enc P W 0 (fun _ => true) true t (.slice a n cap) d p) :
    ∃ L : Nat → Int, NilOk a n cap ∧ Rd k W a n L ∧ ∀ i, i < n → (Lit.int k (L i)).wf = true := by
  obtain ⟨fuel, hf⟩ := h
  rcases open_ints ht he hc hf with ⟨hcs, _⟩ | ⟨x, l, c, zs, hcs, _, hl, hm, hz, _, hcell, hwz⟩
  · simp [Value.cells] at hcs
    obtain ⟨rfl, rfl, rfl⟩ := hcs
    exact ⟨fun _ => 0, ⟨Nat.le_refl _, by omega, fun _ => ⟨rfl, rfl⟩⟩, fun i hi => absurd hi (by omega), fun i hi => absurd hi (by omega)⟩
  · simp [Value.cells] at hcs
    obtain ⟨rfl, rfl, rfl⟩ := hcs
    refine ⟨fun i => zs.getD i 0, ⟨hl, by unfold maxLen at hm; omega, fun e => by simp at e⟩, fun i hi => ?_, fun i hi => ?_⟩
    · have hi' : i < zs.length := by simp at hz; omega
      obtain ⟨b, o, rfl, hb⟩ := addr_at (hcell 0 (by omega)) (hcell i hi')
      exact ⟨b, o, rfl, hb⟩
    · have hi' : i < zs.length := by simp at hz; omega
      exact hwz _ (by simp [List.getD_eq_getElem?_getD, hi'])
theorem wf_u64 {x : Int} (h : (Lit.int .u64 x).wf = true) : ∃ z : Nat, x = z ∧ z < 18446744073709551616 := by
  have h1 : IntKind.u64.min = 0 := by decide
  have h2 : IntKind.u64.max = 18446744073709551615 := by decide
  simp [Lit.wf, h1, h2] at h
  exact ⟨x.toNat, by omega, by omega⟩
theorem wf_u8 {x : Int} (h : (Lit.int .u8 x).wf = true) : 0 ≤ x ∧ x < 256 := by
  have h1 : IntKind.u8.min = 0 := by decide
  have h2 : IntKind.u8.max = 255 := by decide
  simp [Lit.wf, h1, h2] at h
  omega
theorem wf_u16 {x : Int} (h : (Lit.int .u16 x).wf = true) : 0 ≤ x ∧ x < 65536 := by
  have h1 : IntKind.u16.min = 0 := by decide
  have h2 : IntKind.u16.max = 65535 := by decide
  simp [Lit.wf, h1, h2] at h
  omega
theorem wf_u32 {x : Int} (h : (Lit.int .u32 x).wf = true) : 0 ≤ x ∧ x < 4294967296 := by
  have h1 : IntKind.u32.min = 0 := by decide
  have h2 : IntKind.u32.max = 4294967295 := by decide
  simp [Lit.wf, h1, h2] at h
  omega
theorem wf_i64 {x : Int} (h : (Lit.int .i64 x).wf = true) : -9223372036854775808 ≤ x ∧ x < 9223372036854775808 := by
  have h1 : IntKind.i64.min = -9223372036854775808 := by decide
  have h2 : IntKind.i64.max = 9223372036854775807 := by decide
  simp [Lit.wf, h1, h2] at h
  omega
theorem trod_array2 {H : Type} {enc : TypeId × Value → H} {P : Program} {w : World} {base : Nat} {spare : Nat → Bool} {held : Bool} {t e : TypeId} {fuel : Nat} {c0 c1 : Value} {x : DataW H × List MemPlace} (ht : P.underlying t = some (.array 2 e)) (hce : P.cellsOf e = 1)
    (h : DataW.trod enc P w base spare held fuel t [c0, c1] = some x) :
    ∃ y0 y1 n, DataW.trod enc P w base spare held n e [c0] = some y0 ∧ DataW.trod enc P w base spare held n e [c1] = some y1 := by
  cases fuel with
  | zero => simp [DataW.trod] at h
  | succ n =>
    unfold DataW.trod at h
    rw [ht] at h
    have r3 : List.range 2 = [0, 1] := rfl
    simp [r3, hce] at h
    obtain ⟨_, h⟩ := h
    cases h0 : DataW.trod enc P w base spare held n e [c0] with
    | none => simp [h0] at h
    | some y0 =>
      cases h1 : DataW.trod enc P w base spare held n e [c1] with
      | none => simp [h0, h1] at h
      | some y1 => exact ⟨y0, y1, n, h0, h1⟩
theorem open_arr2 {H : Type} {enc : TypeId × Value → H} {P : Program} {W : World} {base : Nat} {sp : Nat → Bool} {held : Bool} {t e : TypeId} {k : IntKind} {v : Value} {d : DataW H} {p : List MemPlace} {r : Reach} {b0 : Nat}
    (ht : P.underlying t = some (.array 2 e)) (he : P.underlying e = some (.int k)) (hce : P.cellsOf e = 1) (hct : P.cellsOf t = 2) (hval : Value.okWide P W r b0 t v) (h : DataW.Trod enc P W base sp held t v d p) :
    ∃ x y, v = .agg #[.int k x, .int k y] ∧ (Lit.int k x).wf = true ∧ (Lit.int k y).wf = true := by
  simp only [Value.okWide, ht] at hval
  obtain ⟨cs, rfl, h2, _⟩ := hval
  rw [hct] at h2
  obtain ⟨c0, c1, rfl⟩ : ∃ c0 c1, cs = #[c0, c1] := by
    obtain ⟨l⟩ := cs
    match l, h2 with
    | [c0, c1], _ => exact ⟨c0, c1, rfl⟩
  obtain ⟨fuel, hf⟩ := h
  simp only [Value.cells] at hf
  obtain ⟨y0, y1, n, q0, q1⟩ := trod_array2 ht hce hf
  obtain ⟨a, e1, _, w1⟩ := DataW.trod_int he q0
  obtain ⟨b, e2, _, w2⟩ := DataW.trod_int he q1
  simp only [List.cons.injEq, and_true] at e1 e2
  subst e1
  subst e2
  exact ⟨a, b, rfl, w1, w2⟩
end Go.Proofs.Ytmdohnbhogfopaa
