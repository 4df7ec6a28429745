/- The document's wires: all that was ever sent; New, Given, Here, Set. -/
import Derived.Test.YteogoddnefeleaaDoorWiresG
import Derived.Test.YteogoddnefeleaaDoorRingsE
import Derived.Laws.OwnMore
namespace Go.Proofs.YteogoddnefeleaaDoor
open Go.RowKit Go.Maps
set_option linter.unusedSimpArgs false
set_option linter.unusedVariables false
set_option maxRecDepth 100000
/-- A tick's row, as its cells. -/
def rowA (n : Nat) (f : Int → Option Int) : Array Value := Array.ofFn (n := 4 * n * 2) fun i => if i.val % 2 = 0 then Value.int .i64 ((f ((i.val / 2 : Nat) : Int)).getD 0) else Value.bool (f ((i.val / 2 : Nat) : Int)).isSome
theorem rowA_get {n : Nat} {f : Int → Option Int} {k : Nat} (h : k < 4 * n) : (rowA n f)[k * 2]? = some (.int .i64 ((f k).getD 0)) ∧ (rowA n f)[k * 2 + 1]? = some (.bool (f k).isSome) := by
  unfold rowA
  rw [Array.getElem?_ofFn, Array.getElem?_ofFn, dif_pos (by omega), dif_pos (by omega)]
  have e1 : k * 2 % 2 = 0 := by omega
  have e2 : (k * 2 + 1) % 2 ≠ 0 := by omega
  have e3 : k * 2 / 2 = k := by omega
  have e4 : (k * 2 + 1) / 2 = k := by omega
  simp [e1, e2, e3, e4]
def setO (n : Nat) (g : Int → Option Int) (k : Int) (o : Option Int) (x : Int) : Option Int := if 0 ≤ k ∧ k < 4 * n then (if x = k then o else g x) else g x
theorem give_setO {n : Nat} {g : Int → Option Int} {k v : Int} : giveG n g k v = setO n g k (some v) := rfl
theorem take_setO {n : Nat} {g : Int → Option Int} {k : Int} : takeG n g k = setO n g k none := rfl
theorem rowA_set {n : Nat} {f : Int → Option Int} {k : Nat} (h : k < 4 * n) (o : Option Int) : ((rowA n f).setIfInBounds (k * 2) (.int .i64 (o.getD 0))).setIfInBounds (k * 2 + 1) (.bool o.isSome) = rowA n (setO n f k o) := by
  have hg : ∀ (x : Nat), setO n f k o (x : Int) = if x = k then o else f x := fun x => by
    unfold setO
    rw [if_pos (by omega)]
    by_cases hx : x = k
    · rw [if_pos hx, if_pos (by omega)]
    · rw [if_neg hx, if_neg (by omega)]
  have hA : ∀ (g : Int → Option Int) (i : Nat), (rowA n g)[i]? = if i < 4 * n * 2 then some (if i % 2 = 0 then Value.int .i64 ((g ((i / 2 : Nat) : Int)).getD 0) else Value.bool (g ((i / 2 : Nat) : Int)).isSome) else none := fun g i => by
    unfold rowA
    rw [Array.getElem?_ofFn]
    by_cases hi : i < 4 * n * 2
    · rw [dif_pos hi, if_pos hi]
    · rw [dif_neg hi, if_neg hi]
  have hz : (rowA n f).size = 4 * n * 2 := by simp [rowA]
  apply Array.ext_getElem?
  intro i
  rw [Array.getElem?_setIfInBounds, Array.getElem?_setIfInBounds, hA, hA]
  simp only [Array.size_setIfInBounds, hz, hg]
  by_cases a1 : k * 2 + 1 = i
  · subst a1
    have e2 : (k * 2 + 1) % 2 ≠ 0 := by omega
    have e4 : (k * 2 + 1) / 2 = k := by omega
    have e5 : k * 2 + 1 < 4 * n * 2 := by omega
    simp [e2, e4, e5]
  · rw [if_neg a1]
    by_cases a2 : k * 2 = i
    · subst a2
      have e1 : k * 2 % 2 = 0 := by omega
      have e3 : k * 2 / 2 = k := by omega
      have e5 : k * 2 < 4 * n * 2 := by omega
      simp [e1, e3, e5]
    · rw [if_neg a2, if_neg (show ¬ i / 2 = k by omega)]
theorem rowA_made {n : Nat} : madeCells #[.int .i64 0, .bool false] (4 * n * 2) = rowA n noneG := by
  apply Array.ext
  · simp [madeCells, rowA]
  · intro i h1 h2
    simp only [madeCells, rowA, noneG, Array.getElem_ofFn, Array.getElem_map, Array.getElem_range]
    by_cases h : i % 2 = 0
    · simp [h]
    · have h' : i % 2 = 1 := by omega
      simp [h']
/-- The rows, as slices. -/
def rowsL (n : Nat) (rb : Nat → Nat) (L : Nat) : List Value := (List.range L).map fun i => Value.slice (some ⟨rb i, 0, none⟩) (4 * n) (4 * n)
theorem rowsL_get {n : Nat} {rb : Nat → Nat} {L i : Nat} (h : i < L) : (rowsL n rb L)[i]? = some (.slice (some ⟨rb i, 0, none⟩) (4 * n) (4 * n)) := by
  simp [rowsL, h]
/-- The document's wires: L rows, the last one is this tick's. -/
structure Ref8 (B : Nat) (w : World) (mw n : Nat) (v : Value) (L : Nat) (rb : Nat → Nat) (F : Nat → Int → Option Int) : Prop where
  blk : Blk w mw #[.int .i64 n, v] 73
  own : w.ownsRow B 99 1 v L (rowsL n rb L)
  row : ∀ i, i < L → Blk w (rb i) (rowA n (F i)) 69
  inj : ∀ i j, i < L → j < L → i ≠ j → rb i ≠ rb j
  ge : B ≤ mw ∧ ∀ i, i < L → B ≤ rb i
  hn : 4 ≤ n ∧ n ≤ 16
  pos : 0 < L
theorem Ref8.open {B : Nat} {w : World} {mw n : Nat} {v : Value} {L : Nat} {rb : Nat → Nat} {F : Nat → Int → Option Int} (h : Ref8 B w mw n v L rb F) :
    ∃ g cap cur, v = .slice (some ⟨g, 0, none⟩) L cap ∧ B ≤ g ∧ Blk w g cur 99 ∧ ∀ i, i < L → w.cell? ⟨g, i, none⟩ = some (.slice (some ⟨rb i, 0, none⟩) (4 * n) (4 * n)) := by
  rcases h.own.2 with ⟨rfl, h0⟩ | ⟨g, cap, cur, rfl, h2, h3, h4, h5, h6, h7⟩
  · have := h.pos
    omega
  · refine ⟨g, cap, cur, rfl, h2, h3, fun i hi => ?_⟩
    have hb : Blk w g cur 99 := h3
    refine hb.cell ?_
    have hj := rowsL_get (n := n) (rb := rb) hi
    rw [← h7, List.getElem?_take] at hj
    split at hj
    · simpa using hj
    · simp at hj
/-- All objects are kept but those of some types. -/
def Keep (Ts : List TypeId) (w w' : World) : Prop := w.heap.size ≤ w'.heap.size ∧ ∀ k, k < w.heap.size → (∀ c T, Blk w k c T → T ∉ Ts) → w'.heap[k]? = w.heap[k]?
/-- All blocks are kept but those of some types. -/
def KeepB (Ts : List TypeId) (w w' : World) : Prop := w.heap.size ≤ w'.heap.size ∧ ∀ b c T, Blk w b c T → T ∉ Ts → Blk w' b c T
theorem Blk.same {w : World} {b : Nat} {c c' : Array Value} {t t' : TypeId} (h : Blk w b c t) (h' : Blk w b c' t') : t = t' := by
  have := h.out.symm.trans h'.out
  simp at this
  exact this.2
theorem Keep.blocks {Ts : List TypeId} {w w' : World} (h : Keep Ts w w') : KeepB Ts w w' :=
  ⟨h.1, fun b c T hb hT => (h.2 b hb.lt (fun c' T' hb' => (hb'.same hb) ▸ hT)).trans hb⟩
theorem Keep.refl (Ts : List TypeId) (w : World) : Keep Ts w w := ⟨Nat.le_refl _, fun _ _ _ => rfl⟩
theorem Keep.drewN {Ts : List TypeId} {w w' : World} (h : Keep Ts w w') (q : Nat) : Keep Ts w (w'.drewN q) := h
theorem Ref8.keep {B : Nat} {w w' : World} {mw n : Nat} {v : Value} {L : Nat} {rb : Nat → Nat} {F : Nat → Int → Option Int} {Ts : List TypeId} (h : Ref8 B w mw n v L rb F) (k : KeepB Ts w w')
    (h1 : 73 ∉ Ts) (h2 : 99 ∉ Ts) (h3 : 69 ∉ Ts) : Ref8 B w' mw n v L rb F := by
  refine ⟨k.2 _ _ _ h.blk h1, ⟨h.own.1, ?_⟩, fun i hi => k.2 _ _ _ (h.row i hi) h3, h.inj, h.ge, h.hn, h.pos⟩
  rcases h.own.2 with h0 | ⟨g, cap, cur, rfl, h4, h5, r⟩
  · exact .inl h0
  · have hgb : Blk w g cur 99 := h5
    exact .inr ⟨g, cap, cur, rfl, h4, k.2 _ _ _ hgb h2, r⟩
theorem WiresAt.keep {B : Nat} {w w' : World} {pw bl bg n ng : Nat} {lb lw : Nat → Nat} {p1 p2 g : Int → Option Int} {t : Int} {Ts : List TypeId} (h : WiresAt B w pw bl bg n ng lb lw p1 p2 g t) (k : Keep Ts w w')
    (h1 : 80 ∉ Ts) (h2 : 102 ∉ Ts) (h3 : 105 ∉ Ts) : WiresAt B w' pw bl bg n ng lb lw p1 p2 g t := by
  have hm : ∀ b, (∀ c T, ¬ Blk w b c T) → b < w.heap.size → w'.heap[b]? = w.heap[b]? := fun b hb hlt => k.2 b hlt (fun c T hc => absurd hc (hb c T))
  refine ⟨k.blocks.2 _ _ _ h.blk h1, h.hn, h.lines.block (hm bl (fun c T hb => MapOf.ne_blk h.lines hb rfl) h.lines.lt), h.given.block (hm bg (fun c T hb => MapOf.ne_blk h.given hb rfl) h.given.lt), h.ne, fun i hi => ?_, h.inj, h.ge⟩
  obtain ⟨l1, l2⟩ := h.line i hi
  exact ⟨k.blocks.2 _ _ _ l1 h2, k.blocks.2 _ _ _ l2 h3⟩
end Go.Proofs.YteogoddnefeleaaDoor
