/- Several texts, one behind the other: BigA BigB BigC BigD BigE. -/
import Derived.Test.YtmdohnbhogfopaaZLowA
import Derived.Deep.MidRow
import Derived.Great.BuildSlice
import Derived.Test.YtmdohnbhogfopaaProg
import Derived.Laws.OwnMore
/- Values of many cells, whole: box, alloc, load, store as steps; nothing is unrolled. -/
namespace Go.Proofs.Ytmdohnbhogfopaa
open Go.RowKit
set_option linter.unusedSimpArgs false
set_option linter.unusedVariables false
section
variable {P : Program}
theorem wp_val {op : Oper} {a : Act} {w w' : World} {v : Value} {K : Act → World → Prop} {Q : Exit → Act → World → Prop} (hr : (execOp a.eval op).run P w = .ok (.value v) w') (h : K (a.put op.dst v) w') : op.wp P a w K Q := by
  unfold Oper.wp
  rw [hr]
  exact h
theorem wp_skp {op : Oper} {a : Act} {w w' : World} {K : Act → World → Prop} {Q : Exit → Act → World → Prop} (hr : (execOp a.eval op).run P w = .ok .skip w') (h : K (a.put op.dst undef) w') : op.wp P a w K Q := by
  unfold Oper.wp
  rw [hr]
  exact h
theorem wpList_val {ops : Array Oper} {rest : List Oper} {op : Oper} {a : Act} {w w' : World} {v : Value} {Q : Exit → Act → World → Prop} (hgd : op.guard = none) (hr : (execOp a.eval op).run P w = .ok (.value v) w')
    (h : wpList P ops Q rest (a.put op.dst v) w') : wpList P ops Q (op :: rest) a w :=
  wpList_plain hgd fun _ hK => wp_val hr (hK _ _ h)
theorem run_box_row (w : World) (ty : TypeId) (cells : Array Value) : (Instr.box ty (.agg cells)).run P w = .ok (.pointer (some ⟨w.heap.size, 0, none⟩)) (w.alloc (.cells cells ty)) := by
  simp [Instr.box, newVar, newRow, Value.cells]
theorem ex_box {a : Act} {op : Oper} {w : World} (ty : TypeId) (x : Operand) (ho : op.op = .box ty x) (cells : Array Value) (hx : a.eval x = .agg cells) :
    (execOp a.eval op).run P w = .ok (.value (.pointer (some ⟨w.heap.size, 0, none⟩))) (w.alloc (.cells cells ty)) := by
  unfold execOp
  simp only [ho, hx, Sem.run_bind, run_box_row, Result.andThen_ok, Sem.run_pure]
theorem ex_alloc {a : Act} {op : Oper} {w : World} (ty : TypeId) (ho : op.op = .alloc ty) (i : TypeInfo) (z : Value) (hi : P.info? ty = some i) (hz : i.zero = some z) :
    (execOp a.eval op).run P w = .ok (.value (.pointer (some ⟨w.heap.size, 0, none⟩))) (w.alloc (.cells z.cells ty)) := by
  unfold execOp
  simp [ho, Instr.alloc, newVar, newRow, zeroValue, typeInfo, hi, hz]
theorem run_loadVar_at (w : World) (ad : Addr) (ty : TypeId) (cs : List Value) (d : TypeDesc) (hc : ∀ j v, cs[j]? = some v → w.cell? (ad.add j) = some v)
    (hu : P.underlying ty = some d) (hd : d.isRow = true) (hi : (P.info? ty).map (·.size) = some cs.length) :
    (loadVar ty ad).run P w = .ok (.agg cs.toArray) w := by
  have hl : (loadCells ad cs.length).run P w = .ok cs.toArray w := run_loadCells_list (P := P) w ad cs hc
  cases hq : P.info? ty with
  | none => simp [hq] at hi
  | some i =>
    have hs : i.size = cs.length := by simpa [hq] using hi
    have hagg : (isAgg ty).run P w = .ok true w := by
      unfold isAgg
      rw [Sem.run_bind, run_underlying hu w]
      cases d <;> simp_all
    simp [loadVar, Sem.run_bind, hagg, sizeOf, typeInfo, hq, hs, hl]
theorem ex_load {a : Act} {op : Oper} {w : World} (ty : TypeId) (x : Operand) (ho : op.op = .load ty x) (ad : Addr) (hx : a.eval x = .pointer (some ad)) (cs : List Value) (d : TypeDesc) (hc : ∀ j v, cs[j]? = some v → w.cell? (ad.add j) = some v)
    (hu : P.underlying ty = some d) (hd : d.isRow = true) (hi : (P.info? ty).map (·.size) = some cs.length) :
    (execOp a.eval op).run P w = .ok (.value (.agg cs.toArray)) w := by
  unfold execOp
  simp only [ho, hx, Instr.loadAt, Instr.sureAddr, Sem.run_bind, Sem.run_pure, Result.andThen_ok, run_loadVar_at w ad ty cs d hc hu hd hi]
theorem ex_load_row {a : Act} {op : Oper} {w : World} (ty : TypeId) (x : Operand) (ho : op.op = .load ty x) (b : Nat) (hx : a.eval x = .pointer (some ⟨b, 0, none⟩)) (t : TypeId) (cs : Array Value) (d : TypeDesc) (hb : Blk w b cs t)
    (hu : P.underlying ty = some d) (hd : d.isRow = true) (hi : (P.info? ty).map (·.size) = some cs.size) :
    (execOp a.eval op).run P w = .ok (.value (.agg cs)) w := by
  unfold execOp
  simp only [ho, hx, Instr.loadAt, Instr.sureAddr, Sem.run_bind, Sem.run_pure, Result.andThen_ok, run_loadVar_row w b t ty cs (0, 0) d hb.out hu (by cases d <;> simp_all) hi]
theorem ex_store_row {a : Act} {op : Oper} {w : World} (ty : TypeId) (x y : Operand) (ho : op.op = .store ty x y) (b : Nat) (cells : Array Value) (hx : a.eval x = .pointer (some ⟨b, 0, none⟩)) (hy : a.eval y = .agg cells) (t : TypeId) (old : Array Value) (hb : Blk w b old t)
    (hi : (P.info? ty).map (·.size) = some cells.size) (hold : old.size = cells.size) (h1 : cells.all (·.oneCell') = true) :
    (execOp a.eval op).run P w = .ok .skip (w.setRow b cells) := by
  unfold execOp
  simp only [ho, hx, hy, Instr.storeAt, Instr.sureAddr, Sem.run_bind, Sem.run_pure, Result.andThen_ok, run_storeVar_row w b t ty old cells hb.out hi hold h1]
theorem wpList_skp {ops : Array Oper} {rest : List Oper} {op : Oper} {a : Act} {w w' : World} {Q : Exit → Act → World → Prop} (hgd : op.guard = none) (hr : (execOp a.eval op).run P w = .ok .skip w')
    (h : wpList P ops Q rest (a.put op.dst undef) w') : wpList P ops Q (op :: rest) a w :=
  wpList_plain hgd fun _ hK => wp_skp hr (hK _ _ h)
/-- One part of a fill, as lists. -/
theorem fill_one {place : Nat → Option (Nat × Nat)} {cells : Array Value} {i off size : Nat} {v : Value} {rest : List (Nat × Value)} (hp : place i = some (off, size)) (hv : v.cells.size = size) (hc : off + size ≤ cells.size) :
    Instr.fill place cells ((i, v) :: rest) = Instr.fill place (cells.toList.take off ++ v.cells.toList ++ cells.toList.drop (off + size)).toArray rest := by
  simp only [Instr.fill, hp]
  rw [if_neg (by simp [hv]; omega)]
  congr 1
  have key : ∀ (l : List Value) (k : Nat) (cs : Array Value), off + k + l.length ≤ cs.size → (l.zipIdx k).foldl (fun cs (x : Value × Nat) => cs.setIfInBounds (off + x.2) x.1) cs = (cs.toList.take (off + k) ++ l ++ cs.toList.drop (off + k + l.length)).toArray := by
    intro l
    induction l with
    | nil => intro k cs h; simp
    | cons x l ih =>
      intro k cs h
      simp only [List.zipIdx_cons, List.foldl_cons]
      rw [ih (k + 1) _ (by simp at h ⊢; omega)]
      congr 1
      simp only [List.length_cons] at h
      apply List.ext_getElem?
      intro j
      simp only [Array.toList_setIfInBounds, List.getElem?_append, List.length_take, List.length_set, Array.length_toList, List.getElem?_take, List.getElem?_drop, List.length_append, List.length_cons, List.getElem?_set, List.append_assoc, List.cons_append]
      have e1 : min (off + (k + 1)) cs.size = off + k + 1 := by omega
      have e2 : min (off + k) cs.size = off + k := by omega
      rw [e1, e2]
      by_cases a1 : j < off + k
      · rw [if_pos (by omega), if_pos (by omega), if_pos a1, if_pos a1, if_neg (by omega)]
      · by_cases a2 : j = off + k
        · subst a2
          have e5 : off + k < cs.size := by omega
          have e6 : off + k < off + k + 1 := by omega
          have e7 : off + k < off + (k + 1) := by omega
          simp [e5, e6, e7]
        · rw [if_neg (by omega), if_neg a1]
          obtain ⟨m, rfl⟩ : ∃ m, j = off + k + 1 + m := ⟨j - (off + k + 1), by omega⟩
          have e3 : off + k + 1 + m - (off + k + 1) = m := by omega
          have e4 : off + k + 1 + m - (off + k) = m + 1 := by omega
          rw [e3, e4, List.getElem?_cons_succ, List.getElem?_append]
          by_cases a3 : m < l.length
          · rw [if_pos a3, if_pos a3]
          · rw [if_neg a3, if_neg a3, List.getElem?_drop]
            rw [if_neg (by omega)]
            congr 1
            omega
  have := key v.cells.toList 0 cells (by simp [hv]; omega)
  simp only [Nat.add_zero, Array.length_toList, hv] at this
  rw [← this, ← Array.toList_zipIdx, Array.foldl_toList]
end
end Go.Proofs.Ytmdohnbhogfopaa
/- Words of rows of cells: what lies in memory. -/
namespace Go.Proofs.Ytmdohnbhogfopaa
open Go.RowKit
set_option linter.unusedSimpArgs false
set_option linter.unusedVariables false
set_option maxRecDepth 100000
/-- Does a value fit a field of one cell? none: a bool's. -/
def CellFit : Option IntKind → Value → Prop
  | none, v => ∃ b, v = .bool b
  | some k, v => ∃ x, v = .int k x ∧ (Lit.int k x).wf = true
def Fits : List (Option IntKind) → List Value → Prop
  | [], [] => True
  | k :: ks, v :: vs => CellFit k v ∧ Fits ks vs
  | _, _ => False
theorem Fits.length {ks : List (Option IntKind)} {vs : List Value} (h : Fits ks vs) : vs.length = ks.length := by
  induction ks generalizing vs with
  | nil => cases vs with
    | nil => rfl
    | cons v vs => exact h.elim
  | cons k ks ih => cases vs with
    | nil => exact h.elim
    | cons v vs => simp [ih h.2]
theorem CellFit.one {k : Option IntKind} {v : Value} (h : CellFit k v) : v.oneCell' = true := by
  cases k with
  | none => obtain ⟨b, rfl⟩ := h; rfl
  | some k => obtain ⟨x, rfl, _⟩ := h; rfl
theorem Fits.one {ks : List (Option IntKind)} {vs : List Value} (h : Fits ks vs) : ∀ v ∈ vs, v.oneCell' = true := by
  induction ks generalizing vs with
  | nil => cases vs with
    | nil => simp
    | cons v vs => exact h.elim
  | cons k ks ih => cases vs with
    | nil => simp
    | cons v vs =>
      intro u hu
      rcases List.mem_cons.1 hu with rfl | hu
      · exact h.1.one
      · exact ih h.2 u hu
/-- A cell's fields, and what is held of it. -/
def saidKs : List (Option IntKind) := [none, some .i64, some .u8, some .u8, some .u32, some .u32]
def viewKs : List (Option IntKind) := List.replicate 8 none ++ List.replicate 8 (some .u8) ++ List.replicate 8 (some .u8) ++ List.replicate 8 (some .u16) ++ List.replicate 8 none ++ [some .i8, some .u8]
def cellKs : List (Option IntKind) := some .i64 :: (saidKs ++ saidKs ++ viewKs)
def heldKs : List (Option IntKind) := none :: cellKs
theorem heldKs_length : heldKs.length = 56 := rfl
def HeldOk (h : List Value) : Prop := Fits heldKs h
theorem HeldOk.length {h : List Value} (k : HeldOk h) : h.length = 56 := Fits.length k
/-- What a row has: its first 56 cells (is it there, its cell), and its table. -/
structure RowC where
  hd : List Value
  tab : List (List Value)
structure RowOk (r : RowC) : Prop where
  hd : HeldOk r.hd
  tab : ∀ t ∈ r.tab, HeldOk t
theorem flat_length {Ts : List (List Value)} (h : ∀ t ∈ Ts, HeldOk t) : Ts.flatten.length = Ts.length * 56 := by
  induction Ts with
  | nil => rfl
  | cons t Ts ih =>
    simp only [List.flatten_cons, List.length_append, List.length_cons]
    rw [ih (fun x hx => h x (by simp [hx])), (h t (by simp)).length]
    omega
theorem flat_one {Ts : List (List Value)} (h : ∀ t ∈ Ts, HeldOk t) : ∀ v ∈ Ts.flatten, v.oneCell' = true := by
  intro v hv
  obtain ⟨t, ht, hvt⟩ := List.mem_flatten.1 hv
  exact Fits.one (h t ht) v hvt
theorem flat_get {Ts : List (List Value)} (h : ∀ t ∈ Ts, HeldOk t) {i : Nat} {t : List Value} (hi : Ts[i]? = some t) : ∀ j u, t[j]? = some u → Ts.flatten[i * 56 + j]? = some u := by
  induction Ts generalizing i with
  | nil => simp at hi
  | cons t' Ts ih =>
    intro j u hj
    have hl := (h t' (by simp)).length
    cases i with
    | zero =>
      simp at hi
      subst hi
      rw [List.flatten_cons, List.getElem?_append_left]
      · simpa using hj
      · have := (List.getElem?_eq_some_iff.1 hj).1
        omega
    | succ i =>
      rw [List.flatten_cons, List.getElem?_append_right (by omega), hl]
      have := ih (fun x hx => h x (by simp [hx])) (by simpa using hi) j u hj
      rw [← this]
      congr 1
      omega
/-- A table in memory, from block lo on. -/
def TabAt (lo : Nat) (w : World) (v : Value) (Ts : List (List Value)) : Prop :=
  (v = .slice none 0 0 ∧ Ts = []) ∨ ∃ ad cap, v = .slice (some ad) Ts.length cap ∧ Ts.length ≤ cap ∧ cap ≤ maxLen ∧ lo ≤ ad.block ∧ ∀ j u, Ts.flatten[j]? = some u → w.cell? (ad.add j) = some u
def RowAt (lo : Nat) (w : World) (ad : Addr) (r : RowC) : Prop := ∃ tv, TabAt lo w tv r.tab ∧ ∀ j u, (r.hd ++ [tv])[j]? = some u → w.cell? (ad.add j) = some u
def WordAt (lo : Nat) (w : World) (v : Value) (R : List RowC) : Prop :=
  (v = .slice none 0 0 ∧ R = []) ∨ ∃ ad cap, v = .slice (some ad) R.length cap ∧ R.length ≤ cap ∧ cap ≤ maxLen ∧ lo ≤ ad.block ∧ ∀ i r, R[i]? = some r → RowAt lo w (ad.add (i * 57)) r
/-- All cells are kept. -/
def KeepC (w w' : World) : Prop := ∀ a u, w.cell? a = some u → w'.cell? a = some u
theorem KeepC.of_below {w w' : World} (h : Below w.heap.size w w') : KeepC w w' := fun a u hu => below_cell hu h (World.block_lt_of_cell? w _ hu)
theorem KeepC.refl (w : World) : KeepC w w := fun a u h => h
theorem KeepC.trans {a b c : World} (h : KeepC a b) (k : KeepC b c) : KeepC a c := fun x u hx => k x u (h x u hx)
theorem TabAt.keep {lo : Nat} {w w' : World} {v : Value} {Ts : List (List Value)} (h : TabAt lo w v Ts) (k : KeepC w w') : TabAt lo w' v Ts := by
  rcases h with h | ⟨ad, cap, h1, h2, h3, h4, h5⟩
  · exact .inl h
  · exact .inr ⟨ad, cap, h1, h2, h3, h4, fun j u hj => k _ _ (h5 j u hj)⟩
theorem RowAt.keep {lo : Nat} {w w' : World} {ad : Addr} {r : RowC} (h : RowAt lo w ad r) (k : KeepC w w') : RowAt lo w' ad r := by
  obtain ⟨tv, h1, h2⟩ := h
  exact ⟨tv, h1.keep k, fun j u hj => k _ _ (h2 j u hj)⟩
theorem WordAt.keep {lo : Nat} {w w' : World} {v : Value} {R : List RowC} (h : WordAt lo w v R) (k : KeepC w w') : WordAt lo w' v R := by
  rcases h with h | ⟨ad, cap, h1, h2, h3, h4, h5⟩
  · exact .inl h
  · exact .inr ⟨ad, cap, h1, h2, h3, h4, fun i r hi => (h5 i r hi).keep k⟩
theorem TabAt.mono {lo lo' : Nat} {w : World} {v : Value} {Ts : List (List Value)} (h : TabAt lo w v Ts) (hl : lo' ≤ lo) : TabAt lo' w v Ts := by
  rcases h with h | ⟨ad, cap, h1, h2, h3, h4, h5⟩
  · exact .inl h
  · exact .inr ⟨ad, cap, h1, h2, h3, by omega, h5⟩
theorem RowAt.mono {lo lo' : Nat} {w : World} {ad : Addr} {r : RowC} (h : RowAt lo w ad r) (hl : lo' ≤ lo) : RowAt lo' w ad r := by
  obtain ⟨tv, h1, h2⟩ := h
  exact ⟨tv, h1.mono hl, h2⟩
theorem WordAt.mono {lo lo' : Nat} {w : World} {v : Value} {R : List RowC} (h : WordAt lo w v R) (hl : lo' ≤ lo) : WordAt lo' w v R := by
  rcases h with h | ⟨ad, cap, h1, h2, h3, h4, h5⟩
  · exact .inl h
  · exact .inr ⟨ad, cap, h1, h2, h3, by omega, fun i r hi => (h5 i r hi).mono hl⟩
/-- A table of the call's own: it lies at the head of a block, and may be written. -/
def OwnTab (T : TypeId) (lo : Nat) (w : World) (v : Value) (Ts : List (List Value)) : Prop :=
  (v = .slice none 0 0 ∧ Ts = []) ∨ ∃ g cap cur, v = .slice (some ⟨g, 0, none⟩) Ts.length cap ∧ Ts.length ≤ cap ∧ cap ≤ maxLen ∧ lo ≤ g ∧ Blk w g cur T ∧ cap * 56 ≤ cur.size ∧ cur.toList.take (Ts.length * 56) = Ts.flatten
theorem add_head (g j : Nat) : (⟨g, 0, none⟩ : Addr).add j = ⟨g, j, none⟩ := by unfold Addr.add; split <;> simp_all
theorem OwnTab.tab {T : TypeId} {lo : Nat} {w : World} {v : Value} {Ts : List (List Value)} (h : OwnTab T lo w v Ts) : TabAt lo w v Ts := by
  rcases h with h | ⟨g, cap, cur, h1, h2, h3, h4, h5, h6, h7⟩
  · exact .inl h
  · refine .inr ⟨_, cap, h1, h2, h3, h4, fun j u hj => ?_⟩
    rw [add_head]
    refine h5.cell ?_
    rw [← h7, List.getElem?_take] at hj
    split at hj
    · simpa using hj
    · simp at hj
theorem OwnTab.of_row {T : TypeId} {lo : Nat} {w : World} {v : Value} {Ts : List (List Value)} (h : w.ownsRow lo T 56 v Ts.length Ts.flatten) : OwnTab T lo w v Ts := by
  rcases h.2 with ⟨h1, h2⟩ | ⟨g, cap, cur, h1, h2, h3, h4, h5, h6, h7⟩
  · exact .inl ⟨h1, List.length_eq_zero_iff.1 h2⟩
  · exact .inr ⟨g, cap, cur, h1, h4, h5, h2, h3, by omega, h7⟩
end Go.Proofs.Ytmdohnbhogfopaa
/- slices.Clip, slices.Clone of tables; words.Copy. -/
namespace Go.Proofs.Ytmdohnbhogfopaa
open Go.RowKit
set_option linter.unusedSimpArgs false
set_option linter.unusedVariables false
set_option maxRecDepth 100000
theorem elemHeld : (Try.prog.info? 163).map (fun i => (i.size, i.bytes, i.zero.map (fun z => (z.cells.size, z.cells.toList)))) = some (56, 136, some (56, (Value.bool false :: .int .i64 0 :: ([.bool false, .int .i64 0, .int .u8 0, .int .u8 0, .int .u32 0, .int .u32 0] ++ [.bool false, .int .i64 0, .int .u8 0, .int .u8 0, .int .u32 0, .int .u32 0] ++ List.replicate 8 (.bool false) ++ List.replicate 8 (.int .u8 0) ++ List.replicate 8 (.int .u8 0) ++ List.replicate 8 (.int .u16 0) ++ List.replicate 8 (.bool false) ++ [.int .i8 0, .int .u8 0])))) := by kernel_rfl
theorem elemRow : (Try.prog.info? 97).map (fun i => (i.size, i.bytes, i.zero.map (fun z => (z.cells.size, z.cells.toList)))) = some (57, 160, some (57, (Value.bool false :: .int .i64 0 :: ([.bool false, .int .i64 0, .int .u8 0, .int .u8 0, .int .u32 0, .int .u32 0] ++ [.bool false, .int .i64 0, .int .u8 0, .int .u8 0, .int .u32 0, .int .u32 0] ++ List.replicate 8 (.bool false) ++ List.replicate 8 (.int .u8 0) ++ List.replicate 8 (.int .u8 0) ++ List.replicate 8 (.int .u16 0) ++ List.replicate 8 (.bool false) ++ [.int .i8 0, .int .u8 0])) ++ [.slice none 0 0])) := by kernel_rfl
/-- A cell of noughts; what a row is that is not there. -/
def zeroC : List Value := .int .i64 0 :: ([.bool false, .int .i64 0, .int .u8 0, .int .u8 0, .int .u32 0, .int .u32 0] ++ [.bool false, .int .i64 0, .int .u8 0, .int .u8 0, .int .u32 0, .int .u32 0] ++ List.replicate 8 (.bool false) ++ List.replicate 8 (.int .u8 0) ++ List.replicate 8 (.int .u8 0) ++ List.replicate 8 (.int .u16 0) ++ List.replicate 8 (.bool false) ++ [.int .i8 0, .int .u8 0])
def zeroH : List Value := .bool false :: zeroC
theorem heldInfo : ∃ i z, Try.prog.info? 163 = some i ∧ i.zero = some z ∧ i.size = 56 ∧ i.bytes = 136 ∧ z.cells.size = 56 ∧ z.cells.toList = zeroH := by
  have h := elemHeld
  cases hi : Try.prog.info? 163 with
  | none => rw [hi] at h; cases h
  | some i =>
    rw [hi] at h
    simp only [Option.map_some, Option.some.injEq, Prod.mk.injEq] at h
    obtain ⟨h1, h2, h3⟩ := h
    cases hz : i.zero with
    | none => rw [hz] at h3; cases h3
    | some z =>
      rw [hz] at h3
      simp only [Option.map_some, Option.some.injEq, Prod.mk.injEq] at h3
      exact ⟨i, z, rfl, hz, h1, h2, h3.1, h3.2⟩
theorem rowInfo : ∃ i z, Try.prog.info? 97 = some i ∧ i.zero = some z ∧ i.size = 57 ∧ i.bytes = 160 ∧ z.cells.size = 57 ∧ z.cells.toList = zeroH ++ [.slice none 0 0] := by
  have h := elemRow
  cases hi : Try.prog.info? 97 with
  | none => rw [hi] at h; cases h
  | some i =>
    rw [hi] at h
    simp only [Option.map_some, Option.some.injEq, Prod.mk.injEq] at h
    obtain ⟨h1, h2, h3⟩ := h
    cases hz : i.zero with
    | none => rw [hz] at h3; cases h3
    | some z =>
      rw [hz] at h3
      simp only [Option.map_some, Option.some.injEq, Prod.mk.injEq] at h3
      exact ⟨i, z, rfl, hz, h1, h2, h3.1, h3.2⟩
theorem clipH (w : World) (a : Option Addr) (n c : Nat) (hn : n ≤ c) (hc : c ≤ 9223372036854775807) :
    Calls Try.prog 129 #[.slice a n c] w fun e w' => e = .returned (.slice a n n) ∧ w = w' := by
  go_enter Try.func129, Try.ntmps129
  go_wp2
  go_ret
  exact ⟨rfl, rfl⟩
theorem clipR (w : World) (a : Option Addr) (n c : Nat) (hn : n ≤ c) (hc : c ≤ 9223372036854775807) :
    Calls Try.prog 103 #[.slice a n c] w fun e w' => e = .returned (.slice a n n) ∧ w = w' := by
  go_enter Try.func103, Try.ntmps103
  go_wp2
  go_ret
  exact ⟨rfl, rfl⟩
theorem cloneH (w : World) (v : Value) (Ts : List (List Value)) (ha : TabAt 0 w v Ts) (hk : ∀ t ∈ Ts, HeldOk t) (hn : Ts.length ≤ 1000000) :
    Calls Try.prog 130 #[v] w fun e w' => ∃ v', e = .returned v' ∧ OwnTab 163 w.heap.size w' v' Ts ∧ Below w.heap.size w w' := by
  obtain ⟨i0, z0, hi, hz0, hz1, hz2, hz3, -⟩ := heldInfo
  have hq := fun (W : World) (ao : Option Addr) (n c : Nat) => Lib.run_eql_slice_nil (P := Try.prog) W 95 163 ao n c 0 0 Try.underlying95
  rcases ha with ⟨rfl, rfl⟩ | ⟨ad, cap, rfl, h1, h2, -, h3⟩
  · go_enter Try.func130, Try.ntmps130
    go_wp2
    go_ret
    exact ⟨_, rfl, .inl ⟨rfl, rfl⟩, Below.refl _ _⟩
  · have hl := flat_length hk
    have h1c := flat_one hk
    have hne : ∀ (W : World), Below w.heap.size w W → ∀ j u, Ts.flatten[j]? = some u → W.cell? (ad.add j) = some u := fun W hW j u hj => below_cell (h3 j u hj) hW (World.block_lt_of_cell? w _ (h3 j u hj))
    have hfin : ∀ v' W, W.ownsRow w.heap.size 163 56 v' Ts.length Ts.flatten → OwnTab 163 w.heap.size W v' Ts := fun v' W h => .of_row h
    replace hne := Lib.hid hne
    replace hfin := Lib.hid hfin
    generalize hF : Ts.flatten = F at *
    generalize Ts.length = n at *
    clear h3 hk
    go_enter Try.func130, Try.ntmps130
    go_wp2_with (at_builtin; refine wpList_append_own _ rfl _ _ 95 rfl w.heap.size 163 i0 z0 56 136 Try.underlying95 hi hz0 hz1 hz2 hz3 (by decide) _ 0 [] rfl (World.ownsRow_made _ _ 0 (Nat.le_refl _) (by unfold maxLen; omega) rfl) ad n cap F rfl hl (hne.out _ ((Below.refl _ _).alloc (Nat.le_refl _) _)) h1c (by unfold maxLen; omega) (by omega) (by simp) ?_)
    intro v1 w1 hown1 hg1 _
    have hb1 : Below w.heap.size w w1 := Below.grown ((Below.refl _ _).alloc (Nat.le_refl _) _) hg1 (by simp) (by simp [Value.ownBlock])
    try simp only [Nat.zero_add, List.nil_append] at hown1
    clear hg1
    go_wp2
    go_ret
    exact ⟨_, rfl, hfin.out _ _ hown1, hb1⟩
end Go.Proofs.Ytmdohnbhogfopaa
/- words.Copy; faults' own. -/
namespace Go.Proofs.Ytmdohnbhogfopaa
open Go.RowKit
set_option linter.unusedSimpArgs false
set_option linter.unusedVariables false
set_option maxRecDepth 100000
theorem rowRow : ∃ d, Try.prog.underlying 97 = some d ∧ d.isRow = true := ⟨_, Try.underlying97, rfl⟩
theorem rowSize : (Try.prog.info? 97).map (·.size) = some 57 := by kernel_rfl
theorem heldSize : (Try.prog.info? 163).map (·.size) = some 56 := by kernel_rfl
theorem heldRow : ∃ d, Try.prog.underlying 163 = some d ∧ d.isRow = true := ⟨_, Try.underlying163, rfl⟩
theorem OwnTab.out {T : TypeId} {lo : Nat} {w : World} {v : Value} {Ts : List (List Value)} (h : OwnTab T lo w v Ts) : ∃ ao cap, v = .slice ao Ts.length cap ∧ Ts.length ≤ cap ∧ cap ≤ 9223372036854775807 ∧ OwnTab T lo w (.slice ao Ts.length Ts.length) Ts := by
  rcases h with ⟨rfl, rfl⟩ | ⟨g, cap, cur, h1, h2, h3, h4, h5, h6, h7⟩
  · exact ⟨none, 0, rfl, by simp, by omega, .inl ⟨rfl, rfl⟩⟩
  · exact ⟨_, cap, h1, h2, h3, .inr ⟨g, _, cur, rfl, Nat.le_refl _, by omega, h4, h5, Nat.le_trans (Nat.mul_le_mul_right _ h2) h6, h7⟩⟩
theorem OwnTab.below {T : TypeId} {lo B : Nat} {w w' : World} {v : Value} {Ts : List (List Value)} (h : OwnTab T lo w v Ts) (hb : Below B w w') (hlt : w.heap.size ≤ B) : OwnTab T lo w' v Ts := by
  rcases h with h | ⟨g, cap, cur, h1, h2, h3, h4, h5, r⟩
  · exact .inl h
  · exact .inr ⟨g, cap, cur, h1, h2, h3, h4, h5.below hb (Nat.lt_of_lt_of_le h5.lt hlt), r⟩
theorem OwnTab.blk {T : TypeId} {lo : Nat} {w w' : World} {v : Value} {Ts : List (List Value)} (h : OwnTab T lo w v Ts) (k : ∀ g c, lo ≤ g → Blk w g c T → Blk w' g c T) : OwnTab T lo w' v Ts := by
  rcases h with h | ⟨g, cap, cur, h1, h2, h3, h4, h5, r⟩
  · exact .inl h
  · exact .inr ⟨g, cap, cur, h1, h2, h3, h4, k _ _ h4 h5, r⟩
theorem OwnTab.mono {T : TypeId} {lo lo' : Nat} {w : World} {v : Value} {Ts : List (List Value)} (h : OwnTab T lo w v Ts) (hl : lo' ≤ lo) : OwnTab T lo' w v Ts := by
  rcases h with h | ⟨g, cap, cur, h1, h2, h3, h4, r⟩
  · exact .inl h
  · exact .inr ⟨g, cap, cur, h1, h2, h3, by omega, r⟩
theorem set_last {h : List Value} {v v' : Value} (hl : h.length = 56) : (h ++ [v]).toArray.setIfInBounds 56 v' = (h ++ [v']).toArray := by
  apply Array.ext'
  simp only [Array.toList_setIfInBounds]
  rw [List.set_append_right _ _ (by omega), hl]
  rfl
theorem brow {B : Nat} {w w' : World} {b : Nat} (h : Below B w w') (hb : B ≤ b) (cs : Array Value) : Below B w (w'.setRow b cs) :=
  ⟨h.os, h.tape, h.output, by simpa using h.size, fun k hk => (setRow_other w' b k cs (by omega)).trans (h.block k hk)⟩
set_option maxHeartbeats 1000000 in
theorem copyR (w : World) (r : RowC) (tv : Value) (ht : TabAt 0 w tv r.tab) (hk : RowOk r) (hn : r.tab.length ≤ 1000000) :
    Calls Try.prog 102 #[.agg (r.hd ++ [tv]).toArray] w fun e w' => ∃ tv', e = .returned (.agg (r.hd ++ [tv']).toArray) ∧ OwnTab 163 w.heap.size w' tv' r.tab ∧ Below w.heap.size w w' := by
  obtain ⟨i0, z0, hi, hz0, hz1, hz2, hz3, -⟩ := rowInfo
  obtain ⟨d0, hd0, hd1⟩ := rowRow
  have hl := hk.hd.length
  have hone : ∀ v', (∃ a n c, v' = Value.slice a n c) → (r.hd ++ [v']).toArray.all (·.oneCell') = true := fun v' hv' => by
    apply all_oneCell_toArray
    intro u hu
    rcases List.mem_append.1 hu with hu | hu
    · exact Fits.one hk.hd u hu
    · simp at hu
      obtain ⟨a, n, c, rfl⟩ := hv'
      subst hu
      rfl
  have hsz : ∀ v', (r.hd ++ [v']).toArray.size = 57 := fun v' => by simp [hl]
  have hX : (r.hd ++ [tv]).toArray[56]? = some tv := by simp [hl]
  have hset : ∀ v', (r.hd ++ [tv]).toArray.setIfInBounds 56 v' = (r.hd ++ [v']).toArray := fun v' => set_last hl
  have hXs := hsz tv
  replace hone := Lib.hid hone
  replace hsz := Lib.hid hsz
  replace hset := Lib.hid hset
  replace ht := Lib.hid ht
  replace hk := Lib.hid hk
  generalize hXe : (r.hd ++ [tv]).toArray = X at *
  replace hXe := Lib.hid hXe
  replace hX := Lib.hid hX
  go_enter Try.func102, Try.ntmps102
  go_upto_region 1 with (first | refine wpList_val rfl (ex_box 97 (.tmp 0) rfl X rfl) ?_ | refine wpList_val rfl (ex_alloc 97 rfl i0 z0 hi hz0) ?_ | fail)
  have hb1 : Below w.heap.size w ((w.alloc (.cells X 97)).alloc (.cells z0.cells 97)) := (below_alloc _ _).trans ((below_alloc _ _).mono (by simp))
  have k0 : Blk ((w.alloc (.cells X 97)).alloc (.cells z0.cells 97)) w.heap.size X 97 := (Blk.new w _ _).alloc _
  have k1 : Blk ((w.alloc (.cells X 97)).alloc (.cells z0.cells 97)) (w.heap.size + 1) z0.cells 97 := by
    have := Blk.new (w.alloc (.cells X 97)) z0.cells 97
    simpa using this
  have hlen : w.heap.size + 1 < ((w.alloc (.cells X 97)).alloc (.cells z0.cells 97)).heap.size := k1.lt
  replace hb1 := Lib.hid hb1
  replace k0 := Lib.hid k0
  replace k1 := Lib.hid k1
  generalize (w.alloc (.cells X 97)).alloc (.cells z0.cells 97) = W1 at *
  have c56 : W1.cell? ⟨w.heap.size, 56, none⟩ = some tv := k0.out.cell hX.out
  obtain ⟨hBs, hBl⟩ : w.heap.size < W1.heap.size ∧ w.heap.size + 1 < W1.heap.size := ⟨by omega, hlen⟩
  go_wp2_with fail
  refine (cloneH _ _ _ (ht.out.keep (fun a u hu => below_cell hu hb1.out (World.block_lt_of_cell? w _ hu))) hk.out.tab hn).mono ?_
  rintro e w2 ⟨v2, rfl, ho2, hb2⟩
  obtain ⟨a2, cap2, rfl, n2, n3, ho3⟩ := ho2.out
  clear ho2
  have k02 := Lib.hid (k0.out.below hb2 k0.out.lt)
  have k12 := Lib.hid (k1.out.below hb2 k1.out.lt)
  clear c56 k0 k1
  replace hb1 := Lib.hid (bthen hb1.out hb2)
  replace ho3 := Lib.hid (ho3.mono (by omega : w.heap.size ≤ W1.heap.size))
  clear hb2
  go_wp2_with fail
  refine (clipH _ _ _ _ n2 n3).mono ?_
  rintro e _ ⟨rfl, rfl⟩
  have c56 : w2.cell? ⟨w.heap.size, 56, none⟩ = some tv := k02.out.cell hX.out
  have fr : w2.frozen? ⟨w.heap.size, 56, none⟩ = false := k02.out.free 56
  have hlt2 := k02.out.lt
  go_upto_region 2 with fail
  have k03 := Lib.hid ((k02.out.set 56 (.slice a2 r.tab.length r.tab.length)).congr (hset.out _))
  have k13 := Lib.hid (k12.out.setNe (a := ⟨w.heap.size, 56, none⟩) (by simp) (.slice a2 r.tab.length r.tab.length))
  replace hb1 := Lib.hid (hb1.out.setCell (show w.heap.size ≤ (⟨w.heap.size, 56, none⟩ : Addr).block from Nat.le_refl _) (.slice a2 r.tab.length r.tab.length))
  have ho4 := Lib.hid (ho3.out.blk (w' := w2.setCell ⟨w.heap.size, 56, none⟩ (.slice a2 r.tab.length r.tab.length)) (fun g c _ hg => hg.setNe (fun e => (hg.ne k02.out (by decide)) e) _))
  clear c56 fr k02 k12 ho3 hlt2
  generalize w2.setCell ⟨w.heap.size, 56, none⟩ (.slice a2 r.tab.length r.tab.length) = w3 at *
  have hs3 := hsz.out (.slice a2 r.tab.length r.tab.length)
  have ho5 := hone.out (.slice a2 r.tab.length r.tab.length) ⟨_, _, _, rfl⟩
  generalize hYe : (r.hd ++ [Value.slice a2 r.tab.length r.tab.length]).toArray = Y at *
  go_wp2_with (first | refine wpList_val rfl (ex_load_row 97 (.tmp 1) rfl w.heap.size rfl 97 Y d0 k03.out hd0 hd1 (by rw [rowSize, hs3])) ?_ | refine wpList_skp rfl (ex_store_row 97 (.tmp 2) (.tmp 8) rfl (w.heap.size + 1) Y rfl rfl 97 z0.cells k13.out (by rw [rowSize, hs3]) (by rw [hz3, hs3]) ho5) ?_ | fail)
  have k14 := k13.out.setRow Y
  refine bodyPost_ret (v := .agg Y) (results_cell_row (p := 2) (ty := 97) (by kernel_rfl) _ _ (w.heap.size + 1) 97 Y (0, 0) d0 (by rfl) k14.out hd0 (by cases d0 <;> simp_all) (by rw [rowSize, hs3])) rfl ⟨_, by rw [hYe], ho4.out.blk (fun g c _ hg => hg.setRowNe Y (fun e => (hg.ne k13.out (by decide)) e)), brow hb1.out (by omega) Y⟩
end Go.Proofs.Ytmdohnbhogfopaa
/- faults' own: a post in new memory. -/
namespace Go.Proofs.Ytmdohnbhogfopaa
open Go.RowKit
set_option linter.unusedSimpArgs false
set_option linter.unusedVariables false
set_option maxRecDepth 100000
section
variable {P : Program} {ops : Array Oper} {o : Oper} {a : Act} {w w' : World} {K : Act → World → Prop} {Q : Exit → Act → World → Prop} {E : Prop}
theorem step_val {v : Value} (hgd : o.guard = none) (hr : (execOp a.eval o).run P w = .ok (.value v) w') (h : K (a.put o.dst v) w') : if Region.wanted o (yielded ops a.tmps) = true then Oper.wp P o a w K Q else E := by
  rw [if_pos (by simp [Region.wanted, hgd])]
  exact wp_val hr h
theorem ex_buildSlice1 (t e : TypeId) (x : Operand) (ho : o.op = .buildSlice t 1 #[(0, x)]) (ie : TypeInfo) (z : Value) (cells : Array Value) (hu : P.underlying t = some (.slice e)) (hie : P.info? e = some ie) (hz : ie.zero = some z)
    (hsz : cells.size = ie.size) (hp : 0 < ie.size) (hs : ie.size ≤ 1000) (hx : a.eval x = .agg cells) : (execOp a.eval o).run P w = .ok (.value (.slice (some ⟨w.heap.size, 0, none⟩) 1 1)) (w.alloc (.cells cells e)) := by
  have hf : Instr.fill (fun i => some (i * ie.size, ie.size)) ((Array.range (1 * ie.size)).map (z.cells[· % z.cells.size]!)) [(0, Value.agg cells)] = some cells := by
    rw [fill_one (off := 0) (size := ie.size) (by simp) (by simpa [Value.cells] using hsz) (by simp)]
    simp only [Instr.fill]
    congr 1
    apply Array.ext'
    rw [List.drop_eq_nil_of_le (by simp)]
    simp [Value.cells]
  unfold execOp
  simp only [ho, Sem.run_bind]
  rw [run_buildSlice w t e 1 _ cells ie z hu hie hz (by omega) (by omega) (by simpa [hx] using hf)]
  rfl
theorem step_append_big (hgd : o.guard = none) (s x : Operand) (t : TypeId)
    (ho : o.op = .call { callee := .builtin .append, args := #[s, x], argTypes := #[t, t] })
    (base : Nat) (e : TypeId) (i : TypeInfo) (z : Value) (size bytes : Nat) (ht : P.underlying t = some (.slice e)) (hi : P.info? e = some i) (hz : i.zero = some z)
    (hsize : i.size = size) (hby : i.bytes = bytes) (hzs : z.cells.size = size) (hsz : 0 < size)
    (v : Value) (n : Nat) (xs : List Value) (hs : a.eval s = v) (hown : w.ownsRow base e size v n xs)
    (ad : Addr) (m c : Nat) (news : List Value) (hx : a.eval x = .slice (some ad) m c) (hl : news.length = m * size) (hnews : ∀ j u, news[j]? = some u → w.cell? (ad.add j) = some u) (h1 : ∀ u ∈ news, u.oneCell' = true)
    (h63 : n + m ≤ maxLen) (hbytes : (n + m) * bytes ≤ 140737488355328) (hbase : base ≤ w.heap.size)
    (h : ∀ v' w', w'.ownsRow base e size v' (n + m) (xs ++ news) → w.grownBy w' v.ownBlock → (v' = .slice none 0 0 ↔ v = .slice none 0 0 ∧ m = 0) → K (a.put o.dst v') w') :
    if Region.wanted o (yielded ops a.tmps) = true then Oper.wp P o a w K Q else E := by
  rw [if_pos (by simp [Region.wanted, hgd])]
  exact wp_append_own w s x t ho base e i z size bytes ht hi hz hsize hby hzs hsz v n xs hs hown ad m c news hx hl hnews h1 h63 hbytes hbase h
end
/-- Rows, with their tables' slices, one behind the other. -/
def rowsFlat (R : List RowC) (tvs : List Value) : List Value := (List.zipWith (fun r tv => r.hd ++ [tv]) R tvs).flatten
theorem rowsFlat_more {R : List RowC} {tvs : List Value} {r : RowC} {tv : Value} (h : tvs.length = R.length) : rowsFlat (R ++ [r]) (tvs ++ [tv]) = rowsFlat R tvs ++ (r.hd ++ [tv]) := by
  unfold rowsFlat
  rw [List.zipWith_append h.symm]
  simp
theorem rowsFlat_length {R : List RowC} {tvs : List Value} (h : tvs.length = R.length) (hk : ∀ r ∈ R, RowOk r) : (rowsFlat R tvs).length = R.length * 57 := by
  induction R generalizing tvs with
  | nil => simp [rowsFlat]
  | cons r R ih =>
    cases tvs with
    | nil => simp at h
    | cons tv tvs =>
      have := ih (tvs := tvs) (by simpa using h) (fun x hx => hk x (by simp [hx]))
      unfold rowsFlat at this ⊢
      simp only [List.zipWith_cons_cons, List.flatten_cons, List.length_append, List.length_cons, this, (hk r (by simp)).hd.length, List.length_nil]
      omega
theorem rowsFlat_get {R : List RowC} {tvs : List Value} (h : tvs.length = R.length) (hk : ∀ r ∈ R, RowOk r) {i : Nat} {r : RowC} {tv : Value} (hr : R[i]? = some r) (ht : tvs[i]? = some tv) : ∀ j u, (r.hd ++ [tv])[j]? = some u → (rowsFlat R tvs)[i * 57 + j]? = some u := by
  induction R generalizing tvs i with
  | nil => simp at hr
  | cons r' R ih =>
    cases tvs with
    | nil => simp at h
    | cons tv' tvs =>
      intro j u hj
      have hl : (r'.hd ++ [tv']).length = 57 := by simp [(hk r' (by simp)).hd.length]
      cases i with
      | zero =>
        simp at hr ht
        subst hr ht
        have := (List.getElem?_eq_some_iff.1 hj).1
        unfold rowsFlat
        rw [List.zipWith_cons_cons, List.flatten_cons, List.getElem?_append_left (by omega)]
        simpa using hj
      | succ i =>
        have := ih (tvs := tvs) (by simpa using h) (fun x hx => hk x (by simp [hx])) (by simpa using hr) (by simpa using ht) j u hj
        unfold rowsFlat at this ⊢
        rw [List.zipWith_cons_cons, List.flatten_cons, List.getElem?_append_right (by omega), hl, ← this]
        congr 1
        omega
/-- A word of the call's own. -/
def OwnWord (T E : TypeId) (lo : Nat) (w : World) (v : Value) (R : List RowC) : Prop :=
  (v = .slice none 0 0 ∧ R = []) ∨ ∃ g cap cur tvs, v = .slice (some ⟨g, 0, none⟩) R.length cap ∧ R.length ≤ cap ∧ cap ≤ maxLen ∧ lo ≤ g ∧ Blk w g cur T ∧ cap * 57 ≤ cur.size ∧ cur.toList.take (R.length * 57) = rowsFlat R tvs ∧ tvs.length = R.length ∧
    ∀ (i : Nat) (r : RowC) (tv : Value), R[i]? = some r → tvs[i]? = some tv → OwnTab E lo w tv r.tab
theorem OwnWord.word {T E : TypeId} {lo : Nat} {w : World} {v : Value} {R : List RowC} (h : OwnWord T E lo w v R) (hk : ∀ r ∈ R, RowOk r) : WordAt lo w v R := by
  rcases h with h | ⟨g, cap, cur, tvs, h1, h2, h3, h4, h5, h6, h7, h8, h9⟩
  · exact .inl h
  · refine .inr ⟨_, cap, h1, h2, h3, h4, fun i r hi => ?_⟩
    have hil := (List.getElem?_eq_some_iff.1 hi).1
    obtain ⟨tv, ht⟩ : ∃ tv, tvs[i]? = some tv := ⟨_, List.getElem?_eq_getElem (by omega)⟩
    refine ⟨tv, (h9 i r tv hi ht).tab, fun j u hj => ?_⟩
    have := rowsFlat_get h8 hk hi ht j u hj
    rw [← h7, List.getElem?_take] at this
    split at this
    · rw [add_head]
      have e : (⟨g, i * 57, none⟩ : Addr).add j = ⟨g, i * 57 + j, none⟩ := Addr.add_mid _ _ _
      rw [e]
      exact h5.cell (by simpa using this)
    · simp at this
theorem OwnWord.keep {T E : TypeId} {lo B : Nat} {w w' : World} {v : Value} {R : List RowC} (h : OwnWord T E lo w v R) (hb : Below B w w') (hlt : w.heap.size ≤ B) : OwnWord T E lo w' v R := by
  rcases h with h | ⟨g, cap, cur, tvs, h1, h2, h3, h4, h5, h6, h7, h8, h9⟩
  · exact .inl h
  · exact .inr ⟨g, cap, cur, tvs, h1, h2, h3, h4, h5.below hb (Nat.lt_of_lt_of_le h5.lt hlt), h6, h7, h8, fun i r tv hi ht => (h9 i r tv hi ht).below hb hlt⟩
end Go.Proofs.Ytmdohnbhogfopaa
