/- Wires: maps keyed by numbers, by what they hold; what wires are. -/
import Derived.Test.YteogoddnefeleaaDoorLinesBInt
import Derived.Maps.OwnSet
import Derived.Maps.RangeWalk
namespace Go.Proofs.YteogoddnefeleaaDoor
open Go.RowKit Go.Maps
set_option linter.unusedSimpArgs false
set_option linter.unusedVariables false
/-- How a pointer among a map's elements reads. -/
def ptrE : Value → Option (DataW Unit × List MemPlace)
  | .pointer (some ⟨b, 0, none⟩) => some (.lit (.int .i64 b), [])
  | .pointer none => some (.nil, [])
  | _ => none
theorem ptrE_inv {v : Value} {y : DataW Unit × List MemPlace} (h : ptrE v = some y) : (v = .pointer none ∧ y = (.nil, [])) ∨ ∃ b : Nat, v = .pointer (some ⟨b, 0, none⟩) ∧ y = (.lit (.int .i64 b), []) := by
  unfold ptrE at h
  split at h
  · cases h; exact .inr ⟨_, rfl, rfl⟩
  · cases h; exact .inl ⟨rfl, rfl⟩
  · cases h
theorem keyI : Keyed Tryd.prog 3 := int_keyed Tryd.underlying3
theorem keyOfI {x : Int} (hx : (Lit.int .i64 x).wf = true) : keyOf Tryd.prog 3 (.int .i64 x) = some (.int .i64 x) := keyOf_int_mk Tryd.underlying3 hx
/-- A map from numbers, by what it holds at each. -/
def MapOf (w : World) (R : Value → Option (DataW Unit × List MemPlace)) (b n : Nat) (f : Int → Option (DataW Unit)) : Prop :=
  ∃ D, w.ownsMap Tryd.prog 3 R b n D ∧ ∀ x z, D.atKey (.int .i64 x) z = (f x).getD z
theorem MapOf.has {w : World} {R : Value → Option (DataW Unit × List MemPlace)} {D : DataW Unit} {f : Int → Option (DataW Unit)} (h : ∀ x z, D.atKey (.int .i64 x) z = (f x).getD z) (x : Int) : Maps.has D (.int .i64 x) = (f x).isSome := by
  cases hf : f x with
  | none => exact has_false_of_atKey fun z => by rw [h x z, hf]; rfl
  | some d => exact has_true_of_atKey (y := d) fun z => by rw [h x z, hf]; rfl
theorem MapOf.lt {w : World} {R : Value → Option (DataW Unit × List MemPlace)} {b n : Nat} {f : Int → Option (DataW Unit)} (h : MapOf w R b n f) : b < w.heap.size := by
  obtain ⟨D, h1, _⟩ := h
  exact h1.lt
theorem MapOf.block {w w' : World} {R : Value → Option (DataW Unit × List MemPlace)} {b n : Nat} {f : Int → Option (DataW Unit)} (h : MapOf w R b n f) (e : w'.heap[b]? = w.heap[b]?) : MapOf w' R b n f := by
  obtain ⟨D, ⟨es, clock, h1, h2⟩, h3⟩ := h
  exact ⟨D, ⟨es, clock, e.trans h1, h2⟩, h3⟩
theorem MapOf.touch {S : List Nat} {w w' : World} {R : Value → Option (DataW Unit × List MemPlace)} {b n : Nat} {f : Int → Option (DataW Unit)} (h : MapOf w R b n f) (ht : Touch S w w') (hb : b ∉ S) : MapOf w' R b n f :=
  h.block (ht.block b h.lt hb)
theorem MapOf.mono {w : World} {R : Value → Option (DataW Unit × List MemPlace)} {b n n' : Nat} {f : Int → Option (DataW Unit)} (h : MapOf w R b n f) (hn : n ≤ n') : MapOf w R b n' f := by
  obtain ⟨D, h1, h2⟩ := h
  exact ⟨D, h1.mono hn, h2⟩
theorem MapOf.congr {w : World} {R : Value → Option (DataW Unit × List MemPlace)} {b n : Nat} {f f' : Int → Option (DataW Unit)} (h : MapOf w R b n f) (e : ∀ x, f x = f' x) : MapOf w R b n f' := by
  obtain ⟨D, h1, h2⟩ := h
  exact ⟨D, h1, fun x z => by rw [h2, e]⟩
/-- w' is w but for one map's entries. -/
theorem turned_touch {w w' : World} {b : Nat} (h : w.mapTurned w' b) : Touch [b] w w' :=
  ⟨h.grown.os, h.grown.tape, h.grown.output, h.grown.size, fun k hk hn => h.grown.block k hk (fun e => hn (by rw [Option.some.inj e]; simp))⟩
theorem MapOf.store {w : World} {R : Value → Option (DataW Unit × List MemPlace)} {b n : Nat} {f : Int → Option (DataW Unit)} (h : MapOf w R b n f) {t e : TypeId} (ht : Tryd.prog.underlying t = some (.map 3 e)) (hn : n < 1000000000) {k : Int} (hk : (Lit.int .i64 k).wf = true) {val : Value} {d : DataW Unit} {ps : List MemPlace} (hval : R val = some (d, ps)) :
    ∃ w', (Instr.mapUpdate t (.map (some b)) (.int .i64 k) val).run Tryd.prog w = .ok () w' ∧ MapOf w' R b (n + 1) (fun x => if x = k then some d else f x) ∧ Touch [b] w w' := by
  obtain ⟨D, h1, h2⟩ := h
  obtain ⟨w', hr, h3, h4⟩ := h1.store keyI ht (by unfold maxLen; omega) (keyOfI hk) hval
  refine ⟨w', hr, ⟨_, h3, fun x z => ?_⟩, turned_touch h4⟩
  dsimp only
  by_cases hx : x = k
  · subst hx
    rw [if_pos rfl]
    exact atKey_put_same h1.isMap (k := .int .i64 x) trivial d z
  · rw [if_neg hx, atKey_put_other (fun e => hx (by injection e)), h2]
theorem MapOf.drop {w : World} {R : Value → Option (DataW Unit × List MemPlace)} {b n : Nat} {f : Int → Option (DataW Unit)} (h : MapOf w R b n f) {t e : TypeId} (ht : Tryd.prog.underlying t = some (.map 3 e)) {k : Int} (hk : (Lit.int .i64 k).wf = true) (ty : TypeId) :
    ∃ w', (Builtin.delete_ #[t, 3] ty #[.map (some b), .int .i64 k]).run Tryd.prog w = .ok (.tuple #[]) w' ∧ MapOf w' R b n (fun x => if x = k then none else f x) ∧ Touch [b] w w' := by
  obtain ⟨D, h1, h2⟩ := h
  obtain ⟨w', hr, h3, h4⟩ := h1.drop keyI ht (keyOfI hk) ty
  refine ⟨w', hr, ⟨_, h3, fun x z => ?_⟩, turned_touch h4⟩
  dsimp only
  by_cases hx : x = k
  · subst hx
    rw [if_pos rfl]
    exact atKey_del_same z
  · rw [if_neg hx, atKey_del_other (fun e => hx (by injection e)), h2]
theorem MapOf.clear {w : World} {R : Value → Option (DataW Unit × List MemPlace)} {b n : Nat} {f : Int → Option (DataW Unit)} (h : MapOf w R b n f) {t e : TypeId} (ht : Tryd.prog.underlying t = some (.map 3 e)) (ty : TypeId) :
    ∃ w', (Builtin.clear_ #[t] ty #[.map (some b)]).run Tryd.prog w = .ok (.tuple #[]) w' ∧ MapOf w' R b 0 (fun _ => none) ∧ Touch [b] w w' := by
  obtain ⟨D, ⟨es, clock, hb, F, hs, rfl⟩, h2⟩ := h
  have hF : Go.WideElems.Fit Tryd.prog 3 R #[] clock := ⟨by simp, MapKept.stamped_empty clock, by simp⟩
  refine ⟨ChangeMaps.setBlock w b (.map #[] clock), ?_, ⟨.map [], ⟨#[], clock, ?_, hF, by simp, by simp⟩, fun x z => rfl⟩, turned_touch ⟨es, clock, #[], clock, hb, rfl⟩⟩
  · simp [Builtin.clear_, run_underlying ht, MapKept.run_getObj_map hb, MapKept.run_setObj_map _ hb, Result.andThen, ChangeMaps.setBlock]
  · exact ChangeMaps.heap_setBlock_same hb _
theorem MapOf.made (w : World) (R : Value → Option (DataW Unit × List MemPlace)) : MapOf (w.alloc (.map #[] 0)) R w.heap.size 0 (fun _ => none) :=
  ⟨.map [], World.ownsMap_made w Tryd.prog 3 R, fun x z => rfl⟩
/-- A map to numbers, a map to pointers. -/
def intD (v : Int) : DataW Unit := .lit (.int .i64 v)
def ptrD (q : Nat) : DataW Unit := .lit (.int .i64 q)
def MapI (w : World) (b n : Nat) (g : Int → Option Int) : Prop := MapOf w (plainElem Tryd.prog 3) b n (fun x => (g x).map intD)
def MapP (w : World) (b n : Nat) (l : Int → Option Nat) : Prop := MapOf w ptrE b n (fun x => (l x).map ptrD)
theorem zeroI (w : World) : (zeroValue 3).run Tryd.prog w = .ok (.int .i64 0) w := by kernel_rfl
theorem zeroP (w : World) : (zeroValue 94).run Tryd.prog w = .ok (.pointer none) w := by kernel_rfl
def ptrV (q : Option Nat) : Value := .pointer (q.map fun b => ⟨b, 0, none⟩)
theorem MapP.look {w : World} {b n : Nat} {l : Int → Option Nat} (h : MapP w b n l) {k : Int} (hk : (Lit.int .i64 k).wf = true) :
    (Instr.lookup 75 (.map (some b)) (.int .i64 k) false).run Tryd.prog w = .ok (ptrV (l k)) w := by
  obtain ⟨D, h1, h2⟩ := h
  obtain ⟨v, ps, hr, hv⟩ := h1.lookup keyI Tryd.underlying75 (zeroP w) (zd := .nil) (zp := []) rfl (keyOfI hk)
  replace hv : ptrE v = some (((l k).map ptrD).getD .nil, ps) := by rw [h2] at hv; exact hv
  rw [hr]
  rcases ptrE_inv hv with ⟨rfl, e⟩ | ⟨q, rfl, e⟩
  · cases hl : l k with
    | none => rfl
    | some q => rw [hl] at e; simp [ptrD] at e
  · cases hl : l k with
    | none => rw [hl] at e; simp [ptrD] at e
    | some q' =>
      rw [hl] at e
      simp [ptrD] at e
      have : q' = q := by omega
      subst this
      rfl
theorem MapP.look_ok {w : World} {b n : Nat} {l : Int → Option Nat} (h : MapP w b n l) {k : Int} (hk : (Lit.int .i64 k).wf = true) :
    (Instr.lookup 75 (.map (some b)) (.int .i64 k) true).run Tryd.prog w = .ok (.tuple #[ptrV (l k), .bool (l k).isSome]) w := by
  obtain ⟨D, h1, h2⟩ := h
  obtain ⟨v, ps, hr, hv⟩ := h1.look_ok keyI Tryd.underlying75 (zeroP w) (zd := .nil) (zp := []) rfl (keyOfI hk)
  replace hv : ptrE v = some (((l k).map ptrD).getD .nil, ps) := by rw [h2] at hv; exact hv
  have hh : Maps.has D (.int .i64 k) = ((l k).map ptrD).isSome := MapOf.has (w := w) (R := ptrE) h2 k
  rw [hr, hh]
  have e1 : ((l k).map ptrD).isSome = (l k).isSome := by cases l k <;> rfl
  have e2 : v = ptrV (l k) := by
    rcases ptrE_inv hv with ⟨rfl, e⟩ | ⟨q, rfl, e⟩
    · cases hl : l k with
      | none => rfl
      | some q => rw [hl] at e; simp [ptrD] at e
    · cases hl : l k with
      | none => rw [hl] at e; simp [ptrD] at e
      | some q' =>
        rw [hl] at e
        simp [ptrD] at e
        have : q' = q := by omega
        subst this
        rfl
  rw [e1, e2]
theorem MapI.look_ok {w : World} {b n : Nat} {g : Int → Option Int} (h : MapI w b n g) {k : Int} (hk : (Lit.int .i64 k).wf = true) :
    (Instr.lookup 78 (.map (some b)) (.int .i64 k) true).run Tryd.prog w = .ok (.tuple #[.int .i64 ((g k).getD 0), .bool (g k).isSome]) w := by
  obtain ⟨D, h1, h2⟩ := h
  obtain ⟨v, ps, hr, hv⟩ := h1.look_ok keyI Tryd.underlying78 (zeroI w) (plainElem_int Tryd.underlying3 (by decide)) (keyOfI hk)
  replace hv : plainElem Tryd.prog 3 v = some (((g k).map intD).getD (.lit (.int .i64 0)), ps) := by rw [h2] at hv; exact hv
  have hh : Maps.has D (.int .i64 k) = ((g k).map intD).isSome := MapOf.has (w := w) (R := plainElem Tryd.prog 3) h2 k
  rw [hr, hh]
  have e1 : ((g k).map intD).isSome = (g k).isSome := by cases g k <;> rfl
  obtain ⟨a, rfl, e, _⟩ := plainElem_int_inv Tryd.underlying3 hv
  have e2 : a = (g k).getD 0 := by
    cases hg : g k with
    | none => rw [hg] at e; simp [intD] at e; simp [e]
    | some q => rw [hg] at e; simp [intD] at e; simp [e]
  rw [e1, e2]
theorem MapI.store {w : World} {b n : Nat} {g : Int → Option Int} (h : MapI w b n g) (hn : n < 1000000000) {k v : Int} (hk : (Lit.int .i64 k).wf = true) (hv : (Lit.int .i64 v).wf = true) :
    ∃ w', (Instr.mapUpdate 78 (.map (some b)) (.int .i64 k) (.int .i64 v)).run Tryd.prog w = .ok () w' ∧ MapI w' b (n + 1) (fun x => if x = k then some v else g x) ∧ Touch [b] w w' := by
  obtain ⟨w', hr, h1, h2⟩ := MapOf.store h Tryd.underlying78 hn hk (plainElem_int Tryd.underlying3 hv)
  exact ⟨w', hr, h1.congr fun x => by dsimp only; split <;> simp_all <;> rfl, h2⟩
theorem MapP.store {w : World} {b n : Nat} {l : Int → Option Nat} (h : MapP w b n l) (hn : n < 1000000000) {k : Int} (hk : (Lit.int .i64 k).wf = true) (q : Nat) :
    ∃ w', (Instr.mapUpdate 75 (.map (some b)) (.int .i64 k) (.pointer (some ⟨q, 0, none⟩))).run Tryd.prog w = .ok () w' ∧ MapP w' b (n + 1) (fun x => if x = k then some q else l x) ∧ Touch [b] w w' := by
  obtain ⟨w', hr, h1, h2⟩ := MapOf.store h Tryd.underlying75 hn hk (val := .pointer (some ⟨q, 0, none⟩)) (d := ptrD q) (ps := []) rfl
  exact ⟨w', hr, h1.congr fun x => by dsimp only; split <;> simp_all <;> rfl, h2⟩
theorem MapI.drop {w : World} {b n : Nat} {g : Int → Option Int} (h : MapI w b n g) {k : Int} (hk : (Lit.int .i64 k).wf = true) (ty : TypeId) :
    ∃ w', (Builtin.delete_ #[78, 3] ty #[.map (some b), .int .i64 k]).run Tryd.prog w = .ok (.tuple #[]) w' ∧ MapI w' b n (fun x => if x = k then none else g x) ∧ Touch [b] w w' := by
  obtain ⟨w', hr, h1, h2⟩ := MapOf.drop h Tryd.underlying78 hk ty
  exact ⟨w', hr, h1.congr fun x => by dsimp only; split <;> simp_all <;> rfl, h2⟩
theorem MapI.clear {w : World} {b n : Nat} {g : Int → Option Int} (h : MapI w b n g) (ty : TypeId) :
    ∃ w', (Builtin.clear_ #[78] ty #[.map (some b)]).run Tryd.prog w = .ok (.tuple #[]) w' ∧ MapI w' b 0 (fun _ => none) ∧ Touch [b] w w' := by
  obtain ⟨w', hr, h1, h2⟩ := MapOf.clear h Tryd.underlying78 ty
  exact ⟨w', hr, h1.congr fun x => rfl, h2⟩
end Go.Proofs.YteogoddnefeleaaDoor
