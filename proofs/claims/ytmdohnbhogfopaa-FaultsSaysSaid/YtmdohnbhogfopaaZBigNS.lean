/- Several texts, one behind the other: BigN BigO BigP BigQ BigR BigS. -/
import Derived.Test.YtmdohnbhogfopaaZBigIM
import Derived.Maps.OwnSet
import Derived.Maps.RangeWalk
import Derived.DeepKeys4
/- Maps keyed by places (a link, a tick), maps from links to ticks: by what they hold. -/
namespace Go.Proofs.Ytmdohnbhogfopaa
open Go.RowKit Go.Maps
set_option linter.unusedSimpArgs false
set_option linter.unusedVariables false
set_option maxRecDepth 100000
/-- How keys of a type are told. -/
structure KeyEnc (K : TypeId) (κ : Type) where
  kv : κ → Value
  kl : κ → Lit
  ok : κ → Prop
  law : Keyed Try.prog K
  of : ∀ x, ok x → keyOf Try.prog K (kv x) = some (kl x)
  kvInj : ∀ x y, kv x = kv y → x = y
  inv : ∀ v l, keyOf Try.prog K v = some l → ∃ x, ok x ∧ v = kv x
theorem KeyEnc.inj {K : TypeId} {κ : Type} (E : KeyEnc K κ) {x y : κ} (hx : E.ok x) (hy : E.ok y) (h : E.kl x = E.kl y) : x = y :=
  E.kvInj _ _ (E.law.inj (E.of x hx) (by rw [h]; exact E.of y hy))
theorem KeyEnc.key {K : TypeId} {κ : Type} (E : KeyEnc K κ) {x : κ} (hx : E.ok x) : WideAt.IsKeyLit (E.kl x) := E.law.key (E.of x hx)
theorem KeyEnc.same {K : TypeId} {κ : Type} (E : KeyEnc K κ) {x y : κ} (hx : E.ok x) (hy : E.ok y) : (E.kl x).sameKey (E.kl y) = true ↔ x = y := by
  rw [WideAt.sameKey_iff (E.key hy)]
  exact ⟨E.inj hx hy, fun e => by rw [e]⟩
/-- A map by what it holds at each key. -/
def MapK {K : TypeId} {κ : Type} (E : KeyEnc K κ) (w : World) (R : Value → Option (DataW Unit × List MemPlace)) (b n : Nat) (f : κ → Option (DataW Unit)) : Prop :=
  ∃ D, w.ownsMap Try.prog K R b n D ∧ ∀ x, E.ok x → ∀ z, D.atKey (E.kl x) z = (f x).getD z
section
variable {K : TypeId} {κ : Type} {E : KeyEnc K κ} {w w' : World} {R : Value → Option (DataW Unit × List MemPlace)} {b n : Nat} {f : κ → Option (DataW Unit)}
theorem MapK.hasD {D : DataW Unit} (h : ∀ x, E.ok x → ∀ z, D.atKey (E.kl x) z = (f x).getD z) {x : κ} (hx : E.ok x) : Maps.has D (E.kl x) = (f x).isSome := by
  cases hf : f x with
  | none => exact has_false_of_atKey fun z => by rw [h x hx z, hf]; rfl
  | some d => exact has_true_of_atKey (y := d) fun z => by rw [h x hx z, hf]; rfl
theorem MapK.lt (h : MapK E w R b n f) : b < w.heap.size := by
  obtain ⟨D, h1, _⟩ := h
  exact h1.lt
theorem MapK.block (h : MapK E w R b n f) (e : w'.heap[b]? = w.heap[b]?) : MapK E w' R b n f := by
  obtain ⟨D, ⟨es, clock, h1, h2⟩, h3⟩ := h
  exact ⟨D, ⟨es, clock, e.trans h1, h2⟩, h3⟩
theorem MapK.mono {n' : Nat} (h : MapK E w R b n f) (hn : n ≤ n') : MapK E w R b n' f := by
  obtain ⟨D, h1, h2⟩ := h
  exact ⟨D, h1.mono hn, h2⟩
theorem MapK.congr {f' : κ → Option (DataW Unit)} (h : MapK E w R b n f) (e : ∀ x, E.ok x → f x = f' x) : MapK E w R b n f' := by
  obtain ⟨D, h1, h2⟩ := h
  exact ⟨D, h1, fun x hx z => by rw [h2 x hx, e x hx]⟩
theorem MapK.ne_blk {c : Nat} {cs : Array Value} {t : TypeId} (h : MapK E w R b n f) (hb : Blk w c cs t) : b ≠ c := by
  obtain ⟨D, ⟨es, clock, h1, _⟩, _⟩ := h
  intro e
  subst e
  have := h1.symm.trans hb.out
  cases this
theorem turnedK (h : w.mapTurned w' b) : Touch [b] w w' :=
  ⟨h.grown.os, h.grown.tape, h.grown.output, h.grown.size, fun k hk hn => h.grown.block k hk (fun e => hn (by rw [Option.some.inj e]; simp))⟩
theorem MapK.store [DecidableEq κ] (h : MapK E w R b n f) {t e : TypeId} (ht : Try.prog.underlying t = some (.map K e)) (hn : n < 1000000000) {k : κ} (hk : E.ok k) {val : Value} {d : DataW Unit} {ps : List MemPlace} (hval : R val = some (d, ps)) :
    ∃ w', (Instr.mapUpdate t (.map (some b)) (E.kv k) val).run Try.prog w = .ok () w' ∧ MapK E w' R b (n + 1) (fun x => if x = k then some d else f x) ∧ Touch [b] w w' ∧ w'.heap.size = w.heap.size := by
  obtain ⟨D, h1, h2⟩ := h
  obtain ⟨w', hr, h3, h4⟩ := h1.store E.law ht (by unfold maxLen; omega) (E.of k hk) hval
  have hsz : w'.heap.size = w.heap.size := by
    obtain ⟨es, clock, es', clock', hb, rfl⟩ := h4
    simp [ChangeMaps.setBlock]
  refine ⟨w', hr, ⟨_, h3, fun x hx z => ?_⟩, turnedK h4, hsz⟩
  dsimp only
  by_cases hxk : x = k
  · subst hxk
    rw [if_pos rfl]
    exact atKey_put_same h1.isMap (E.key hx) d z
  · rw [if_neg hxk, atKey_put_other (fun e => hxk (E.inj hx hk e)), h2 x hx]
theorem MapK.drop [DecidableEq κ] (h : MapK E w R b n f) {t e : TypeId} (ht : Try.prog.underlying t = some (.map K e)) {k : κ} (hk : E.ok k) (ty : TypeId) :
    ∃ w', (Builtin.delete_ #[t, K] ty #[.map (some b), E.kv k]).run Try.prog w = .ok (.tuple #[]) w' ∧ MapK E w' R b n (fun x => if x = k then none else f x) ∧ Touch [b] w w' ∧ w'.heap.size = w.heap.size := by
  obtain ⟨D, h1, h2⟩ := h
  obtain ⟨w', hr, h3, h4⟩ := h1.drop E.law ht (E.of k hk) ty
  have hsz : w'.heap.size = w.heap.size := by
    obtain ⟨es, clock, es', clock', hb, rfl⟩ := h4
    simp [ChangeMaps.setBlock]
  refine ⟨w', hr, ⟨_, h3, fun x hx z => ?_⟩, turnedK h4, hsz⟩
  dsimp only
  by_cases hxk : x = k
  · subst hxk
    rw [if_pos rfl]
    exact atKey_del_same z
  · rw [if_neg hxk, atKey_del_other (fun e => hxk (E.inj hx hk e)), h2 x hx]
theorem MapK.made (w : World) (R : Value → Option (DataW Unit × List MemPlace)) : MapK E (w.alloc (.map #[] 0)) R w.heap.size 0 (fun _ => none) :=
  ⟨.map [], World.ownsMap_made w Try.prog K R, fun x _ z => rfl⟩
end
/-- Places. -/
def plV (x : Int × Int) : Value := .agg #[.int .i64 x.1, .int .i64 x.2]
def plL (x : Int × Int) : Lit := .string (keyBytes [.int .i64 x.1, .int .i64 x.2])
def plOk (x : Int × Int) : Prop := (Lit.int .i64 x.1).wf = true ∧ (Lit.int .i64 x.2).wf = true
theorem placeLaw : Keyed Try.prog 152 := Keyed.of_law (deep_law_laid (by kernel_rfl) (m := 3) (by omega) (of_decide_eq_true (by kernel_rfl)) (by kernel_rfl) (by kernel_rfl))
theorem placeKs : checkKs Try.prog (Try.prog.types.size + 1) 152 [some .i64, some .i64] = true := by kernel_rfl
theorem placeCells : Try.prog.cellsOf 152 = 2 := by kernel_rfl
theorem placeOf (x : Int × Int) (h : plOk x) : keyOf Try.prog 152 (plV x) = some (plL x) := by
  unfold keyOf
  rw [Try.underlying152]
  have h1 : Try.prog.keyType 152 = true := by kernel_rfl
  have h2 : (plV x).formed Try.prog 152 = true := by
    unfold plV Value.formed
    rw [Try.underlying152]
    simp [placeCells]
  have h3 := keyLits_ks (P := Try.prog) _ 152 [some .i64, some .i64] [.int .i64 x.1, .int .i64 x.2] placeKs ⟨⟨_, rfl, h.1⟩, ⟨_, rfl, h.2⟩, trivial⟩
  simp only [h1, h2, Bool.and_self, if_true]
  show (Try.prog.keyLits _ _ [.int .i64 x.1, .int .i64 x.2]).map _ = _
  rw [h3]
  rfl
theorem placeInv (v : Value) (l : Lit) (h : keyOf Try.prog 152 v = some l) : ∃ x, plOk x ∧ v = plV x := by
  unfold keyOf at h
  rw [Try.underlying152] at h
  simp only at h
  split at h
  · rename_i hc
    simp only [Bool.and_eq_true] at hc
    have hf := hc.2
    cases v <;> simp only [Value.formed, Try.underlying152, Bool.false_eq_true] at hf
    rename_i cs
    rw [placeCells] at hf
    obtain ⟨cl⟩ := cs
    match cl, hf with
    | [c0, c1], _ =>
      simp only [Option.map_eq_some_iff] at h
      obtain ⟨ls, hls, _⟩ := h
      have e : (Value.agg #[c0, c1]).cells.toList = [c0, c1] := rfl
      rw [e] at hls
      unfold Program.keyLits at hls
      rw [Try.underlying152] at hls
      simp only [Option.map_eq_some_iff, Option.ite_none_right_eq_some] at hls
      obtain ⟨_, ks2, has, _⟩ := hls
      have hi3 : Try.prog.underlying 3 = some (.int .i64) := Try.underlying3
      have hi2 : Try.prog.underlying 2 = some (.int .i64) := Try.underlying2
      have hc3 : Try.prog.cellsOf 3 = 1 := by kernel_rfl
      have hc2 : Try.prog.cellsOf 2 = 1 := by kernel_rfl
      have hone : ∀ d t c ks, Try.prog.underlying t = some (.int .i64) → Try.prog.keyLits d t [c] = some ks → ∃ x, c = .int .i64 x ∧ (Lit.int .i64 x).wf = true := by
        intro d t c ks ht hk
        cases d with
        | zero => simp [Program.keyLits] at hk
        | succ d =>
          unfold Program.keyLits at hk
          rw [ht] at hk
          cases c <;> simp at hk
          rename_i q' n'
          obtain ⟨⟨rfl, hw⟩, _⟩ := hk
          exact ⟨_, rfl, hw⟩
      simp only [List.mapM_cons, List.mapM_nil, Option.bind_eq_bind, Option.bind_eq_some_iff, Option.pure_def, hc3, hc2, List.drop_zero, List.drop_succ_cons, List.take_succ_cons, List.take_zero] at has
      obtain ⟨k0, h0, _, ⟨k1, h1, _⟩, _⟩ := has
      obtain ⟨x0, rfl, w0⟩ := hone _ _ _ _ hi3 h0
      obtain ⟨x1, rfl, w1⟩ := hone _ _ _ _ hi2 h1
      exact ⟨(x0, x1), ⟨w0, w1⟩, rfl⟩
  · cases h
def placeE : KeyEnc 152 (Int × Int) where
  kv := plV
  kl := plL
  ok := plOk
  law := placeLaw
  of := placeOf
  kvInj := fun x y h => by
    unfold plV at h
    simp only [Value.agg.injEq, Array.mk.injEq, List.cons.injEq, Value.int.injEq, true_and, and_true] at h
    exact Prod.ext h.1 h.2
  inv := placeInv
def intE : KeyEnc 3 Int where
  kv := fun x => .int .i64 x
  kl := fun x => .int .i64 x
  ok := fun x => (Lit.int .i64 x).wf = true
  law := int_keyed Try.underlying3
  of := fun x hx => keyOf_int_mk Try.underlying3 hx
  kvInj := fun x y h => by simpa using h
  inv := fun v l h => by
    obtain ⟨x, h1, _, h3⟩ := Maps.keyOf_int_inv Try.underlying3 h
    exact ⟨x, h3, h1⟩
end Go.Proofs.Ytmdohnbhogfopaa
/- A map gone through; spells; a mouth: what it is. -/
namespace Go.Proofs.Ytmdohnbhogfopaa
open Go.RowKit Go.Maps
set_option linter.unusedSimpArgs false
set_option linter.unusedVariables false
set_option maxRecDepth 100000
/-- A map is gone through: 'todo' says which keys are still to come. -/
def RngK {K : TypeId} {κ : Type} (E : KeyEnc K κ) (w : World) (R : Value → Option (DataW Unit × List MemPlace)) (b r n : Nat) (f : κ → Option (DataW Unit)) (todo : κ → Bool) (cnt : Nat) : Prop :=
  ∃ D left, w.ranges Try.prog K R b r n D left cnt ∧ (∀ x, E.ok x → ∀ z, D.atKey (E.kl x) z = (f x).getD z) ∧ ∀ x, E.ok x → left (E.kl x) = todo x
section
variable {K : TypeId} {κ : Type} {E : KeyEnc K κ} {w w' : World} {R : Value → Option (DataW Unit × List MemPlace)} {b r n cnt : Nat} {f : κ → Option (DataW Unit)} {todo : κ → Bool}
theorem MapK.range (h : MapK E w R b n f) {t e : TypeId} (ht : Try.prog.underlying t = some (.map K e)) :
    ∃ w' cnt, (Instr.range t (.map (some b))).run Try.prog w = .ok (.pointer (some ⟨w.heap.size, 0, none⟩)) w' ∧ RngK E w' R b w.heap.size n f (fun x => (f x).isSome) cnt ∧ Below w.heap.size w w' ∧ w'.heap.size = w.heap.size + 1 := by
  obtain ⟨D, h1, h2⟩ := h
  obtain ⟨w', hr, hg, hb, hz⟩ := h1.range E.law ht
  exact ⟨w', _, hr, ⟨D, _, hg, h2, fun x hx => MapK.hasD h2 hx⟩, ⟨hb.os, hb.tape, hb.output, hb.size, fun k hk => hb.block k hk (by simp)⟩, hz⟩
theorem RngK.map (h : RngK E w R b r n f todo cnt) : MapK E w R b n f := by
  obtain ⟨D, left, h1, h2, _⟩ := h
  exact ⟨D, h1.owns, h2⟩
theorem RngK.lt (h : RngK E w R b r n f todo cnt) : r < w.heap.size := by
  obtain ⟨D, left, h1, _⟩ := h
  exact h1.lt
theorem RngK.ne (h : RngK E w R b r n f todo cnt) : r ≠ b := by
  obtain ⟨D, left, h1, _⟩ := h
  exact h1.ne
theorem RngK.ne_blk {c : Nat} {cs : Array Value} {t : TypeId} (h : RngK E w R b r n f todo cnt) (hb : Blk w c cs t) : r ≠ c := by
  obtain ⟨D, left, ⟨es, clock, since, seen, c0, _, _, _, _, h1, _⟩, _⟩ := h
  intro e
  subst e
  have := h1.symm.trans hb.out
  cases this
theorem RngK.block (h : RngK E w R b r n f todo cnt) (e1 : w'.heap[b]? = w.heap[b]?) (e2 : w'.heap[r]? = w.heap[r]?) : RngK E w' R b r n f todo cnt := by
  obtain ⟨D, left, ⟨es, clock, since, seen, c0, h1, h2, h3, h4, h5, h6⟩, h7⟩ := h
  exact ⟨D, left, ⟨es, clock, since, seen, c0, e1.trans h1, h2, h3, h4, e2.trans h5, h6⟩, h7⟩
theorem RngK.next [DecidableEq κ] (h : RngK E w R b r n f todo cnt) (ty : TypeId) :
    (cnt = 0 ∧ (∀ x, E.ok x → todo x = false) ∧ (Instr.next (.pointer (some ⟨r, 0, none⟩)) false ty).run Try.prog w = .ok (.tuple #[.bool false]) w) ∨
    ∃ x v w' cnt', E.ok x ∧ todo x = true ∧ (Instr.next (.pointer (some ⟨r, 0, none⟩)) false ty).run Try.prog w = .ok (.tuple #[.bool true, E.kv x, v]) w' ∧ RngK E w' R b r n f (fun y => todo y && !decide (y = x)) cnt' ∧ cnt' < cnt ∧ Touch [r] w w' ∧ w'.heap.size = w.heap.size ∧
      (Instr.entry (.pointer (some ⟨r, 0, none⟩))).run Try.prog w' = .ok (.tuple #[E.kv x, v]) w' := by
  obtain ⟨D, left, h1, h2, h3⟩ := h
  rcases h1.next E.law ty with ⟨h4, h5, h6⟩ | ⟨key, v, kl, y, w', cnt', h4, h5, h6, h7, h8, h9, h10, h11, h12, h13⟩
  · exact .inl ⟨h4, fun x hx => by rw [← h3 x hx]; exact h5 _, h6⟩
  · obtain ⟨x, hx, rfl⟩ := E.inv _ _ h4
    have hkl : kl = E.kl x := Option.some.inj (h4.symm.trans (E.of x hx))
    subst hkl
    refine .inr ⟨x, v, w', cnt', hx, by rw [← h3 x hx]; exact h5, h8, ⟨D, _, h9, h2, fun z hz => ?_⟩, h10, ⟨h11.os, h11.tape, h11.output, h11.size, fun k hk hn => h11.block k hk (fun e => hn (by rw [Option.some.inj e]; simp))⟩, h12, h13⟩
    rw [h3 z hz]
    congr 1
    congr 1
    rw [Bool.eq_iff_iff, E.same hz hx, decide_eq_true_eq]
theorem RngK.drop [DecidableEq κ] (h : RngK E w R b r n f todo cnt) {t e : TypeId} (ht : Try.prog.underlying t = some (.map K e)) {x : κ} (hx : E.ok x) (ty : TypeId) :
    ∃ w' cnt', (Builtin.delete_ #[t, K] ty #[.map (some b), E.kv x]).run Try.prog w = .ok (.tuple #[]) w' ∧ RngK E w' R b r n (fun y => if y = x then none else f y) (fun y => todo y && !decide (y = x)) cnt' ∧ cnt' ≤ cnt ∧ Touch [b] w w' ∧ w'.heap.size = w.heap.size := by
  obtain ⟨D, left, h1, h2, h3⟩ := h
  obtain ⟨w', cnt', h4, h5, h6, h7⟩ := h1.drop E.law ht (E.of x hx) ty
  have hsz : w'.heap.size = w.heap.size := by
    obtain ⟨es, clock, es', clock', hb, rfl⟩ := h7
    simp [ChangeMaps.setBlock]
  refine ⟨w', cnt', h4, ⟨_, _, h5, fun z hz d => ?_, fun z hz => ?_⟩, h6, turnedK h7, hsz⟩
  · dsimp only
    by_cases hzx : z = x
    · subst hzx
      rw [if_pos rfl]
      exact atKey_del_same d
    · rw [if_neg hzx, atKey_del_other (fun e => hzx (E.inj hz hx e)), h2 z hz]
  · rw [h3 z hz]
    congr 1
    congr 1
    rw [Bool.eq_iff_iff, E.same hz hx, decide_eq_true_eq]
end
/-- Posts among a map's elements. -/
def slV : Option (Nat × Nat × Nat) → Value
  | none => .slice none 0 0
  | some (g, n, c) => .slice (some ⟨g, 0, none⟩) n c
def postV (p : Int × Option (Nat × Nat × Nat)) : Value := .agg #[.int .u8 p.1, slV p.2]
def postD (p : Int × Option (Nat × Nat × Nat)) : DataW Unit :=
  match p.2 with
  | none => .agg [.lit (.int .u8 p.1)]
  | some (g, n, c) => .agg [.lit (.int .u8 p.1), .lit (.int .i64 g), .lit (.int .i64 n), .lit (.int .i64 c)]
def postE : Value → Option (DataW Unit × List MemPlace)
  | .agg ⟨[.int .u8 s, .slice none 0 0]⟩ => some (postD (s, none), [])
  | .agg ⟨[.int .u8 s, .slice (some ⟨g, 0, none⟩) n c]⟩ => some (postD (s, some (g, n, c)), [])
  | _ => none
theorem postE_of (p : Int × Option (Nat × Nat × Nat)) : postE (postV p) = some (postD p, []) := by
  obtain ⟨s, o⟩ := p
  cases o with
  | none => rfl
  | some x => obtain ⟨g, n, c⟩ := x; rfl
theorem postE_inv {v : Value} {d : DataW Unit} {ps : List MemPlace} (h : postE v = some (d, ps)) : ∃ p, v = postV p ∧ d = postD p := by
  unfold postE at h
  split at h
  · rename_i s
    simp only [Option.some.injEq, Prod.mk.injEq] at h
    exact ⟨(s, none), rfl, h.1.symm⟩
  · rename_i s g n c
    simp only [Option.some.injEq, Prod.mk.injEq] at h
    exact ⟨(s, some (g, n, c)), rfl, h.1.symm⟩
  · cases h
theorem postD_inj {p q : Int × Option (Nat × Nat × Nat)} (h : postD p = postD q) : p = q := by
  obtain ⟨s, o⟩ := p
  obtain ⟨s', o'⟩ := q
  cases o with
  | none => cases o' with
    | none =>
      simp [postD] at h
      simp [h]
    | some x => obtain ⟨g, n, c⟩ := x; simp [postD] at h
  | some x =>
    obtain ⟨g, n, c⟩ := x
    cases o' with
    | none => simp [postD] at h
    | some x' =>
      obtain ⟨g', n', c'⟩ := x'
      simp [postD] at h
      obtain ⟨h1, h2, h3, h4⟩ := h
      simp [h1]
      omega
/-- Spells. -/
structure SpellC where
  fr : Int
  til : Int
  lk : Int
  kd : Int
  sd : Int
def spL (s : SpellC) : List Value := [.int .i64 s.fr, .int .i64 s.til, .int .u8 s.lk, .int .u8 s.kd, .int .u64 s.sd]
structure SpellOk (s : SpellC) : Prop where
  fr : (Lit.int .i64 s.fr).wf = true
  til : (Lit.int .i64 s.til).wf = true
  lk : (Lit.int .u8 s.lk).wf = true
  kd : (Lit.int .u8 s.kd).wf = true
  sd : (Lit.int .u64 s.sd).wf = true
def noSpell : SpellC := ⟨0, 0, 0, 0, 0⟩
def SpAt (lo : Nat) (w : World) (v : Value) (S : List SpellC) : Prop :=
  (v = .slice none 0 0 ∧ S = []) ∨ ∃ ad cap, v = .slice (some ad) S.length cap ∧ S.length ≤ cap ∧ cap ≤ maxLen ∧ lo ≤ ad.block ∧ ∀ i s, S[i]? = some s → ∀ j u, (spL s)[j]? = some u → w.cell? ((ad.add (i * 5)).add j) = some u
theorem SpAt.keep {lo : Nat} {w w' : World} {v : Value} {S : List SpellC} (h : SpAt lo w v S) (k : KeepC w w') : SpAt lo w' v S := by
  rcases h with h | ⟨ad, cap, h1, h2, h3, h4, h5⟩
  · exact .inl h
  · exact .inr ⟨ad, cap, h1, h2, h3, h4, fun i s hs j u hj => k _ _ (h5 i s hs j u hj)⟩
/-- What a post has. -/
structure PostC where
  s : Int
  R : List RowC
structure PostOk (p : PostC) : Prop where
  s : (Lit.int .u8 p.s).wf = true
  R : ∀ r ∈ p.R, RowOk r
  n : p.R.length ≤ 1000
  t : ∀ r ∈ p.R, r.tab.length ≤ 1000
structure FaultC where
  m : Nat
  nd : Int
  lk : Int
  S : List SpellC
structure FaultOk (F : FaultC) : Prop where
  m : 4 ≤ F.m ∧ F.m ≤ 16
  nd : -1 ≤ F.nd ∧ F.nd < F.m
  lk : -1 ≤ F.lk ∧ F.lk < 4 * F.m
  n : F.S.length ≤ 64
  S : ∀ s ∈ F.S, SpellOk s
/-- What holds of each world that has the blocks of M as this one has them. -/
def OnM (M : Nat → Prop) (w : World) (P : World → Prop) : Prop := ∀ W, (∀ k, M k → W.heap[k]? = w.heap[k]?) → P W
theorem OnM.now {M : Nat → Prop} {w : World} {P : World → Prop} (h : OnM M w P) : P w := h w fun _ _ => rfl
theorem OnM.to {M M' : Nat → Prop} {w w' : World} {P : World → Prop} (h : OnM M w P) (hM : ∀ k, M k → M' k) (e : ∀ k, M k → w'.heap[k]? = w.heap[k]?) : OnM M' w' P :=
  fun W hW => h W fun k hk => (hW k (hM k hk)).trans (e k hk)
/-- A mouth: what it is, what it was told, the greatest ticks; c bounds its maps, M has the blocks of its words and spells. -/
structure MouthIs (M : Nat → Prop) (w : World) (pm bt bl c : Nat) (f : Int × Int → Option (Int × Option (Nat × Nat × Nat))) (F : FaultC) (T : Int × Int → Option PostC) (G : Int → Option Int) : Prop where
  blk : ∃ sv, Blk w pm #[.int .i64 F.m, .int .i64 F.nd, .int .i64 F.lk, sv, .map (some bt), .map (some bl)] 104 ∧ OnM M w (fun W => SpAt 0 W sv F.S)
  told : MapK placeE w postE bt c (fun x => (f x).map postD)
  last : MapK intE w (plainElem Try.prog 2) bl c (fun l => (G l).map fun g => .lit (.int .i64 g))
  none : ∀ x, plOk x → T x = none → f x = none
  word : ∀ x p, plOk x → T x = some p → PostOk p ∧ ∃ o, f x = some (p.s, o) ∧ OnM M w (fun W => WordAt 0 W (slV o) p.R)
  ne : bt ≠ bl
  mem : ¬ M bt ∧ ¬ M bl ∧ ¬ M pm
  lt : ∀ k, M k → k < w.heap.size
  G : ∀ l g, G l = some g → 0 ≤ g ∧ g ≤ 1099511627776
section
variable {M : Nat → Prop} {w w' : World} {pm bt bl c : Nat} {f : Int × Int → Option (Int × Option (Nat × Nat × Nat))} {F : FaultC} {T : Int × Int → Option PostC} {G : Int → Option Int}
theorem MouthIs.agree (h : MouthIs M w pm bt bl c f F T G) (e : ∀ k, M k ∨ k = pm ∨ k = bt ∨ k = bl → w'.heap[k]? = w.heap[k]?) (hs : w.heap.size ≤ w'.heap.size) : MouthIs M w' pm bt bl c f F T G := by
  have eM : ∀ k, M k → w'.heap[k]? = w.heap[k]? := fun k hk => e k (.inl hk)
  obtain ⟨sv, h1, h2⟩ := h.blk
  exact ⟨⟨sv, (e pm (by simp)).trans h1, h2.to (fun _ h => h) eM⟩, h.told.block (e bt (by simp)), h.last.block (e bl (by simp)), h.none, fun x p hx hp => by
    obtain ⟨h3, o, h4, h5⟩ := h.word x p hx hp
    exact ⟨h3, o, h4, h5.to (fun _ h => h) eM⟩, h.ne, h.mem, fun k hk => Nat.lt_of_lt_of_le (h.lt k hk) hs, h.G⟩
theorem MouthIs.lts (h : MouthIs M w pm bt bl c f F T G) : ∀ k, M k ∨ k = pm ∨ k = bt ∨ k = bl → k < w.heap.size := by
  obtain ⟨sv, h1, h2⟩ := h.blk
  rintro k (hk | rfl | rfl | rfl)
  · exact h.lt k hk
  · exact h1.lt
  · exact h.told.lt
  · exact h.last.lt
theorem MouthIs.below (h : MouthIs M w pm bt bl c f F T G) (hb : Below w.heap.size w w') : MouthIs M w' pm bt bl c f F T G :=
  h.agree (fun k hk => hb.block k (h.lts k hk)) hb.size
theorem MouthIs.blks (h : MouthIs M w pm bt bl c f F T G) {b : Nat} {cs : Array Value} {t : TypeId} (hb : Blk w b cs t) (hT : Touch [bt, bl] w w') : Blk w' b cs t :=
  hb.touch hT (by
    have h1 := h.told.ne_blk hb
    have h2 := h.last.ne_blk hb
    simp
    omega)
theorem MouthIs.keepC (h : MouthIs M w pm bt bl c f F T G) (hT : Touch [bt, bl] w w') : KeepC w w' := fun a u hu => by
  refine touch_cell hu hT fun hm => ?_
  have no : ∀ b, (∃ es cl, w.heap[b]? = some (.map es cl)) → a.block ≠ b := by
    rintro b ⟨es, cl, hb⟩ e
    have h0 : w.cell? a = Option.none := by
      unfold World.cell?
      rw [e, hb]
    rw [h0] at hu
    cases hu
  simp at hm
  rcases hm with hm | hm
  · obtain ⟨D, ⟨es, cl, h1, _⟩, _⟩ := h.told
    exact no bt ⟨es, cl, h1⟩ hm
  · obtain ⟨D, ⟨es, cl, h1, _⟩, _⟩ := h.last
    exact no bl ⟨es, cl, h1⟩ hm
theorem MouthIs.mono {c' : Nat} (h : MouthIs M w pm bt bl c f F T G) (hc : c ≤ c') : MouthIs M w pm bt bl c' f F T G :=
  ⟨h.blk, h.told.mono hc, h.last.mono hc, h.none, h.word, h.ne, h.mem, h.lt, h.G⟩
end
end Go.Proofs.Ytmdohnbhogfopaa
/- Mix; one; slices.Clone of spells; New; Is. -/
namespace Go.Proofs.Ytmdohnbhogfopaa
open Go.RowKit Go.Maps
set_option linter.unusedSimpArgs false
set_option linter.unusedVariables false
set_option maxRecDepth 100000
def mixZ (n : Int) : Int := IntKind.u64.wrap (n + 11400714819323198485)
def mixS (k m z : Int) : Int := IntKind.u64.wrap (bits .xor .u64 z (z / k) * m)
def mixI (n : Int) : Int := bits .xor .u64 (mixS 134217728 10723151780598845931 (mixS 1073741824 13787848793156543929 (mixZ n))) (mixS 134217728 10723151780598845931 (mixS 1073741824 13787848793156543929 (mixZ n)) / 2147483648)
theorem mixI_zero : mixI 0 = 16294208416658607535 := by kernel_rfl
theorem mixR (w : World) (n : Int) : Calls Try.prog 38 #[.int .u64 n] w fun e w' => e = .returned (.int .u64 (mixI n)) ∧ w = w' := by
  go_enter Try.func38, Try.ntmps38
  go_wp2_with fail
  go_ret
  exact ⟨rfl, rfl⟩
theorem mixR2 (w : World) (n : Int) : Calls Try.prog 39 #[.int .u64 n] w fun e w' => e = .returned (.int .u64 (mixI n)) ∧ w = w' := by
  go_enter Try.func39, Try.ntmps39
  go_wp2_with fail
  go_ret
  exact ⟨rfl, rfl⟩
theorem oneR (w : World) (i m : Int) : Calls Try.prog 61 #[.int .i64 i, .int .i64 m] w fun e w' => e = .returned (.bool (decide (-1 ≤ i ∧ i < m))) ∧ w = w' := by
  by_cases h1 : -1 ≤ i
  · have t1 : decide (-1 ≤ i) = true := by simp [h1]
    have e : decide (-1 ≤ i ∧ i < m) = decide (i < m) := by simp [h1]
    rw [e]
    clear e
    go_enter Try.func61, Try.ntmps61
    go_wp2_with fail
    go_ret
    exact ⟨rfl, rfl⟩
  · have t1 : decide (-1 ≤ i) = false := by simp; omega
    have e : decide (-1 ≤ i ∧ i < m) = false := by simp; omega
    rw [e]
    clear e
    go_enter Try.func61, Try.ntmps61
    go_wp2_with fail
    go_ret
    exact ⟨rfl, rfl⟩
theorem elemSpell : (Try.prog.info? 27).map (fun i => (i.zero, i.size, i.bytes)) = some (some (.agg #[.int .i64 0, .int .i64 0, .int .u8 0, .int .u8 0, .int .u64 0]), 5, 32) := by kernel_rfl
def spFlat (S : List SpellC) : List Value := (S.map spL).flatten
theorem spFlat_length (S : List SpellC) : (spFlat S).length = S.length * 5 := by
  induction S with
  | nil => rfl
  | cons s S ih =>
    unfold spFlat at ih ⊢
    simp only [List.map_cons, List.flatten_cons, List.length_append, List.length_cons, ih]
    simp [spL]
    omega
theorem spFlat_get {S : List SpellC} {i : Nat} {s : SpellC} (hi : S[i]? = some s) : ∀ j u, (spL s)[j]? = some u → (spFlat S)[i * 5 + j]? = some u := by
  induction S generalizing i with
  | nil => simp at hi
  | cons s' S ih =>
    intro j u hj
    have hl : (spL s').length = 5 := rfl
    unfold spFlat at ih ⊢
    rw [List.map_cons, List.flatten_cons]
    cases i with
    | zero =>
      simp at hi
      subst hi
      have := (List.getElem?_eq_some_iff.1 hj).1
      rw [List.getElem?_append_left (by omega)]
      simpa using hj
    | succ i =>
      rw [List.getElem?_append_right (by omega), hl]
      have := ih (by simpa using hi) j u hj
      rw [← this]
      congr 1
      omega
theorem spFlat_one (S : List SpellC) : ∀ u ∈ spFlat S, u.oneCell' = true := by
  intro u hu
  unfold spFlat at hu
  obtain ⟨t, ht, hut⟩ := List.mem_flatten.1 hu
  obtain ⟨s, _, rfl⟩ := List.mem_map.1 ht
  simp [spL] at hut
  rcases hut with rfl | rfl | rfl | rfl | rfl <;> rfl
theorem SpAt.flat {lo : Nat} {w : World} {v : Value} {S : List SpellC} (h : SpAt lo w v S) : (v = .slice none 0 0 ∧ S = []) ∨ ∃ ad cap, v = .slice (some ad) S.length cap ∧ S.length ≤ cap ∧ cap ≤ maxLen ∧ ∀ j u, (spFlat S)[j]? = some u → w.cell? (ad.add j) = some u := by
  rcases h with h | ⟨ad, cap, h1, h2, h3, _, h5⟩
  · exact .inl h
  · refine .inr ⟨ad, cap, h1, h2, h3, fun j u hj => ?_⟩
    have hj' := (List.getElem?_eq_some_iff.1 hj).1
    rw [spFlat_length] at hj'
    have hi : j / 5 < S.length := by omega
    obtain ⟨s, hs⟩ : ∃ s, S[j / 5]? = some s := ⟨_, List.getElem?_eq_getElem hi⟩
    obtain ⟨u', hu'⟩ : ∃ u', (spL s)[j % 5]? = some u' := ⟨_, List.getElem?_eq_getElem (by have : (spL s).length = 5 := rfl; omega)⟩
    have e1 := spFlat_get hs _ _ hu'
    have e2 : j / 5 * 5 + j % 5 = j := by omega
    rw [e2, hj] at e1
    simp at e1
    subst e1
    have := h5 _ s hs _ _ hu'
    rw [add_add', e2] at this
    exact this
theorem cloneS (w : World) (v : Value) (S : List SpellC) (ha : SpAt 0 w v S) (hn : S.length ≤ 1000000) :
    Calls Try.prog 62 #[v] w fun e w' => ∃ a n c, e = .returned (.slice a n c) ∧ n = S.length ∧ SpAt w.heap.size w' (.slice a n c) S ∧ Below w.heap.size w w' := by
  obtain ⟨i0, hi, hz0, hz1, hz2⟩ := info_parts elemSpell
  have hq := fun (W : World) (ao : Option Addr) (n c : Nat) => Lib.run_eql_slice_nil (P := Try.prog) W 32 27 ao n c 0 0 Try.underlying32
  rcases ha.flat with ⟨rfl, rfl⟩ | ⟨ad, cap, rfl, h1, h2, h3⟩
  · go_enter Try.func62, Try.ntmps62
    go_wp2
    go_ret
    exact ⟨_, _, _, rfl, rfl, .inl ⟨rfl, rfl⟩, Below.refl _ _⟩
  · have hl := spFlat_length S
    have h1c := spFlat_one S
    have hne : ∀ (W : World), Below w.heap.size w W → ∀ j u, (spFlat S)[j]? = some u → W.cell? (ad.add j) = some u := fun W hW j u hj => below_cell (h3 j u hj) hW (World.block_lt_of_cell? w _ (h3 j u hj))
    have hfin : ∀ v' W, W.ownsRow w.heap.size 27 5 v' S.length (spFlat S) → ∃ a n c, v' = .slice a n c ∧ n = S.length ∧ SpAt w.heap.size W (.slice a n c) S := fun v' W h => by
      rcases h.2 with ⟨rfl, h2⟩ | ⟨g, cap', cur, rfl, g2, g3, g4, g5, g6, g7⟩
      · exact ⟨none, 0, 0, rfl, h2.symm, .inl ⟨rfl, List.length_eq_zero_iff.1 h2⟩⟩
      · refine ⟨_, _, _, rfl, rfl, .inr ⟨_, cap', rfl, g4, g5, g2, fun i s hs j u hj => ?_⟩⟩
        have hgb : Blk W g cur 27 := g3
        rw [add_add', add_head]
        refine hgb.cell ?_
        have := spFlat_get hs j u hj
        rw [← g7, List.getElem?_take] at this
        split at this
        · simpa using this
        · simp at this
    replace hne := Lib.hid hne
    replace hfin := Lib.hid hfin
    generalize hF : spFlat S = F at *
    generalize hnS : S.length = n at *
    clear h3 ha
    go_enter Try.func62, Try.ntmps62
    go_wp2_with (at_builtin; refine wpList_append_own _ rfl _ _ 32 rfl w.heap.size 27 i0 _ 5 32 Try.underlying32 hi hz0 hz1 hz2 rfl (by decide) _ 0 [] rfl (World.ownsRow_made _ _ 0 (Nat.le_refl _) (by unfold maxLen; omega) rfl) ad n cap F rfl hl (hne.out _ ((Below.refl _ _).alloc (Nat.le_refl _) _)) h1c (by unfold maxLen; omega) (by omega) (by simp) ?_)
    intro v1 w1 hown1 hg1 _
    have hb1 : Below w.heap.size w w1 := Below.grown ((Below.refl _ _).alloc (Nat.le_refl _) _) hg1 (by simp) (by simp [Value.ownBlock])
    try simp only [Nat.zero_add, List.nil_append] at hown1
    obtain ⟨a9, n9, c9, rfl, hn9, hf9⟩ := hfin.out _ _ hown1
    clear hg1 hown1
    go_wp2
    go_ret
    exact ⟨_, _, _, rfl, hn9, hf9, hb1⟩
theorem isNil (w : World) (l : Int) : Calls Try.prog 33 #[.pointer none, .int .i64 l] w fun e w' => e = .returned (.bool false) ∧ w = w' := by
  go_enter Try.func33, Try.ntmps33
  go_wp2_with fail
  go_ret
  exact ⟨rfl, rfl⟩
theorem isZero (w : World) (b : Nat) (x1 x2 x3 x4 x5 : Value) (hb : Blk w b #[.int .i64 0, x1, x2, x3, x4, x5] 104) (l : Int) : Calls Try.prog 33 #[.pointer (some ⟨b, 0, none⟩), .int .i64 l] w fun e w' => e = .returned (.bool false) ∧ w = w' := by
  have c0 : w.cell? ⟨b, 0, none⟩ = some (.int .i64 0) := hb.cell (i := 0) rfl
  go_enter Try.func33, Try.ntmps33
  go_wp2_with fail
  go_ret
  exact ⟨rfl, rfl⟩
/-- Is it one of its links? -/
def isF (F : FaultC) (l : Int) : Bool := decide (0 ≤ l ∧ l < 4 * F.m) && (if F.nd = -1 then decide (l = F.lk) else decide (l / 4 = F.nd))
end Go.Proofs.Ytmdohnbhogfopaa
/- Is; New. -/
namespace Go.Proofs.Ytmdohnbhogfopaa
open Go.RowKit Go.Maps
set_option linter.unusedSimpArgs false
set_option linter.unusedVariables false
set_option maxRecDepth 100000
theorem wrapI (x : Int) (h1 : -1000000000000000000 ≤ x) (h2 : x ≤ 1000000000000000000) : IntKind.i64.wrap x = x := by
  rw [IntKind.wrap_i64]
  omega
theorem isR {M : Nat → Prop} {w : World} {pm bt bl c : Nat} {f : Int × Int → Option (Int × Option (Nat × Nat × Nat))} {F : FaultC} {T : Int × Int → Option PostC} {G : Int → Option Int} (h : MouthIs M w pm bt bl c f F T G) (hF : FaultOk F) (l : Int) :
    Calls Try.prog 33 #[.pointer (some ⟨pm, 0, none⟩), .int .i64 l] w fun e w' => e = .returned (.bool (isF F l)) ∧ w = w' := by
  obtain ⟨sv, hb, -⟩ := h.blk
  have c0 : w.cell? ⟨pm, 0, none⟩ = some (.int .i64 F.m) := hb.cell (i := 0) rfl
  have c1 : w.cell? ⟨pm, 1, none⟩ = some (.int .i64 F.nd) := hb.cell (i := 1) rfl
  have c2 : w.cell? ⟨pm, 2, none⟩ = some (.int .i64 F.lk) := hb.cell (i := 2) rfl
  clear hb
  have hm := hF.m
  unfold isF
  generalize F.m = m at *
  generalize F.nd = nd at *
  generalize F.lk = lk at *
  clear h hF
  have w4 : IntKind.i64.wrap (4 * (m : Int)) = 4 * (m : Int) := wrapI _ (by omega) (by omega)
  have m0 : ((m : Int) == 0) = false := by simp; omega
  by_cases h1 : l < 0
  · have e : decide (0 ≤ l ∧ l < 4 * (m : Int)) = false := by simp; omega
    have t1 : decide (l < 0) = true := by simp [h1]
    rw [e, Bool.false_and]
    clear e
    go_enter Try.func33, Try.ntmps33
    go_wp2_with fail
    go_ret
    exact ⟨rfl, rfl⟩
  by_cases h2 : 4 * (m : Int) ≤ l
  · have e : decide (0 ≤ l ∧ l < 4 * (m : Int)) = false := by simp; omega
    have t1 : decide (l < 0) = false := by simp; omega
    have t2 : decide (4 * (m : Int) ≤ l) = true := by simp [h2]
    rw [e, Bool.false_and]
    clear e
    go_enter Try.func33, Try.ntmps33
    go_wp2_with fail
    go_ret
    exact ⟨rfl, rfl⟩
  have e : decide (0 ≤ l ∧ l < 4 * (m : Int)) = true := by simp; omega
  have t1 : decide (l < 0) = false := by simp; omega
  have t2 : decide (4 * (m : Int) ≤ l) = false := by simp; omega
  rw [e]
  clear e
  have q1 : Int.tdiv l 4 = l / 4 := Int.tdiv_eq_ediv_of_nonneg (by omega)
  have q2 : IntKind.i64.wrap (l / 4) = l / 4 := by
    have hb : l < 10000 := by omega
    exact wrapI _ (by omega) (by omega)
  by_cases h3 : nd = -1
  · rw [if_pos h3]
    have t3 : (nd == -1) = true := by simp [h3]
    have q3 : (l == lk) = decide (l = lk) := rfl
    rw [← q3]
    clear q3 h1 h2
    subst h3
    go_enter Try.func33, Try.ntmps33
    go_wp2_with fail
    go_ret
    exact ⟨by simp, rfl⟩
  · rw [if_neg h3]
    have t3 : (nd == -1) = false := by simp [h3]
    have q3 : (l / 4 == nd) = decide (l / 4 = nd) := rfl
    rw [← q3]
    clear q3 h1 h2
    go_enter Try.func33, Try.ntmps33
    go_wp2_with fail
    go_ret
    exact ⟨by simp, rfl⟩
def faultB (n nd lk : Int) (k : Nat) : Bool := decide (4 ≤ n ∧ n ≤ 16) && decide (-1 ≤ nd ∧ nd < n) && decide (-1 ≤ lk ∧ lk < 4 * n) && decide (k ≤ 64)
set_option maxHeartbeats 2000000 in
theorem newBad (w : World) (n nd lk : Int) (a : Option Addr) (k c : Nat) (h : faultB n nd lk k = false) :
    Calls Try.prog 16 #[.int .i64 n, .agg #[.int .i64 nd, .int .i64 lk, .slice a k c]] w fun e w' => e = .returned (.tuple #[.pointer none, .int .i64 1]) ∧ Below w.heap.size w w' := by
  have hb := below_alloc w (.cells #[.int .i64 nd, .int .i64 lk, .slice a k c] 34)
  replace hb := Lib.hid hb
  by_cases h1 : n < 4
  · have t1 : decide (n < 4) = true := by simp [h1]
    clear h
    go_enter Try.func16, Try.ntmps16
    go_wp2_with fail
    go_ret2
    exact ⟨rfl, hb.out⟩
  have t1 : decide (n < 4) = false := by simp; omega
  by_cases h2 : 16 < n
  · have t2 : decide (16 < n) = true := by simp [h2]
    clear h
    go_enter Try.func16, Try.ntmps16
    go_wp2_with fail
    go_ret2
    exact ⟨rfl, hb.out⟩
  have t2 : decide (16 < n) = false := by simp; omega
  have w4 : IntKind.i64.wrap (4 * n) = 4 * n := wrapI _ (by omega) (by omega)
  by_cases h3 : ¬ (-1 ≤ nd ∧ nd < n)
  · have t3 : decide (-1 ≤ nd ∧ nd < n) = false := by simp; omega
    clear h
    go_enter Try.func16, Try.ntmps16
    go_wp2_with fail
    refine (oneR _ _ _).mono ?_
    rintro e _ ⟨rfl, rfl⟩
    rw [t3]
    go_wp2_with fail
    go_ret2
    exact ⟨rfl, hb.out⟩
  have t3 : decide (-1 ≤ nd ∧ nd < n) = true := by simp; omega
  by_cases h4 : ¬ (-1 ≤ lk ∧ lk < 4 * n)
  · have t4 : decide (-1 ≤ lk ∧ lk < 4 * n) = false := by simp; omega
    clear h
    go_enter Try.func16, Try.ntmps16
    go_wp2_with fail
    refine (oneR _ _ _).mono ?_
    rintro e _ ⟨rfl, rfl⟩
    rw [t3]
    go_wp2_with fail
    refine (oneR _ _ _).mono ?_
    rintro e _ ⟨rfl, rfl⟩
    rw [t4]
    go_wp2_with fail
    go_ret2
    exact ⟨rfl, hb.out⟩
  have t4 : decide (-1 ≤ lk ∧ lk < 4 * n) = true := by simp; omega
  have h5 : 64 < k := by
    simp only [faultB, t3, t4, Bool.and_true] at h
    have h6 : decide (4 ≤ n ∧ n ≤ 16) = true := by simp; omega
    rw [h6] at h
    simp at h
    omega
  have t5 : decide ((64 : Int) < (k : Int)) = true := by simp; omega
  clear h
  go_enter Try.func16, Try.ntmps16
  go_wp2_with fail
  refine (oneR _ _ _).mono ?_
  rintro e _ ⟨rfl, rfl⟩
  rw [t3]
  go_wp2_with fail
  refine (oneR _ _ _).mono ?_
  rintro e _ ⟨rfl, rfl⟩
  rw [t4]
  go_wp2_with fail
  go_ret2
  exact ⟨rfl, hb.out⟩
end Go.Proofs.Ytmdohnbhogfopaa
/- New that makes a mouth. -/
namespace Go.Proofs.Ytmdohnbhogfopaa
open Go.RowKit Go.Maps
set_option linter.unusedSimpArgs false
set_option linter.unusedVariables false
set_option maxRecDepth 100000
theorem cell_of_block {w w' : World} {a : Addr} (h : w'.heap[a.block]? = w.heap[a.block]?) : w'.cell? a = w.cell? a := by
  unfold World.cell?
  rw [h]
theorem add_block (ad : Addr) (k : Nat) : (ad.add k).block = ad.block := by
  unfold Addr.add
  split <;> rfl
theorem SpAt.onM {lo : Nat} {w : World} {v : Value} {S : List SpellC} (h : SpAt lo w v S) : OnM (fun k => lo ≤ k ∧ k < w.heap.size) w (fun W => SpAt 0 W v S) := by
  intro W hW
  rcases h with h | ⟨ad, cap, h1, h2, h3, h4, h5⟩
  · exact .inl h
  · refine .inr ⟨ad, cap, h1, h2, h3, Nat.zero_le _, fun i s hs j u hj => ?_⟩
    have hc := h5 i s hs j u hj
    have hlt := World.block_lt_of_cell? w _ hc
    rw [add_block, add_block] at hlt
    rw [cell_of_block (w := w) (by rw [add_block, add_block]; exact hW _ ⟨h4, hlt⟩)]
    exact hc
theorem blk_alloc2 {w : World} (o o' : Obj) : Below w.heap.size w ((w.alloc o).alloc o') := (below_alloc _ _).trans ((below_alloc _ _).mono (by simp))
set_option maxHeartbeats 2000000 in
theorem newOk (w : World) (F : FaultC) (hF : FaultOk F) (v : Value) (hs : SpAt 0 w v F.S) :
    Calls Try.prog 16 #[.int .i64 F.m, .agg #[.int .i64 F.nd, .int .i64 F.lk, v]] w fun e w' => ∃ pm bt bl M, e = .returned (.tuple #[.pointer (some ⟨pm, 0, none⟩), .int .i64 0]) ∧
      MouthIs M w' pm bt bl 0 (fun _ => none) F (fun _ => none) (fun _ => none) ∧ Below w.heap.size w w' ∧ (∀ k, M k → w.heap.size ≤ k) ∧ w.heap.size ≤ pm ∧ w.heap.size ≤ bt ∧ w.heap.size ≤ bl ∧ pm < w'.heap.size := by
  have hm := hF.m
  have hnd := hF.nd
  have hlk := hF.lk
  have hn := hF.n
  have hv : ∃ a n c, v = .slice a n c ∧ n = F.S.length := by
    rcases hs with ⟨rfl, h⟩ | ⟨ad, cap, rfl, _⟩
    · exact ⟨_, _, _, rfl, by rw [h]; rfl⟩
    · exact ⟨_, _, _, rfl, rfl⟩
  obtain ⟨a, k, c, rfl, hk⟩ := hv
  rw [← hk] at hn
  have P1 : Hid (∀ W, Below w.heap.size w W → Calls Try.prog 62 #[.slice a k c] W fun e w' => ∃ a n c, e = .returned (.slice a n c) ∧ n = F.S.length ∧ SpAt W.heap.size w' (.slice a n c) F.S ∧ Below W.heap.size W w') := fun W hW => cloneS W _ F.S (hs.keep (KeepC.of_below hW)) (by omega)
  have hm0 : (F.m : Int) = ((F.m : Nat) : Int) := rfl
  have fin : Hid (∀ (w7 : World) (B : Nat) (a7 : Option Addr) (n7 c7 : Nat), w.heap.size ≤ B → B < w7.heap.size → SpAt (B + 1) w7 (.slice a7 n7 c7) F.S → ∀ w8 : World, w7.heap.size ≤ w8.heap.size → (∀ k, B + 1 ≤ k ∧ k < w7.heap.size → w8.heap[k]? = w7.heap[k]?) →
      MouthIs (fun k => B + 1 ≤ k ∧ k < w7.heap.size) (((w8.alloc (.map #[] 0)).alloc (.map #[] 0)).alloc (.cells #[.int .i64 F.m, .int .i64 F.nd, .int .i64 F.lk, .slice a7 n7 c7, .map (some w8.heap.size), .map (some (w8.heap.size + 1))] 104)) (w8.heap.size + 1 + 1) w8.heap.size (w8.heap.size + 1) 0 (fun _ => none) F (fun _ => none) (fun _ => none)) := by
    intro w7 B a7 n7 c7 hB1 hB2 h7 w8 s8 h8
    refine ⟨⟨.slice a7 n7 c7, ?_, ?_⟩, ?_, ?_, fun _ _ _ => rfl, fun x p hx hp => by simp at hp, by omega, ⟨by omega, by omega, by omega⟩, fun k hk => by simp; omega, fun l g h => by simp at h⟩
    · have := Blk.new ((w8.alloc (.map #[] 0)).alloc (.map #[] 0)) #[.int .i64 F.m, .int .i64 F.nd, .int .i64 F.lk, .slice a7 n7 c7, .map (some w8.heap.size), .map (some (w8.heap.size + 1))] 104
      simpa using this
    · refine h7.onM.to (fun _ h => h) fun k hk => ?_
      rw [Below.heap_alloc _ _ _ (by simp; omega), Below.heap_alloc _ _ _ (by simp; omega), Below.heap_alloc _ _ _ (by omega)]
      exact h8 k hk
    · have h1 : MapK placeE (w8.alloc (.map #[] 0)) postE w8.heap.size 0 (fun _ => none) := MapK.made _ _
      refine (h1.block (w' := ((w8.alloc (.map #[] 0)).alloc (.map #[] 0)).alloc _) ?_).congr (fun x hx => rfl)
      rw [Below.heap_alloc _ _ _ (by simp; omega), Below.heap_alloc _ _ _ (by simp)]
    · have h1 : MapK intE ((w8.alloc (.map #[] 0)).alloc (.map #[] 0)) (plainElem Try.prog 2) (w8.alloc (.map #[] 0)).heap.size 0 (fun _ => none) := MapK.made _ _
      have h2 : (w8.alloc (.map #[] 0)).heap.size = w8.heap.size + 1 := by simp
      rw [h2] at h1
      refine (h1.block (w' := ((w8.alloc (.map #[] 0)).alloc (.map #[] 0)).alloc _) ?_).congr (fun x hx => rfl)
      rw [Below.heap_alloc _ _ _ (by simp)]
  clear hs
  generalize F.m = m at *
  generalize F.nd = nd at *
  generalize F.lk = lk at *
  have t1 : decide ((m : Int) < 4) = false := by simp; omega
  have t2 : decide (16 < (m : Int)) = false := by simp; omega
  have w4 : IntKind.i64.wrap (4 * (m : Int)) = 4 * (m : Int) := wrapI _ (by omega) (by omega)
  have t3 : decide (-1 ≤ nd ∧ nd < (m : Int)) = true := by simp; omega
  have t4 : decide (-1 ≤ lk ∧ lk < 4 * (m : Int)) = true := by simp; omega
  have t5 : decide ((64 : Int) < (k : Int)) = false := by simp; omega
  have hb0 := Lib.hid (below_alloc w (.cells #[.int .i64 nd, .int .i64 lk, .slice a k c] 34))
  have k0 := Lib.hid (Blk.new w #[.int .i64 nd, .int .i64 lk, .slice a k c] 34)
  clear hk hn hm hnd hlk hF hm0
  have hmm := @run_makeMap Try.prog
  go_enter Try.func16, Try.ntmps16
  go_wp2_with fail
  refine (oneR _ _ _).mono ?_
  rintro e _ ⟨rfl, rfl⟩
  rw [t3]
  go_wp2_with fail
  refine (oneR _ _ _).mono ?_
  rintro e _ ⟨rfl, rfl⟩
  rw [t4]
  go_wp2_with fail
  refine (P1.out _ hb0.out).mono ?_
  rintro e w7 ⟨a7, n7, c7, rfl, hn7, h7, hb7⟩
  have k7 := Lib.hid (k0.out.below hb7 k0.out.lt)
  have s7 := hb7.size
  have hbb := Lib.hid (bthen hb0.out hb7)
  have hf7 := Lib.hid (fin.out w7 w.heap.size a7 n7 c7 (Nat.le_refl _) (by simp at s7; omega) (by simpa using h7))
  have s8 : w.heap.size < w7.heap.size := by simp at s7; omega
  have c0 : w7.cell? ⟨w.heap.size, 0, none⟩ = some (.int .i64 nd) := k7.out.cell (i := 0) rfl
  have c1 : w7.cell? ⟨w.heap.size, 1, none⟩ = some (.int .i64 lk) := k7.out.cell (i := 1) rfl
  have c2 : w7.cell? ⟨w.heap.size, 2, none⟩ = some (.slice a k c) := k7.out.cell (i := 2) rfl
  have f2 : w7.frozen? ⟨w.heap.size, 2, none⟩ = false := k7.out.free 2
  clear hb7 k0 hb0 fin h7 s7 P1
  generalize F.S.length = n8 at *
  subst hn7
  go_upto_region 5 with fail
  have hfin := hf7.out (w7.setCell ⟨w.heap.size, 2, none⟩ (.slice a7 n7 c7)) (by simp) (fun k hk => Below.heap_setCell _ _ _ _ (by simp; omega))
  have hsz : (w7.setCell ⟨w.heap.size, 2, none⟩ (.slice a7 n7 c7)).heap.size = w7.heap.size := by simp
  rw [hsz] at hfin
  have hbF := ((hbb.out.setCell (show w.heap.size ≤ (⟨w.heap.size, 2, none⟩ : Addr).block from Nat.le_refl _) (.slice a7 n7 c7)).trans ((blk_alloc2 (.map #[] 0) (.map #[] 0)).mono (by simp; omega))).trans ((below_alloc _ (.cells #[.int .i64 m, .int .i64 nd, .int .i64 lk, .slice a7 n7 c7, .map (some w7.heap.size), .map (some (w7.heap.size + 1))] 104)).mono (by simp; omega))
  go_ret2
  exact ⟨_, _, _, _, rfl, hfin, hbF, fun k hk => by omega, by omega, by omega, by omega, by simp⟩
end Go.Proofs.Ytmdohnbhogfopaa
/- spell: which one it is. -/
namespace Go.Proofs.Ytmdohnbhogfopaa
open Go.RowKit Go.Maps
set_option linter.unusedSimpArgs false
set_option linter.unusedVariables false
set_option maxRecDepth 100000
/-- Has a spell this link of a node? -/
def bitB (lk l : Int) : Bool := bits .and .u8 (lk / 2 ^ (l % 4).toNat) 1 == 1
def inSp (nd l t : Int) (s : SpellC) : Bool := decide (s.fr ≤ t ∧ t < s.til) && (decide (nd = -1) || bitB s.lk l)
def spellF (F : FaultC) (t l : Int) : SpellC := (F.S.find? (inSp F.nd l t)).getD noSpell
theorem spell1 (w : World) (s : SpellC) (bp bm pm : Nat) (nd l t : Int) (hl : 0 ≤ l ∧ l < 64)
    (c0 : w.cell? ⟨bp, 0, none⟩ = some (.int .i64 l)) (c1 : w.cell? ⟨bp, 1, none⟩ = some (.int .i64 t)) (c2 : w.cell? ⟨bm, 0, none⟩ = some (.pointer (some ⟨pm, 0, none⟩))) (c3 : w.cell? ⟨pm, 1, none⟩ = some (.int .i64 nd)) :
    Calls Try.prog 105 #[.agg (spL s).toArray, .pointer (some ⟨bp, 0, none⟩), .pointer (some ⟨bm, 0, none⟩)] w fun e w' => e = .returned (.bool (inSp nd l t s)) ∧ Below w.heap.size w w' := by
  have hb := Lib.hid (below_alloc w (.cells (spL s).toArray 27))
  have hbp := World.block_lt_of_cell? w _ c0
  have hbm := World.block_lt_of_cell? w _ c2
  have hpm := World.block_lt_of_cell? w _ c3
  simp only at hbp hbm hpm
  unfold spL at *
  by_cases h1 : t < s.fr
  · have t1 : decide (t < s.fr) = true := by simp [h1]
    have e : inSp nd l t s = false := by simp [inSp]; omega
    rw [e]
    clear e h1
    go_enter Try.func105, Try.ntmps105
    go_wp2_with fail
    go_ret
    exact ⟨rfl, hb.out⟩
  have t1 : decide (t < s.fr) = false := by simp; omega
  by_cases h2 : s.til ≤ t
  · have t2 : decide (s.til ≤ t) = true := by simp [h2]
    have e : inSp nd l t s = false := by simp [inSp]; omega
    rw [e]
    clear e h1 h2
    go_enter Try.func105, Try.ntmps105
    go_wp2_with fail
    go_ret
    exact ⟨rfl, hb.out⟩
  have t2 : decide (s.til ≤ t) = false := by simp; omega
  by_cases h3 : nd = -1
  · have t3 : (nd == -1) = true := by simp [h3]
    have e : inSp nd l t s = true := by simp [inSp, h3]; omega
    rw [e]
    clear e h1 h2
    subst h3
    go_enter Try.func105, Try.ntmps105
    go_wp2_with fail
    go_ret
    exact ⟨rfl, hb.out⟩
  · have t3 : (nd == -1) = false := by simp [h3]
    have e : inSp nd l t s = bitB s.lk l := by
      have h4 : decide (s.fr ≤ t ∧ t < s.til) = true := by simp; omega
      have h5 : decide (nd = -1) = false := by simp [h3]
      simp only [inSp, h4, h5, Bool.true_and, Bool.false_or]
    rw [e]
    clear e h1 h2 h3
    unfold bitB
    go_enter Try.func105, Try.ntmps105
    go_wp2_with fail
    go_ret
    exact ⟨rfl, hb.out⟩
theorem spellRow : ∃ d, Try.prog.underlying 27 = some d ∧ d.isRow = true := ⟨_, Try.underlying27, rfl⟩
theorem spellSize : (Try.prog.info? 27).map (·.size) = some 5 := by kernel_rfl
def InvIx (w : World) (p : SpellC → Bool) (sv fv : Value) (S : List SpellC) (n : Nat) (k : Nat) (a : Act) (wr : World) : Prop :=
  ∃ i, i + k = n ∧ Hid (∀ (j : Nat) (s : SpellC), j < i → S[j]? = some s → p s = false) ∧ Hid (Below w.heap.size w wr) ∧ a.tmps.size = 19 ∧ a.defers = [] ∧ slot a 0 = sv ∧ slot a 1 = fv ∧ slot a 7 = .int .i64 n ∧ slot a 8 = .int .i64 i
set_option maxHeartbeats 1000000 in
theorem indexS (w : World) (p : SpellC → Bool) (v : Value) (S : List SpellC) (hs : SpAt 0 w v S) (hn : S.length ≤ 1000000) (p1 p2 : Value)
    (hp : ∀ W s, Below w.heap.size w W → Calls Try.prog 105 #[.agg (spL s).toArray, p1, p2] W fun e w' => e = .returned (.bool (p s)) ∧ Below W.heap.size W w') :
    Calls Try.prog 104 #[v, .func (.func 105) #[] #[p1, p2]] w fun e w' => ∃ z, e = .returned (.int .i64 z) ∧ Below w.heap.size w w' ∧
      ((z = -1 ∧ ∀ s ∈ S, p s = false) ∨ ∃ i s, z = ((i : Nat) : Int) ∧ i < S.length ∧ S[i]? = some s ∧ S.find? p = some s) := by
  obtain ⟨d0, hd0, hd1⟩ := spellRow
  obtain ⟨ao, n, cap, rfl, hnS⟩ : ∃ ao n cap, v = .slice ao n cap ∧ n = S.length := by
    rcases hs with ⟨rfl, h⟩ | ⟨ad, cap, rfl, _⟩
    · exact ⟨_, _, _, rfl, by rw [h]; rfl⟩
    · exact ⟨_, _, _, rfl, rfl⟩
  rw [← hnS] at hn
  replace hs := Lib.hid hs
  replace hp := Lib.hid hp
  replace hnS := Lib.hid hnS
  go_enter Try.func104, Try.ntmps104
  go_wp2_with fail
  refine wp_loop_k (InvIx w p (.slice ao n cap) (.func (.func 105) #[] #[p1, p2]) S n) n ?_ ?_
  · exact ⟨0, by omega, fun j s hj => by omega, Below.refl _ _, by kernel_rfl, rfl, by kernel_rfl, by kernel_rfl, by kernel_rfl, by kernel_rfl⟩
  intro gk a wr hI K hK
  obtain ⟨i, hi0, hSo, hb, hs', hd', k0', k1', k7', k8'⟩ := hI
  rw [fr19 a hs' hd']; simp only [k0', k1', k7', k8']; clear hs' hd' k0' k1' k7' k8'
  by_cases hlt : i < n
  · have g1 : decide ((i : Int) < (n : Int)) = true := by simp; omega
    have g2 : (i : Int) < (n : Int) := by omega
    have g3 : IntKind.i64.wrap ((i : Int) + 1) = ((i + 1 : Nat) : Int) := by rw [wrap_i64_small _ (by omega) (by omega)]; omega
    obtain ⟨s, hsi⟩ : ∃ s, S[i]? = some s := ⟨_, List.getElem?_eq_getElem (by have := hnS.out; omega)⟩
    obtain ⟨ad, rfl, hcs⟩ : ∃ ad, ao = some ad ∧ ∀ j u, (spL s)[j]? = some u → w.cell? ((ad.add (i * 5)).add j) = some u := by
      rcases hs.out with ⟨h1, h2⟩ | ⟨ad, cap', h1, _, _, _, h2⟩
      · rw [h2] at hsi
        simp at hsi
      · simp only [Value.slice.injEq] at h1
        exact ⟨ad, h1.1, h2 i s hsi⟩
    have hcs' : ∀ j u, (spL s)[j]? = some u → wr.cell? ((ad.add (i * 5)).add j) = some u := fun j u hj => below_cell (hcs j u hj) hb.out (World.block_lt_of_cell? w _ (hcs j u hj))
    have hl5 : (spL s).length = 5 := rfl
    replace hcs' := Lib.hid hcs'
    replace hsi := Lib.hid hsi
    clear hcs
    have hP := Lib.hid (hp.out wr s hb.out)
    generalize hL : spL s = L at *
    replace hL := Lib.hid hL
    go_wp2_with (first | refine wpList_val rfl (ex_load 27 (.tmp 14) rfl (ad.add (i * 5)) rfl L d0 hcs'.out hd0 hd1 (by rw [spellSize, hl5])) ?_ | fail)
    refine hP.out.mono ?_
    rintro e w7 ⟨rfl, hb7⟩
    have hb7' := Lib.hid (bthen hb.out hb7)
    clear hb7 hcs' hP
    generalize hS : p s = b at *
    replace hS := Lib.hid hS
    cases b
    · have hSo' : Hid (∀ (j : Nat) (x : SpellC), j < i + 1 → S[j]? = some x → p x = false) := fun j x hj hx => by
        by_cases h1 : j < i
        · exact hSo.out j x h1 hx
        · obtain rfl : j = i := by omega
          rw [hsi.out] at hx
          simp at hx
          subst hx
          exact hS.out
      go_wp2_with fail
      exact hK (n - (i + 1)) _ _ (by omega) ⟨i + 1, by omega, hSo', hb7', by kernel_rfl, rfl, by kernel_rfl, by kernel_rfl, by kernel_rfl, by kernel_rfl⟩
    · have hF : S.find? p = some s := by
        rw [List.find?_eq_some_iff_getElem]
        have hiS : i < S.length := by have := hnS.out; omega
        have h1 := hsi.out
        rw [List.getElem?_eq_getElem hiS] at h1
        simp at h1
        exact ⟨hS.out, i, hiS, h1, fun j hj => by simp [hSo.out j _ hj (List.getElem?_eq_getElem (by omega))]⟩
      have hiS := hnS.out
      replace hF := Lib.hid hF
      go_wp2_with fail
      go_ret
      exact ⟨_, rfl, hb7'.out, .inr ⟨i, s, rfl, by omega, hsi.out, hF.out⟩⟩
  have g1 : decide ((i : Int) < (n : Int)) = false := by simp; omega
  have g2 : ¬ (i : Int) < (n : Int) := by omega
  have hF : ∀ s ∈ S, p s = false := by
    intro s hs1
    obtain ⟨j, hj, rfl⟩ := List.getElem_of_mem hs1
    have := hnS.out
    exact hSo.out j _ (by omega) (List.getElem?_eq_getElem hj)
  replace hF := Lib.hid hF
  go_wp2_with fail
  go_ret
  exact ⟨_, rfl, hb.out, .inl ⟨rfl, hF.out⟩⟩
set_option maxHeartbeats 1000000 in
theorem spellR {M : Nat → Prop} {w : World} {pm bt bl c : Nat} {f : Int × Int → Option (Int × Option (Nat × Nat × Nat))} {F : FaultC} {T : Int × Int → Option PostC} {G : Int → Option Int} (h : MouthIs M w pm bt bl c f F T G) (hF : FaultOk F) (l t : Int) (hl : 0 ≤ l ∧ l < 64) :
    Calls Try.prog 65 #[.pointer (some ⟨pm, 0, none⟩), plV (l, t)] w fun e w' => e = .returned (.agg (spL (spellF F t l)).toArray) ∧ Below w.heap.size w w' := by
  obtain ⟨sv, hb, hsp⟩ := h.blk
  have hn := hF.n
  obtain ⟨a, k, c', rfl, hk⟩ : ∃ a n c, sv = .slice a n c ∧ n = F.S.length := by
    rcases hsp.now with ⟨rfl, h⟩ | ⟨ad, cap, rfl, _⟩
    · exact ⟨_, _, _, rfl, by rw [h]; rfl⟩
    · exact ⟨_, _, _, rfl, rfl⟩
  have hP : Hid (∀ W, Below w.heap.size w W → W.cell? ⟨w.heap.size, 0, none⟩ = some (.pointer (some ⟨pm, 0, none⟩)) → W.cell? ⟨w.heap.size + 1, 0, none⟩ = some (.int .i64 l) → W.cell? ⟨w.heap.size + 1, 1, none⟩ = some (.int .i64 t) →
      Calls Try.prog 104 #[.slice a k c', .func (.func 105) #[] #[.pointer (some ⟨w.heap.size + 1, 0, none⟩), .pointer (some ⟨w.heap.size, 0, none⟩)]] W fun e w' => ∃ z, e = .returned (.int .i64 z) ∧ Below W.heap.size W w' ∧
      ((z = -1 ∧ ∀ s ∈ F.S, inSp F.nd l t s = false) ∨ ∃ i s, z = ((i : Nat) : Int) ∧ i < F.S.length ∧ F.S[i]? = some s ∧ F.S.find? (inSp F.nd l t) = some s)) := fun W hW h1 h2 h3 =>
    indexS W (inSp F.nd l t) _ F.S (hsp.now.keep (KeepC.of_below hW)) (by omega) _ _ fun W' s hW' => spell1 W' s _ _ pm F.nd l t hl (below_cell h2 hW' (World.block_lt_of_cell? _ _ h2)) (below_cell h3 hW' (World.block_lt_of_cell? _ _ h3)) (below_cell h1 hW' (World.block_lt_of_cell? _ _ h1)) (by
      have h4 := hb.below (hW.trans (hW'.mono hW.size)) hb.lt
      exact h4.cell (i := 1) rfl)
  have hm3 : Hid (∀ W, Below w.heap.size w W → W.cell? ⟨pm, 3, none⟩ = some (.slice a k c')) := fun W hW => (hb.below hW hb.lt).cell (i := 3) rfl
  have hS : Hid (∀ W, Below w.heap.size w W → ∀ i s, F.S[i]? = some s → ∃ ad, a = some ad ∧ ∀ j u, (spL s)[j]? = some u → W.cell? ((ad.add (i * 5)).add j) = some u) := by
    intro W hW i s hi
    rcases hsp.now with ⟨h1, h2⟩ | ⟨ad, cap', h1, _, _, _, h2⟩
    · rw [h2] at hi
      simp at hi
    · simp only [Value.slice.injEq] at h1
      exact ⟨ad, h1.1, fun j u hj => below_cell (h2 i s hi j u hj) hW (World.block_lt_of_cell? w _ (h2 i s hi j u hj))⟩
  obtain ⟨d0, hd0, hd1⟩ := spellRow
  have hlt := hb.lt
  have hR : Hid (∀ z, ((z = -1 ∧ ∀ s ∈ F.S, inSp F.nd l t s = false) ∨ ∃ i s, z = ((i : Nat) : Int) ∧ i < F.S.length ∧ F.S[i]? = some s ∧ F.S.find? (inSp F.nd l t) = some s) → (z = -1 ∧ spellF F t l = noSpell) ∨ ∃ i, z = ((i : Nat) : Int) ∧ i < k ∧ F.S[i]? = some (spellF F t l)) := by
    rintro z (⟨rfl, h1⟩ | ⟨i, s, rfl, h1, h2, h3⟩)
    · left
      refine ⟨rfl, ?_⟩
      have : F.S.find? (inSp F.nd l t) = none := by
        rw [List.find?_eq_none]
        intro s hs
        simp [h1 s hs]
      simp [spellF, this]
    · right
      exact ⟨i, rfl, by omega, by simp [spellF, h3, h2]⟩
  unfold plV
  clear hsp h hb hl hF
  rw [← hk] at hn
  replace hk := Lib.hid hk
  generalize spellF F t l = s0 at *
  go_enter Try.func65, Try.ntmps65
  go_upto_region 1 with fail
  have b1 : Below w.heap.size w (((w.alloc (.cells #[.pointer (some ⟨pm, 0, none⟩)] 28)).alloc (.cells #[.int .i64 l, .int .i64 t] 152)).alloc (.cells #[.int .i64 0, .int .i64 0, .int .u8 0, .int .u8 0, .int .u64 0] 27)) := (blk_alloc2 _ _).trans ((below_alloc _ _).mono (by simp; omega))
  have k0 : Blk (((w.alloc (.cells #[.pointer (some ⟨pm, 0, none⟩)] 28)).alloc (.cells #[.int .i64 l, .int .i64 t] 152)).alloc (.cells #[.int .i64 0, .int .i64 0, .int .u8 0, .int .u8 0, .int .u64 0] 27)) w.heap.size #[.pointer (some ⟨pm, 0, none⟩)] 28 := ((Blk.new w _ _).alloc _).alloc _
  have k1 : Blk (((w.alloc (.cells #[.pointer (some ⟨pm, 0, none⟩)] 28)).alloc (.cells #[.int .i64 l, .int .i64 t] 152)).alloc (.cells #[.int .i64 0, .int .i64 0, .int .u8 0, .int .u8 0, .int .u64 0] 27)) (w.heap.size + 1) #[.int .i64 l, .int .i64 t] 152 := by
    have := (Blk.new (w.alloc (.cells #[.pointer (some ⟨pm, 0, none⟩)] 28)) #[.int .i64 l, .int .i64 t] 152).alloc (.cells #[.int .i64 0, .int .i64 0, .int .u8 0, .int .u8 0, .int .u64 0] 27)
    simpa using this
  have k2 : Blk (((w.alloc (.cells #[.pointer (some ⟨pm, 0, none⟩)] 28)).alloc (.cells #[.int .i64 l, .int .i64 t] 152)).alloc (.cells #[.int .i64 0, .int .i64 0, .int .u8 0, .int .u8 0, .int .u64 0] 27)) (w.heap.size + 1 + 1) #[.int .i64 0, .int .i64 0, .int .u8 0, .int .u8 0, .int .u64 0] 27 := by
    have := Blk.new ((w.alloc (.cells #[.pointer (some ⟨pm, 0, none⟩)] 28)).alloc (.cells #[.int .i64 l, .int .i64 t] 152)) #[.int .i64 0, .int .i64 0, .int .u8 0, .int .u8 0, .int .u64 0] 27
    simpa using this
  generalize ((w.alloc (.cells #[.pointer (some ⟨pm, 0, none⟩)] 28)).alloc (.cells #[.int .i64 l, .int .i64 t] 152)).alloc (.cells #[.int .i64 0, .int .i64 0, .int .u8 0, .int .u8 0, .int .u64 0] 27) = w1 at *
  have c0 : w1.cell? ⟨w.heap.size, 0, none⟩ = some (.pointer (some ⟨pm, 0, none⟩)) := k0.cell (i := 0) rfl
  have c3 := hm3.out _ b1
  have hP1 := Lib.hid (hP.out _ b1 c0 (k1.cell (i := 0) rfl) (k1.cell (i := 1) rfl))
  have l0 := k0.lt
  have l3 := World.block_lt_of_cell? _ _ c3
  simp only at l3
  replace b1 := Lib.hid b1
  replace k0 := Lib.hid k0
  replace k2 := Lib.hid k2
  clear k1 hP
  go_wp2_with fail
  refine hP1.out.mono ?_
  rintro e w7 ⟨z, rfl, hb7, hz⟩
  have hz' := hR.out z hz
  replace k0 := Lib.hid (k0.out.below hb7 k0.out.lt)
  replace k2 := Lib.hid (k2.out.below hb7 k2.out.lt)
  replace b1 := Lib.hid (bthen b1.out hb7)
  clear hz hR hb7 hP1 c0 c3 l0 l3
  rcases hz' with ⟨rfl, rfl⟩ | ⟨i, rfl, hik, hi⟩
  · have l2 := k2.out.lt
    have f2 : ∀ i, w7.frozen? ⟨w.heap.size + 1 + 1, i, none⟩ = false := fun i => k2.out.free i
    have z0 : w7.cell? ⟨w.heap.size + 1 + 1, 0, none⟩ = some (.int .i64 0) := k2.out.cell (i := 0) rfl
    have z1 : w7.cell? ⟨w.heap.size + 1 + 1, 1, none⟩ = some (.int .i64 0) := k2.out.cell (i := 1) rfl
    have z2 : w7.cell? ⟨w.heap.size + 1 + 1, 2, none⟩ = some (.int .u8 0) := k2.out.cell (i := 2) rfl
    have z3 : w7.cell? ⟨w.heap.size + 1 + 1, 3, none⟩ = some (.int .u8 0) := k2.out.cell (i := 3) rfl
    have z4 : w7.cell? ⟨w.heap.size + 1 + 1, 4, none⟩ = some (.int .u64 0) := k2.out.cell (i := 4) rfl
    go_wp2_with fail
    have k3 := (((((k2.out.set 0 (.int .i64 0)).set 1 (.int .i64 0)).set 2 (.int .u8 0)).set 3 (.int .u8 0)).set 4 (.int .u64 0)).congr (c' := (spL noSpell).toArray) rfl
    have b3 := ((((b1.out.setCell (p := ⟨w.heap.size + 1 + 1, 0, none⟩) (by simp; omega) (.int .i64 0)).setCell (p := ⟨w.heap.size + 1 + 1, 1, none⟩) (by simp; omega) (.int .i64 0)).setCell (p := ⟨w.heap.size + 1 + 1, 2, none⟩) (by simp; omega) (.int .u8 0)).setCell (p := ⟨w.heap.size + 1 + 1, 3, none⟩) (by simp; omega) (.int .u8 0)).setCell (p := ⟨w.heap.size + 1 + 1, 4, none⟩) (by simp; omega) (.int .u64 0)
    refine bodyPost_ret (v := .agg (spL noSpell).toArray) (results_cell_row (p := 4) (ty := 27) (by kernel_rfl) _ _ (w.heap.size + 1 + 1) 27 _ (0, 0) d0 (by rfl) k3.out hd0 (by cases d0 <;> simp_all) (by rw [spellSize]; rfl)) rfl ⟨rfl, b3⟩
  · obtain ⟨ad, rfl, hcs⟩ := hS.out w7 b1.out i s0 hi
    have l2 := k2.out.lt
    have g1 : ¬ ((i : Int) < 0) := by omega
    have g2 : decide ((i : Int) < 0) = false := by simp
    have g3 : (i : Int) < (k : Int) := by omega
    have c0 : w7.cell? ⟨w.heap.size, 0, none⟩ = some (.pointer (some ⟨pm, 0, none⟩)) := k0.out.cell (i := 0) rfl
    have c3 := hm3.out _ b1.out
    replace hcs := Lib.hid hcs
    have hl5 : (spL s0).length = 5 := rfl
    have h1L := Lib.hid (show (spL s0).toArray.all (·.oneCell') = true from all_oneCell_toArray (by intro u hu; simp [spL] at hu; rcases hu with rfl | rfl | rfl | rfl | rfl <;> rfl))
    generalize hL : spL s0 = L at *
    replace hL := Lib.hid hL
    go_wp2_with (first | refine wpList_val rfl (ex_load 27 (.tmp 22) rfl (ad.add (i * 5)) rfl L d0 hcs.out hd0 hd1 (by rw [spellSize, hl5])) ?_ | refine wpList_skp rfl (ex_store_row 27 (.tmp 4) (.tmp 23) rfl (w.heap.size + 1 + 1) L.toArray rfl rfl 27 _ k2.out (by rw [spellSize]; simp [hl5]) (by simp [hl5]) h1L.out) ?_ | fail)
    have k3 := k2.out.setRow L.toArray
    refine bodyPost_ret (v := .agg L.toArray) (results_cell_row (p := 4) (ty := 27) (by kernel_rfl) _ _ (w.heap.size + 1 + 1) 27 _ (0, 0) d0 (by rfl) k3.out hd0 (by cases d0 <;> simp_all) (by rw [spellSize]; simp [hl5])) rfl ⟨by rw [hL.out], brow b1.out (by omega) _⟩
end Go.Proofs.Ytmdohnbhogfopaa
