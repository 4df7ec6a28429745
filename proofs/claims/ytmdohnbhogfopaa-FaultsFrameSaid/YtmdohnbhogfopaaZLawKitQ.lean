/- What a law's arguments read as: asks and faults. -/
import Derived.Test.YtmdohnbhogfopaaZLawKitR
import Derived.Test.YtmdohnbhogfopaaZLowA
import Derived.Test.YtmdohnbhogfopaaZVoidA
import Derived.SizedLaws
namespace Go.Proofs.Ytmdohnbhogfopaa
open Go.ChangeShapes Go.WideShapes Go.ChangeAt Go.RowKit Go.Joins
set_option linter.unusedVariables false
set_option linter.unusedSimpArgs false
set_option maxRecDepth 100000
theorem weightsEach_mem {H : Type} {P : Program} : ∀ {ts : List TypeId} {ds : List (DataW H)} {j : Nat} {t : TypeId} {d : DataW H}, ts[j]? = some t → ds[j]? = some d → ∀ x ∈ DataW.weights P t d, x ∈ DataW.weightsEach P ts ds
  | [], _, _, _, _, h, _, _, _ => by simp at h
  | _ :: _, [], _, _, _, _, h, _, _ => by simp at h
  | t' :: ts, d' :: ds, 0, _, _, h, k, x, hx => by
    simp at h k
    subst h k
    unfold DataW.weightsEach
    exact List.mem_append_left _ hx
  | t' :: ts, d' :: ds, j + 1, _, _, h, k, x, hx => by
    unfold DataW.weightsEach
    exact List.mem_append_right _ (weightsEach_mem (j := j) (by simpa using h) (by simpa using k) x hx)
theorem weight_of {H : Type} {P : Program} {ts vt : List TypeId} {ds gs : List (DataW H)} (h : (DataW.weightsEach P (ts ++ vt) (ds ++ gs)).all (· ≤ reachBytes) = true) {j : Nat} {t : TypeId} {d : DataW H} (ht : ts[j]? = some t) (hd : ds[j]? = some d) : ∀ x ∈ DataW.weights P t d, x ≤ 140737488351232 := fun x hx => by
  have h1 := List.all_eq_true.1 h x (weightsEach_mem (j := j) (by rw [List.getElem?_append_left (List.getElem?_eq_some_iff.1 ht).1]; exact ht) (by rw [List.getElem?_append_left (List.getElem?_eq_some_iff.1 hd).1]; exact hd) x hx)
  have h2 : x ≤ reachBytes := of_decide_eq_true h1
  exact h2
/-- An ask: a tick, a link, a post. -/
structure AskC where
  t : Int
  l : Int
  p : PostC
structure AskFit (x : AskC) : Prop where
  t : (Lit.int .i64 x.t).wf = true
  l : (Lit.int .i64 x.l).wf = true
  s : (Lit.int .u8 x.p.s).wf = true
  R : WordFit x.p.R
def askL (x : AskC) (v : Value) : List Value := [.int .i64 x.t, .int .i64 x.l, .int .u8 x.p.s, v]
def AskIn (W : World) (ad : Addr) (x : AskC) : Prop := ∃ v, WordAt 0 W v x.p.R ∧ ∀ j u, (askL x v)[j]? = some u → W.cell? (ad.add j) = some u
def AsksIn (W : World) (v : Value) (L : List AskC) : Prop :=
  (v = .slice none 0 0 ∧ L = []) ∨ ∃ ad cap, v = .slice (some ad) L.length cap ∧ L.length ≤ cap ∧ cap ≤ maxLen ∧ ∀ i x, L[i]? = some x → AskIn W (ad.add (i * 4)) x
section
variable {H : Type} {enc : TypeId × Value → H} {W : World}
theorem post_trod {fuel : Nat} {cs : List Value} {d : DataW H} {p : List MemPlace} (h : DataW.trod enc Try.prog W 0 (fun _ => true) true fuel 40 cs = some (d, p)) (hw : ∀ x ∈ DataW.weights Try.prog 40 d, x ≤ 140737488351232) :
    ∃ s v R, cs = [.int .u8 s, v] ∧ (Lit.int .u8 s).wf = true ∧ WordAt 0 W v R ∧ WordFit R := by
  obtain ⟨xs, n, _, hx, hl, hlen, hf⟩ := DataW.trod_struct Try.underlying40 h
  have hC : Try.prog.cellsOf 40 = 2 := by kernel_rfl
  rw [hC] at hl
  match xs, hlen, cs, hl with
  | [y0, y1], _, [c0, c1], _ =>
    have h0 : DataW.trod enc Try.prog W 0 (fun _ => true) true n _ [c0] = some y0 := hf 0 _ rfl
    have h1 : DataW.trod enc Try.prog W 0 (fun _ => true) true n 38 [c1] = some y1 := hf 1 _ rfl
    obtain ⟨a0, e0, _, w0⟩ := DataW.trod_int (k := .u8) (by kernel_rfl) h0
    have hd : d = .agg ([y0, y1].map (·.1)) := (Prod.mk.inj hx).1
    obtain ⟨xs1, n1, _, hx1, hl1, hlen1, hf1⟩ := DataW.trod_struct Try.underlying38 h1
    match xs1, hlen1 with
    | [z0], _ =>
      have h2 : DataW.trod enc Try.prog W 0 (fun _ => true) true n1 36 [c1] = some z0 := hf1 0 _ rfl
      have hd1 : y1.1 = .agg ([z0].map (·.1)) := by rw [hx1]
      have hw2 : ∀ x ∈ DataW.weights Try.prog 36 z0.1, x ≤ 140737488351232 := fun x hx2 => hw x (by
        rw [hd]
        unfold DataW.weights
        rw [Try.underlying40]
        simp only [List.map_cons, List.map_nil, DataW.weightsEach]
        rw [hd1]
        simp only [List.mem_append]
        right
        left
        unfold DataW.weights
        rw [Try.underlying38]
        simp only [List.map_cons, List.map_nil, DataW.weightsEach]
        simp [hx2])
      obtain ⟨R, g1, g2, g3⟩ := rd_word (d := z0.1) (p := z0.2) h2 hw2
      simp only [List.cons.injEq, and_true] at e0
      subst e0
      exact ⟨a0, c1, R, rfl, w0, g1, fun r hr => (g2 r hr).1, fun r hr => (g2 r hr).2, g3⟩
theorem ask_trod {fuel : Nat} {cs : List Value} {d : DataW H} {p : List MemPlace} (h : DataW.trod enc Try.prog W 0 (fun _ => true) true fuel 74 cs = some (d, p)) (hw : ∀ x ∈ DataW.weights Try.prog 74 d, x ≤ 140737488351232) :
    ∃ x v, cs = askL x v ∧ AskFit x ∧ WordAt 0 W v x.p.R := by
  obtain ⟨xs, n, _, hx, hl, hlen, hf⟩ := DataW.trod_struct Try.underlying74 h
  have hC : Try.prog.cellsOf 74 = 4 := by kernel_rfl
  rw [hC] at hl
  match xs, hlen, cs, hl with
  | [y0, y1, y2], _, [c0, c1, c2, c3], _ =>
    have h0 : DataW.trod enc Try.prog W 0 (fun _ => true) true n _ [c0] = some y0 := hf 0 _ rfl
    have h1 : DataW.trod enc Try.prog W 0 (fun _ => true) true n _ [c1] = some y1 := hf 1 _ rfl
    have h2 : DataW.trod enc Try.prog W 0 (fun _ => true) true n 40 [c2, c3] = some y2 := hf 2 _ rfl
    obtain ⟨a0, e0, _, w0⟩ := DataW.trod_int (k := .i64) (by kernel_rfl) h0
    obtain ⟨a1, e1, _, w1⟩ := DataW.trod_int (k := .i64) (by kernel_rfl) h1
    have hd : d = .agg ([y0, y1, y2].map (·.1)) := (Prod.mk.inj hx).1
    have hw2 : ∀ x ∈ DataW.weights Try.prog 40 y2.1, x ≤ 140737488351232 := fun x hx2 => hw x (by
      rw [hd]
      unfold DataW.weights
      rw [Try.underlying74]
      simp only [List.map_cons, List.map_nil, DataW.weightsEach]
      simp [hx2])
    obtain ⟨s, v, R, e2, w2, g1, g2⟩ := post_trod (d := y2.1) (p := y2.2) h2 hw2
    simp only [List.cons.injEq, and_true] at e0 e1 e2
    obtain ⟨rfl, rfl⟩ := e2
    subst e0 e1
    exact ⟨⟨a0, a1, ⟨s, R⟩⟩, c3, rfl, ⟨w0, w1, w2, g2⟩, g1⟩
theorem open_ask {v : Value} {d : DataW H} {p : List MemPlace} {r : Reach} {b0 : Nat} (hval : Value.okWide Try.prog W r b0 74 v) (h : DataW.Trod enc Try.prog W 0 (fun _ => true) true 74 v d p) (hw : ∀ x ∈ DataW.weights Try.prog 74 d, x ≤ 140737488351232) :
    ∃ x u, v = .agg (askL x u).toArray ∧ AskFit x ∧ WordAt 0 W u x.p.R := by
  obtain ⟨cs, rfl, hsz⟩ := okWide_struct Try.underlying74 hval
  obtain ⟨fuel, hf⟩ := h
  simp only [Value.cells] at hf
  obtain ⟨x, u, e, h1, h2⟩ := ask_trod hf hw
  exact ⟨x, u, by rw [← e], h1, h2⟩
theorem ask_cells : Try.prog.cellsOf 74 = 4 := by kernel_rfl
theorem rd_asks {v : Value} {d : DataW H} {p : List MemPlace} (h0 : DataW.Trod enc Try.prog W 0 (fun _ => true) true 65 v d p) (hv : ∃ a n c, v = .slice a n c) (hw : ∀ x ∈ DataW.weights Try.prog 65 d, x ≤ 140737488351232) :
    ∃ L, AsksIn W v L ∧ (∀ x ∈ L, AskFit x) := by
  obtain ⟨fuel, h⟩ := h0
  obtain ⟨a, n, c, rfl⟩ := hv
  simp only [Value.cells] at h
  rcases Go.Deep.open_slice Try.underlying65 h with ⟨hcs, _⟩ | ⟨x, l, c, m, n', D, Pl, hcs, _, hl, hm, hmm, hx0, hx⟩
  · simp at hcs
    obtain ⟨rfl, rfl, rfl⟩ := hcs
    exact ⟨[], .inl ⟨rfl, rfl⟩, by simp⟩
  · simp at hcs
    obtain ⟨rfl, rfl, rfl⟩ := hcs
    rw [ask_cells] at hx
    have hd : d = .slice ((List.range n).map D) ((List.range (m - n)).map fun j => D (n + j)) := (Prod.mk.inj hx0).1
    obtain ⟨L, hL1, hL2⟩ := listOf (P := fun i (y : AskC) => AskFit y ∧ AskIn W (x.add (i * 4)) y) n (fun i hi => by
      obtain ⟨cs', h1, h2⟩ := hx i (by rw [hmm, if_pos rfl]; omega)
      obtain ⟨_, h4, h3⟩ := World.cells?_some h1
      obtain ⟨y, u, e, g1, g2⟩ := ask_trod h2 (fun z hz => hw z (by
        rw [hd]
        unfold DataW.weights
        rw [Try.underlying65]
        simp only
        exact List.mem_cons_of_mem _ (List.mem_append_left _ (weightsAll_mem (List.mem_map.2 ⟨i, by simpa using hi, rfl⟩) hz))))
      refine ⟨y, g1, u, g2, fun j z hj => ?_⟩
      rw [← e] at hj
      rw [h3 j (by have := (List.getElem?_eq_some_iff.1 hj).1; omega)]
      exact hj)
    exact ⟨L, .inr ⟨x, _, by rw [hL1], by omega, hm, fun i y hi => (hL2 i y hi).2⟩, fun y hy => by
      obtain ⟨i, hi, rfl⟩ := List.getElem_of_mem hy
      exact (hL2 i _ (List.getElem?_eq_getElem hi)).1⟩
theorem spell_trod {fuel : Nat} {cs : List Value} {x : DataW H × List MemPlace} (h : DataW.trod enc Try.prog W 0 (fun _ => true) true fuel 27 cs = some x) : ∃ s, cs = spL s ∧ SpellOk s := by
  obtain ⟨xs, n, _, rfl, hl, hlen, hf⟩ := DataW.trod_struct Try.underlying27 h
  have hC : Try.prog.cellsOf 27 = 5 := by kernel_rfl
  rw [hC] at hl
  match xs, hlen, cs, hl with
  | [y0, y1, y2, y3, y4], _, [c0, c1, c2, c3, c4], _ =>
    have h0 : DataW.trod enc Try.prog W 0 (fun _ => true) true n _ [c0] = some y0 := hf 0 _ rfl
    have h1 : DataW.trod enc Try.prog W 0 (fun _ => true) true n _ [c1] = some y1 := hf 1 _ rfl
    have h2 : DataW.trod enc Try.prog W 0 (fun _ => true) true n _ [c2] = some y2 := hf 2 _ rfl
    have h3 : DataW.trod enc Try.prog W 0 (fun _ => true) true n _ [c3] = some y3 := hf 3 _ rfl
    have h4 : DataW.trod enc Try.prog W 0 (fun _ => true) true n _ [c4] = some y4 := hf 4 _ rfl
    obtain ⟨a0, e0, _, w0⟩ := DataW.trod_int (k := .i64) (by kernel_rfl) h0
    obtain ⟨a1, e1, _, w1⟩ := DataW.trod_int (k := .i64) (by kernel_rfl) h1
    obtain ⟨a2, e2, _, w2⟩ := DataW.trod_int (k := .u8) (by kernel_rfl) h2
    obtain ⟨a3, e3, _, w3⟩ := DataW.trod_int (k := .u8) (by kernel_rfl) h3
    obtain ⟨a4, e4, _, w4⟩ := DataW.trod_int (k := .u64) (by kernel_rfl) h4
    simp only [List.cons.injEq, and_true] at e0 e1 e2 e3 e4
    subst e0 e1 e2 e3 e4
    exact ⟨⟨a0, a1, a2, a3, a4⟩, rfl, ⟨w0, w1, w2, w3, w4⟩⟩
theorem spell_cells : Try.prog.cellsOf 27 = 5 := by kernel_rfl
theorem rd_spells {fuel : Nat} {v : Value} {x : DataW H × List MemPlace} (h : DataW.trod enc Try.prog W 0 (fun _ => true) true fuel 32 [v] = some x) : ∃ S, SpAt 0 W v S ∧ (∀ s ∈ S, SpellOk s) := by
  rcases Go.Deep.open_slice Try.underlying32 h with ⟨hcs, _⟩ | ⟨x, l, c, m, n', D, Pl, hcs, _, hl, hm, hmm, hx0, hx⟩
  · simp at hcs
    subst hcs
    exact ⟨[], .inl ⟨rfl, rfl⟩, by simp⟩
  · simp at hcs
    subst hcs
    rw [spell_cells] at hx
    obtain ⟨S, hS1, hS2⟩ := listOf (P := fun i (s : SpellC) => SpellOk s ∧ ∀ j u, (spL s)[j]? = some u → W.cell? ((x.add (i * 5)).add j) = some u) l (fun i hi => by
      obtain ⟨cs', h1, h2⟩ := hx i (by rw [hmm, if_pos rfl]; omega)
      obtain ⟨_, h4, h3⟩ := World.cells?_some h1
      obtain ⟨s, e, g1⟩ := spell_trod h2
      refine ⟨s, g1, fun j z hj => ?_⟩
      rw [← e] at hj
      rw [h3 j (by have := (List.getElem?_eq_some_iff.1 hj).1; omega)]
      exact hj)
    exact ⟨S, .inr ⟨x, c, by rw [hS1], by omega, hm, Nat.zero_le _, fun i s hi => (hS2 i s hi).2⟩, fun s hs => by
      obtain ⟨i, hi, rfl⟩ := List.getElem_of_mem hs
      exact (hS2 i _ (List.getElem?_eq_getElem hi)).1⟩
theorem open_fault {v : Value} {d : DataW H} {p : List MemPlace} {r : Reach} {b0 : Nat} (hval : Value.okWide Try.prog W r b0 34 v) (h : DataW.Trod enc Try.prog W 0 (fun _ => true) true 34 v d p) :
    ∃ nd lk u S, v = .agg #[.int .i64 nd, .int .i64 lk, u] ∧ (Lit.int .i64 nd).wf = true ∧ (Lit.int .i64 lk).wf = true ∧ SpAt 0 W u S ∧ (∀ s ∈ S, SpellOk s) := by
  obtain ⟨cs, rfl, hsz⟩ := okWide_struct Try.underlying34 hval
  obtain ⟨fuel, hf0⟩ := h
  simp only [Value.cells] at hf0
  obtain ⟨xs, n, _, _, hl, hlen, hf⟩ := DataW.trod_struct Try.underlying34 hf0
  have hC : Try.prog.cellsOf 34 = 3 := by kernel_rfl
  rw [hC] at hl
  obtain ⟨l⟩ := cs
  simp only at hl hf
  match xs, hlen, l, hl with
  | [y0, y1, y2], _, [c0, c1, c2], _ =>
    have h0 : DataW.trod enc Try.prog W 0 (fun _ => true) true n _ [c0] = some y0 := hf 0 _ rfl
    have h1 : DataW.trod enc Try.prog W 0 (fun _ => true) true n _ [c1] = some y1 := hf 1 _ rfl
    have h2 : DataW.trod enc Try.prog W 0 (fun _ => true) true n 32 [c2] = some y2 := hf 2 _ rfl
    obtain ⟨a0, e0, _, w0⟩ := DataW.trod_int (k := .i64) (by kernel_rfl) h0
    obtain ⟨a1, e1, _, w1⟩ := DataW.trod_int (k := .i64) (by kernel_rfl) h1
    obtain ⟨S, g1, g2⟩ := rd_spells h2
    simp only [List.cons.injEq, and_true] at e0 e1
    subst e0 e1
    exact ⟨a0, a1, c2, S, rfl, w0, w1, g1, g2⟩
end
end Go.Proofs.Ytmdohnbhogfopaa
