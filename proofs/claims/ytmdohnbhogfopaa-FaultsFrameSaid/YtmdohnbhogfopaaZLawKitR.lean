/- What a law's arguments read as: words, spells, asks, faults. -/
import Derived.Test.YtmdohnbhogfopaaZLawBase
import Derived.Test.YtmdohnbhogfopaaZBigNS
import Derived.Test.YtmdohnbhogfopaaZBigIM
import Derived.Lib.SmallJoins
namespace Go.Proofs.Ytmdohnbhogfopaa
open Go.ChangeShapes Go.WideShapes Go.ChangeAt Go.RowKit Go.Joins
set_option linter.unusedVariables false
set_option linter.unusedSimpArgs false
set_option maxRecDepth 100000
theorem Fits.append' {k1 k2 : List (Option IntKind)} {a b : List Value} (h : Fits k1 a) (k : Fits k2 b) : Fits (k1 ++ k2) (a ++ b) := by
  induction k1 generalizing a with
  | nil => cases a with
    | nil => simpa using k
    | cons v vs => exact h.elim
  | cons k0 ks ih => cases a with
    | nil => exact h.elim
    | cons v vs => exact ⟨h.1, ih h.2⟩
theorem Fits.flat {ks : List (Option IntKind)} {cs : List Value} (ps : List (Nat × Nat)) (h : ∀ p ∈ ps, Fits ((ks.drop p.1).take p.2) ((cs.drop p.1).take p.2)) : Fits (ps.map fun p => (ks.drop p.1).take p.2).flatten (ps.map fun p => (cs.drop p.1).take p.2).flatten := by
  induction ps with
  | nil => simp [Fits]
  | cons p ps ih =>
    simp only [List.map_cons, List.flatten_cons]
    exact Fits.append' (h p (by simp)) (ih fun q hq => h q (by simp [hq]))
section
variable {H : Type} {enc : TypeId × Value → H} {P : Program} {W : World} {base : Nat} {sp : Nat → Bool} {held : Bool}
theorem trod_ks : ∀ (d : Nat) (t : TypeId) (ks : List (Option IntKind)) (fuel : Nat) (cs : List Value) (x : DataW H × List MemPlace), checkKs P d t ks = true → DataW.trod enc P W base sp held fuel t cs = some x → Fits ks cs
  | 0, _, _, _, _, _, h, _ => by simp [checkKs] at h
  | d + 1, t, ks, fuel, cs, x, h, hx => by
    unfold checkKs at h
    cases hu : P.underlying t with
    | none => simp [hu] at h
    | some k =>
      cases k <;> simp only [hu, Bool.false_eq_true] at h
      case bool =>
        obtain rfl := eq_of_beq h
        obtain ⟨b, rfl, _⟩ := DataW.trod_bool hu hx
        exact ⟨⟨b, rfl⟩, trivial⟩
      case int q =>
        obtain rfl := eq_of_beq h
        obtain ⟨a, rfl, _, w0⟩ := DataW.trod_int hu hx
        exact ⟨⟨a, rfl, w0⟩, trivial⟩
      case array n e =>
        simp only [Bool.and_eq_true, beq_iff_eq, List.all_eq_true] at h
        obtain ⟨⟨h1, h2⟩, h3⟩ := h
        obtain ⟨xs, m, _, _, hl, hxl, hf⟩ := DataW.trod_array hu hx
        rw [← whole_flat h2 ks rfl, ← whole_flat h2 cs (by omega)]
        refine Fits.flat _ fun p hp => ?_
        obtain ⟨i, hi, rfl⟩ := List.mem_map.1 hp
        have hin : i < n := by simpa using hi
        have := hf i hin
        obtain ⟨y, hy⟩ : ∃ y, xs[i]? = some y := ⟨_, List.getElem?_eq_getElem (by omega)⟩
        rw [hy] at this
        exact trod_ks d e _ m _ y (h3 i (by simpa using hi)) this
      case struct fs =>
        simp only [Bool.and_eq_true, beq_iff_eq, List.all_eq_true] at h
        obtain ⟨⟨⟨h1, h0⟩, h2⟩, h3⟩ := h
        obtain ⟨xs, m, _, _, hl, hxl, hf⟩ := DataW.trod_struct hu hx
        rw [← whole_flat h2 ks rfl, ← whole_flat h2 cs (by omega)]
        refine Fits.flat _ fun p hp => ?_
        obtain ⟨f, hff, rfl⟩ := List.mem_map.1 hp
        obtain ⟨i, hi, rfl⟩ := List.getElem_of_mem hff
        have hfi : fs[i]? = some fs.toList[i] := by
          rw [← Array.getElem?_toList]
          exact List.getElem?_eq_getElem hi
        have := hf i _ hfi
        obtain ⟨y, hy⟩ : ∃ y, xs[i]? = some y := ⟨_, List.getElem?_eq_getElem (by simp at hi; omega)⟩
        rw [hy] at this
        exact trod_ks d _ _ m _ y (h3 _ hff) this
end
theorem listOf {α : Type} {P : Nat → α → Prop} : ∀ (n : Nat), (∀ i, i < n → ∃ x, P i x) → ∃ l : List α, l.length = n ∧ ∀ i x, l[i]? = some x → P i x
  | 0, _ => ⟨[], rfl, fun i x h => by simp at h⟩
  | n + 1, h => by
    obtain ⟨l, hl, hp⟩ := listOf n (fun i hi => h i (by omega))
    obtain ⟨x, hx⟩ := h n (by omega)
    refine ⟨l ++ [x], by simp [hl], fun i y hy => ?_⟩
    rw [List.getElem?_append] at hy
    split at hy
    · exact hp i y hy
    · have := (List.getElem?_eq_some_iff.1 hy).1
      simp at this
      have e : i - l.length = 0 := by omega
      rw [e] at hy
      simp at hy
      subst hy
      have : i = n := by omega
      rw [this]
      exact hx
/-- Elements of 56 cells, one behind the other. -/
theorem flat_cells {W : World} {ad : Addr} {Ts : List (List Value)} (h56 : ∀ t ∈ Ts, HeldOk t) (h : ∀ i t, Ts[i]? = some t → ∀ j u, t[j]? = some u → W.cell? ((ad.add (i * 56)).add j) = some u) : ∀ j u, Ts.flatten[j]? = some u → W.cell? (ad.add j) = some u := by
  intro j u hj
  have hlt := (List.getElem?_eq_some_iff.1 hj).1
  rw [flat_length h56] at hlt
  have hi : j / 56 < Ts.length := by omega
  obtain ⟨t, ht⟩ : ∃ t, Ts[j / 56]? = some t := ⟨_, List.getElem?_eq_getElem hi⟩
  have hl := (h56 t (List.mem_of_getElem? ht)).length
  obtain ⟨u', hu'⟩ : ∃ u', t[j % 56]? = some u' := ⟨_, List.getElem?_eq_getElem (by omega)⟩
  have e1 := flat_get h56 ht _ _ hu'
  have e2 : j / 56 * 56 + j % 56 = j := by omega
  rw [e2, hj] at e1
  simp at e1
  subst e1
  have := h _ t ht _ _ hu'
  rw [add_add', e2] at this
  exact this
section
variable {H : Type} {enc : TypeId × Value → H} {W : World}
theorem held_ks : checkKs Try.prog 9 163 heldKs = true := by kernel_rfl
theorem held_cells : Try.prog.cellsOf 163 = 56 := by kernel_rfl
theorem rd_tab {fuel : Nat} {v : Value} {d : DataW H} {p : List MemPlace} (h : DataW.trod enc Try.prog W 0 (fun _ => true) true fuel 95 [v] = some (d, p)) (hw : ∀ x ∈ DataW.weights Try.prog 95 d, x ≤ 140737488351232) :
    ∃ Ts, TabAt 0 W v Ts ∧ (∀ t ∈ Ts, HeldOk t) ∧ Ts.length ≤ 1100000000000 := by
  rcases Go.Deep.open_slice Try.underlying95 h with ⟨hcs, _⟩ | ⟨x, l, c, m, n', D, Pl, hcs, _, hl, hm, hmm, hx0, hx⟩
  · simp at hcs
    subst hcs
    exact ⟨[], .inl ⟨rfl, rfl⟩, by simp, by simp⟩
  · simp at hcs
    subst hcs
    rw [held_cells] at hx
    obtain ⟨Ts, hT1, hT2⟩ := listOf (P := fun i (t : List Value) => HeldOk t ∧ ∀ j u, t[j]? = some u → W.cell? ((x.add (i * 56)).add j) = some u) l (fun i hi => by
      obtain ⟨cs', h1, h2⟩ := hx i (by rw [hmm, if_pos rfl]; omega)
      obtain ⟨_, h4, h3⟩ := World.cells?_some h1
      refine ⟨cs', trod_ks 9 _ heldKs _ _ _ held_ks h2, fun j u hj => ?_⟩
      rw [h3 j (by have := (List.getElem?_eq_some_iff.1 hj).1; omega)]
      exact hj)
    have hok : ∀ t ∈ Ts, HeldOk t := fun t ht => by
      obtain ⟨i, hi, rfl⟩ := List.getElem_of_mem ht
      exact (hT2 i _ (List.getElem?_eq_getElem hi)).1
    refine ⟨Ts, .inr ⟨x, c, by rw [hT1], by omega, hm, Nat.zero_le _, flat_cells hok fun i t ht => (hT2 i t ht).2⟩, hok, ?_⟩
    have hd : d = .slice ((List.range l).map D) ((List.range (m - l)).map fun j => D (l + j)) := (Prod.mk.inj hx0).1
    have hb : Try.prog.bytesOf 163 = 136 := by kernel_rfl
    have := hw ((((List.range l).map D).length + ((List.range (m - l)).map fun j => D (l + j)).length) * 136) (by
      rw [hd]
      unfold DataW.weights
      rw [Try.underlying95]
      simp only [hb]
      exact List.mem_cons_self)
    simp at this
    omega
theorem weightsAll_mem {P : Program} {e : TypeId} {x : Nat} {d : DataW H} : ∀ {l : List (DataW H)}, d ∈ l → x ∈ DataW.weights P e d → x ∈ DataW.weightsAll P e l
  | [], h, _ => by simp at h
  | y :: l, h, hx => by
    unfold DataW.weightsAll
    rcases List.mem_cons.1 h with rfl | h
    · exact List.mem_append_left _ hx
    · exact List.mem_append_right _ (weightsAll_mem h hx)
theorem row_cells : Try.prog.cellsOf 97 = 57 := by kernel_rfl
theorem rd_row {fuel : Nat} {cs : List Value} {d : DataW H} {p : List MemPlace} (h : DataW.trod enc Try.prog W 0 (fun _ => true) true fuel 97 cs = some (d, p)) (hw : ∀ x ∈ DataW.weights Try.prog 97 d, x ≤ 140737488351232) :
    ∃ (r : RowC) (tv : Value), cs = r.hd ++ [tv] ∧ TabAt 0 W tv r.tab ∧ RowOk r ∧ r.tab.length ≤ 1100000000000 := by
  obtain ⟨xs, n, _, hx, hl, hlen, hf⟩ := DataW.trod_struct Try.underlying97 h
  rw [row_cells] at hl
  match xs, hlen with
  | [y0, y1, y2], _ =>
    have h0 : DataW.trod enc Try.prog W 0 (fun _ => true) true n 4 ((cs.drop 0).take 1) = some y0 := hf 0 _ rfl
    have h1 : DataW.trod enc Try.prog W 0 (fun _ => true) true n 94 ((cs.drop 1).take 55) = some y1 := hf 1 _ rfl
    have h2 : DataW.trod enc Try.prog W 0 (fun _ => true) true n 95 ((cs.drop 56).take 1) = some y2 := hf 2 _ rfl
    have f0 := trod_ks 2 _ [none] _ _ _ (by kernel_rfl) h0
    have f1 := trod_ks 8 _ cellKs _ _ _ (by kernel_rfl) h1
    have h56 : (cs.drop 56).length = 1 := by simp [hl]
    match hd : cs.drop 56, h56 with
    | [tv], _ =>
      rw [hd] at h2
      have hw2 : ∀ x ∈ DataW.weights Try.prog 95 y2.1, x ≤ 140737488351232 := fun x hx2 => hw x (by
        have hdx : d = .agg ([y0, y1, y2].map (·.1)) := (Prod.mk.inj hx).1
        rw [hdx]
        unfold DataW.weights
        rw [Try.underlying97]
        simp only [List.map_cons, List.map_nil, DataW.weightsEach]
        simp [hx2])
      obtain ⟨Ts, g1, g2, g3⟩ := rd_tab (d := y2.1) (p := y2.2) (by simpa using h2) hw2
      refine ⟨⟨cs.take 56, Ts⟩, tv, ?_, g1, ⟨?_, g2⟩, g3⟩
      · rw [← hd, List.take_append_drop]
      · have e : cs.take 56 = (cs.drop 0).take 1 ++ (cs.drop 1).take 55 := by
          rw [List.drop_zero, ← List.take_add]
        show Fits heldKs (cs.take 56)
        rw [e]
        exact Fits.append' f0 f1
theorem rd_word {fuel : Nat} {v : Value} {d : DataW H} {p : List MemPlace} (h : DataW.trod enc Try.prog W 0 (fun _ => true) true fuel 36 [v] = some (d, p)) (hw : ∀ x ∈ DataW.weights Try.prog 36 d, x ≤ 140737488351232) :
    ∃ R, WordAt 0 W v R ∧ (∀ r ∈ R, RowOk r ∧ r.tab.length ≤ 1100000000000) ∧ R.length ≤ 1100000000000 := by
  rcases Go.Deep.open_slice Try.underlying36 h with ⟨hcs, _⟩ | ⟨x, l, c, m, n', D, Pl, hcs, _, hl, hm, hmm, hx0, hx⟩
  · simp at hcs
    subst hcs
    exact ⟨[], .inl ⟨rfl, rfl⟩, by simp, by simp⟩
  · simp at hcs
    subst hcs
    rw [row_cells] at hx
    have hd : d = .slice ((List.range l).map D) ((List.range (m - l)).map fun j => D (l + j)) := (Prod.mk.inj hx0).1
    have hb : Try.prog.bytesOf 97 = 160 := by kernel_rfl
    have hws : DataW.weights Try.prog 36 d = (((List.range l).map D).length + ((List.range (m - l)).map fun j => D (l + j)).length) * 160 :: (DataW.weightsAll Try.prog 97 ((List.range l).map D) ++ DataW.weightsAll Try.prog 97 ((List.range (m - l)).map fun j => D (l + j))) := by
      rw [hd]
      conv => lhs; unfold DataW.weights
      rw [Try.underlying36]
      simp only [hb]
    obtain ⟨R, hR1, hR2⟩ := listOf (P := fun i (r : RowC) => (RowOk r ∧ r.tab.length ≤ 1100000000000) ∧ RowAt 0 W (x.add (i * 57)) r) l (fun i hi => by
      obtain ⟨cs', h1, h2⟩ := hx i (by rw [hmm, if_pos rfl]; omega)
      obtain ⟨_, h4, h3⟩ := World.cells?_some h1
      obtain ⟨r, tv, hcs2, g1, g2, g3⟩ := rd_row h2 (fun x hx2 => hw x (by
        rw [hws]
        exact List.mem_cons_of_mem _ (List.mem_append_left _ (weightsAll_mem (List.mem_map.2 ⟨i, by simpa using hi, rfl⟩) hx2))))
      refine ⟨r, ⟨g2, g3⟩, tv, g1, fun j u hj => ?_⟩
      rw [← hcs2] at hj
      rw [h3 j (by have := (List.getElem?_eq_some_iff.1 hj).1; omega)]
      exact hj)
    refine ⟨R, .inr ⟨x, c, by rw [hR1], by omega, hm, Nat.zero_le _, fun i r hi => (hR2 i r hi).2⟩, fun r hr => ?_, ?_⟩
    · obtain ⟨i, hi, rfl⟩ := List.getElem_of_mem hr
      exact (hR2 i _ (List.getElem?_eq_getElem hi)).1
    · have := hw ((((List.range l).map D).length + ((List.range (m - l)).map fun j => D (l + j)).length) * 160) (by rw [hws]; exact List.mem_cons_self)
      simp at this
      omega
end
end Go.Proofs.Ytmdohnbhogfopaa
