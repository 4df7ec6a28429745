/- Several texts, one behind the other: BigI BigJ BigK BigL BigM. -/
import Derived.Test.YtmdohnbhogfopaaZBigFH
import Derived.DeepKeys
import Derived.Laws.StructEq
/- Others: rows as the document has them. -/
namespace Go.Proofs.Ytmdohnbhogfopaa
open Go.RowKit
set_option linter.unusedSimpArgs false
set_option linter.unusedVariables false
set_option maxRecDepth 100000
structure OthsAt (w : World) (R : List RowC) (i : Nat) (v : Value) (tvs : List Value) (wr : World) : Prop where
  bel : Below w.heap.size w wr
  row : wr.ownsRow w.heap.size 167 57 v i (rowsFlat (R.take i) tvs)
  len : tvs.length = i
  tabs : ∀ (j : Nat) (r : RowC) (tv : Value), R[j]? = some r → tvs[j]? = some tv → OwnTab 204 w.heap.size wr tv r.tab
theorem ownsRow_below {w W : World} {B : Nat} {E : TypeId} {z n : Nat} {v : Value} {xs : List Value} (h : w.ownsRow B E z v n xs) (hb : Below w.heap.size w W) : W.ownsRow B E z v n xs :=
  h.kept ⟨hb.os, hb.tape, hb.output, hb.size, fun k hk _ => hb.block k hk⟩ (row := none) (by
    cases hv : v.ownBlock with
    | none => exact .inl rfl
    | some k => exact .inr (by simp))
theorem OthsAt.below {w : World} {R : List RowC} {i : Nat} {v : Value} {tvs : List Value} {wr W : World} (h : OthsAt w R i v tvs wr) (hb : Below wr.heap.size wr W) : OthsAt w R i v tvs W :=
  ⟨bthen h.bel hb, ownsRow_below h.row hb, h.len, fun j r tv hj ht => (h.tabs j r tv hj ht).below hb (Nat.le_refl _)⟩
theorem OthsAt.append {w : World} {R : List RowC} {i : Nat} {v : Value} {tvs : List Value} {W w8 : World} {r : RowC} {tv' v1 : Value} (h : OthsAt w R i v tvs W) (hr : R[i]? = some r) (ht' : OwnTab 204 w.heap.size W tv' r.tab)
    (hown : w8.ownsRow w.heap.size 167 57 v1 (i + 1) (rowsFlat (R.take i) tvs ++ (r.hd ++ [tv']))) (hg : W.grownBy w8 v.ownBlock) : OthsAt w R (i + 1) v1 (tvs ++ [tv']) w8 := by
  have hkeep : ∀ b c T, Blk W b c T → T ≠ 167 → Blk w8 b c T := fun b c T hb hT => (hg.block b hb.lt (fun e => by
    obtain ⟨cur, hc⟩ := ownsRow_blk h.row e.symm
    exact hT (by
      have := hb.out.symm.trans hc.out
      simp at this
      exact this.2))).trans hb
  have htk : R.take (i + 1) = R.take i ++ [r] := by
    rw [List.take_add_one, hr]
    rfl
  have hil : (R.take i).length = i := by
    have := (List.getElem?_eq_some_iff.1 hr).1
    simp
    omega
  refine ⟨Below.grown h.bel hg h.bel.size (fun k hk => (h.row.lt k hk).1), ?_, by simp [h.len], fun j r' tv hj ht => ?_⟩
  · rw [htk, rowsFlat_more (by rw [h.len, hil])]
    exact hown
  · have hto : OwnTab 204 w.heap.size W tv r'.tab := by
      rw [List.getElem?_append] at ht
      split at ht
      · exact h.tabs j r' tv hj ht
      · rename_i hlt
        rw [h.len] at hlt ht
        have : j - i = 0 := by
          have := (List.getElem?_eq_some_iff.1 ht).1
          simp at this
          omega
        rw [this] at ht
        simp at ht
        obtain rfl : j = i := by omega
        rw [hr] at hj
        simp at hj
        subst hj ht
        exact ht'
    exact hto.blk fun g c hlo hgb => hkeep _ _ _ hgb (by decide)
/-- What the loop has is a word of the call's own. -/
theorem OthsAt.fin {w : World} {R : List RowC} {v : Value} {tvs : List Value} {wr : World} (h : OthsAt w R R.length v tvs wr) : OwnWord 167 204 w.heap.size wr v R := by
  rcases h.row.2 with ⟨rfl, h2⟩ | ⟨g, cap, cur, rfl, h2, h3, h4, h5, h6, h7⟩
  · exact .inl ⟨rfl, List.length_eq_zero_iff.1 h2⟩
  · refine .inr ⟨g, cap, cur, tvs, rfl, h4, h5, h2, h3, by omega, ?_, h.len, h.tabs⟩
    rw [h7, List.take_length]
def InvOths (w : World) (wv : Value) (R : List RowC) (n : Nat) (k : Nat) (a : Act) (wr : World) : Prop :=
  ∃ i v tvs, i + k = n ∧ Hid (OthsAt w R i v tvs wr) ∧ a.tmps.size = 20 ∧ a.defers = [] ∧ slot a 0 = wv ∧ slot a 3 = v ∧ slot a 4 = .int .i64 i
set_option maxHeartbeats 4000000 in
theorem othersR (w : World) (wv : Value) (R : List RowC) (hw : WordAt 0 w wv R) (hk : ∀ r ∈ R, RowOk r) (hn : R.length ≤ 1000000) (ht : ∀ r ∈ R, r.tab.length ≤ 1000000) :
    Calls Try.prog 22 #[wv] w fun e w' => ∃ v', e = .returned v' ∧ OwnWord 167 204 w.heap.size w' v' R ∧ Below w.heap.size w w' := by
  obtain ⟨i0, z0, hi, hz0, hz1, hz2, hz3, hz4⟩ := rowInfo2
  obtain ⟨d0, hd0, hd1⟩ := rowRow
  obtain ⟨ao, n, cap, rfl, hnR⟩ : ∃ ao n cap, wv = .slice ao n cap ∧ n = R.length := by
    rcases hw with ⟨rfl, rfl⟩ | ⟨ad, cap, rfl, _⟩
    · exact ⟨_, _, _, rfl, rfl⟩
    · exact ⟨_, _, _, rfl, rfl⟩
  replace hw := Lib.hid hw
  replace hk := Lib.hid hk
  replace ht := Lib.hid ht
  rw [← hnR] at hn
  replace hnR := Lib.hid hnR
  go_enter Try.func22, Try.ntmps22
  go_wp2_with fail
  refine wp_loop_k (InvOths w (.slice ao n cap) R n) n ?_ ?_
  · refine ⟨0, .slice none 0 0, [], by omega, ⟨Below.refl _ _, by simpa [rowsFlat] using World.ownsRow_nil _ _ _ _, rfl, by simp⟩, by kernel_rfl, rfl, by kernel_rfl, by kernel_rfl, by kernel_rfl⟩
  intro gk a wr hI K hK
  obtain ⟨i, v, tvs, hi0, hO, hs', hd', k0', k3', k4'⟩ := hI
  rw [fr20 a hs' hd']; simp only [k0', k3', k4']; clear hs' hd' k0' k3' k4'
  by_cases hl : i < n
  · have g1 : decide ((i : Int) < (n : Int)) = true := by simp; omega
    have g2 : (i : Int) < (n : Int) := by omega
    have g3 : IntKind.i64.wrap ((i : Int) + 1) = ((i + 1 : Nat) : Int) := by rw [wrap_i64_small _ (by omega) (by omega)]; omega
    obtain ⟨r, hr⟩ : ∃ r, R[i]? = some r := ⟨_, List.getElem?_eq_getElem (by have := hnR.out; omega)⟩
    obtain ⟨ad, rfl, tv, htv, hcs⟩ : ∃ ad, ao = some ad ∧ RowAt 0 w (ad.add (i * 57)) r := by
      rcases hw.out with ⟨h1, h2⟩ | ⟨ad, cap', h1, _, _, _, h2⟩
      · rw [h2] at hr
        simp at hr
      · simp only [Value.slice.injEq] at h1
        exact ⟨ad, h1.1, h2 i r hr⟩
    have hkr := hk.out r (List.mem_of_getElem? hr)
    have htr := ht.out r (List.mem_of_getElem? hr)
    have hcs' : ∀ j u, (r.hd ++ [tv])[j]? = some u → wr.cell? ((ad.add (i * 57)).add j) = some u := fun j u hj => below_cell (hcs j u hj) hO.out.bel (World.block_lt_of_cell? w _ (hcs j u hj))
    have hlen : (r.hd ++ [tv]).length = 57 := by simp [hkr.hd.length]
    replace hcs' := Lib.hid hcs'
    replace hkr := Lib.hid hkr
    replace htv := Lib.hid (htv.keep (w' := wr) (fun a u hu => below_cell hu hO.out.bel (World.block_lt_of_cell? w _ hu)))
    go_wp2_with (first | refine wpList_val rfl (ex_load 97 (.tmp 14) rfl (ad.add (i * 57)) rfl (r.hd ++ [tv]) d0 hcs'.out hd0 hd1 (by rw [rowSize, hlen])) ?_ | fail)
    refine (otherR wr r tv htv.out hkr.out htr).mono ?_
    rintro e w7 ⟨tv7, rfl, hT7, hb7⟩
    have hO7 := Lib.hid (hO.out.below hb7)
    have hT7' := Lib.hid (hT7.mono hO.out.bel.size)
    clear hT7 hO htv hcs'
    have hZ1 : (r.hd ++ [tv7]).length = 57 := by simp [hkr.out.hd.length]
    have hZo : ∀ u ∈ r.hd ++ [tv7], u.oneCell' = true := by
      intro u hu
      rcases List.mem_append.1 hu with hu | hu
      · exact Fits.one hkr.out.hd u hu
      · simp at hu
        subst hu
        obtain ⟨_, _, rfl, _⟩ := hT7'.out.out
        rfl
    replace hZo := Lib.hid hZo
    have hO8 := Lib.hid (hO7.out.below (below_alloc w7 (.cells (r.hd ++ [tv7]).toArray 167)))
    have hT8 := Lib.hid (hT7'.out.below (below_alloc w7 (.cells (r.hd ++ [tv7]).toArray 167)) (Nat.le_refl _))
    have kn8 := Lib.hid (Blk.new w7 (r.hd ++ [tv7]).toArray 167)
    have hs8 := hO8.out.bel.size
    go_wp2_with (first | refine wpList_val rfl (ex_buildSlice1 49 167 (.tmp 16) rfl i0 z0 (r.hd ++ [tv7]).toArray Try.underlying49 hi hz0 (by rw [hz1]; simpa using hZ1) (by omega) (by omega) rfl) ?_ | (at_builtin; refine wpList_append_own _ rfl _ _ 49 rfl w.heap.size 167 i0 z0 57 160 Try.underlying49 hi hz0 hz1 hz2 hz3 (by decide) _ i (rowsFlat (R.take i) tvs) rfl hO8.out.row ⟨w7.heap.size, 0, none⟩ 1 1 (r.hd ++ [tv7]) rfl (by simpa using hZ1) (fun j u hj => by rw [add_head]; exact kn8.out.cell (by simpa using hj)) hZo.out (by unfold maxLen; omega) (by omega) hs8 ?_) | fail)
    intro v1 w9 hown hg _
    have hO9 := Lib.hid (hO8.out.append hr hT8.out hown hg)
    clear hown hg hO8 hT8 kn8 hs8 hO7 hT7'
    go_wp2_with fail
    exact hK (n - (i + 1)) _ _ (by omega) ⟨i + 1, v1, tvs ++ [tv7], by omega, hO9, by kernel_rfl, rfl, by kernel_rfl, by kernel_rfl, by kernel_rfl⟩
  have g1 : decide ((i : Int) < (n : Int)) = false := by simp; omega
  have g2 : ¬ (i : Int) < (n : Int) := by omega
  obtain rfl : i = n := by omega
  have hF := hO.out
  rw [hnR.out] at hF
  replace hF := Lib.hid hF.fin
  have hbF := Lib.hid hO.out.bel
  clear hO hnR
  go_wp2_with fail
  go_ret
  exact ⟨_, rfl, hF.out, hbF.out⟩
end Go.Proofs.Ytmdohnbhogfopaa
/- Are values of many cells the same? -/
namespace Go.Proofs.Ytmdohnbhogfopaa
open Go.RowKit
set_option linter.unusedSimpArgs false
set_option linter.unusedVariables false
set_option maxRecDepth 100000
def litOf : Value → Lit
  | .bool b => .bool b
  | .int k n => .int k n
  | _ => .bool false
theorem litOf_inj {ks : List (Option IntKind)} {cs cs' : List Value} (h : Fits ks cs) (h' : Fits ks cs') (e : cs.map litOf = cs'.map litOf) : cs = cs' := by
  induction ks generalizing cs cs' with
  | nil =>
    cases cs with
    | nil => cases cs' with
      | nil => rfl
      | cons v vs => exact h'.elim
    | cons v vs => exact h.elim
  | cons k ks ih =>
    cases cs with
    | nil => exact h.elim
    | cons v vs => cases cs' with
      | nil => exact h'.elim
      | cons v' vs' =>
        simp only [List.map_cons, List.cons.injEq] at e
        rw [ih h.2 h'.2 e.2]
        congr 1
        have h1 := h.1
        have h2 := h'.1
        cases k with
        | none =>
          obtain ⟨b, rfl⟩ := h1
          obtain ⟨b', rfl⟩ := h2
          simpa [litOf] using e.1
        | some k =>
          obtain ⟨x, rfl, _⟩ := h1
          obtain ⟨x', rfl, _⟩ := h2
          simpa [litOf] using e.1
theorem Fits.drop {ks : List (Option IntKind)} {cs : List Value} (h : Fits ks cs) (n : Nat) : Fits (ks.drop n) (cs.drop n) := by
  induction n generalizing ks cs with
  | zero => simpa using h
  | succ n ih =>
    cases ks with
    | nil => cases cs with
      | nil => simpa using h
      | cons v vs => exact h.elim
    | cons k ks => cases cs with
      | nil => exact h.elim
      | cons v vs => simpa using ih h.2
theorem Fits.take {ks : List (Option IntKind)} {cs : List Value} (h : Fits ks cs) (n : Nat) : Fits (ks.take n) (cs.take n) := by
  induction n generalizing ks cs with
  | zero => simp [Fits]
  | succ n ih =>
    cases ks with
    | nil => cases cs with
      | nil => simpa using h
      | cons v vs => exact h.elim
    | cons k ks => cases cs with
      | nil => exact h.elim
      | cons v vs => exact ⟨h.1, ih h.2⟩
/-- The pieces of a list, by where they begin and how long they are, are the list itself. -/
def whole (N : Nat) (ps : List (Nat × Nat)) : Bool := (ps.map fun p => ((List.range N).drop p.1).take p.2).flatten == List.range N
theorem whole_flat {α : Type} {N : Nat} {ps : List (Nat × Nat)} (h : whole N ps = true) (L : List α) (hL : L.length = N) : (ps.map fun p => (L.drop p.1).take p.2).flatten = L := by
  subst hL
  have e := eq_of_beq h
  cases L with
  | nil =>
    have : ∀ p : Nat × Nat, (([] : List α).drop p.1).take p.2 = [] := fun p => by simp
    simp
  | cons x L' =>
    generalize hM : x :: L' = M at *
    have hg : M = (List.range M.length).map (fun i => M.getD i x) := by
      apply List.ext_getElem
      · simp
      · intro i h1 h2
        simp [List.getD_eq_getElem?_getD, List.getElem?_eq_getElem h1]
    have e3 : (ps.map fun p => (M.drop p.1).take p.2).flatten = ((ps.map fun p => ((List.range M.length).drop p.1).take p.2).flatten).map (fun i => M.getD i x) := by
      rw [List.map_flatten, List.map_map]
      congr 1
      apply List.map_congr_left
      intro p _
      simp only [Function.comp_def, List.map_take, List.map_drop, ← hg]
    rw [e3, e, ← hg]
def checkKs (P : Program) : Nat → TypeId → List (Option IntKind) → Bool
  | 0, _, _ => false
  | d + 1, t, ks =>
    match P.underlying t with
    | some .bool => ks == [none]
    | some (.int q) => ks == [some q]
    | some (.array n e) => ks.length == P.cellsOf t && whole ks.length ((List.range n).map fun i => (i * P.cellsOf e, P.cellsOf e)) && (List.range n).all fun i => checkKs P d e ((ks.drop (i * P.cellsOf e)).take (P.cellsOf e))
    | some (.struct fs) => ks.length == P.cellsOf t && fs.all (·.name != "_") && whole ks.length (fs.toList.map fun f => (f.offset, P.cellsOf f.type)) && fs.toList.all fun f => checkKs P d f.type ((ks.drop f.offset).take (P.cellsOf f.type))
    | _ => false
theorem mapM_some {α β : Type} {f : α → Option β} {g : α → β} : ∀ {l : List α}, (∀ x ∈ l, f x = some (g x)) → l.mapM f = some (l.map g)
  | [], _ => rfl
  | x :: l, h => by
    rw [List.mapM_cons, h x (by simp), mapM_some (l := l) (fun y hy => h y (by simp [hy]))]
    rfl
theorem keyLits_ks {P : Program} : ∀ (d : Nat) (t : TypeId) (ks : List (Option IntKind)) (cs : List Value), checkKs P d t ks = true → Fits ks cs → P.keyLits d t cs = some (cs.map litOf)
  | 0, _, _, _, h, _ => by simp [checkKs] at h
  | d + 1, t, ks, cs, h, hf => by
    have hl := hf.length
    unfold checkKs at h
    unfold Program.keyLits
    cases hu : P.underlying t with
    | none => simp [hu] at h
    | some k =>
      cases k <;> simp only [hu, Bool.false_eq_true] at h ⊢
      case bool =>
        obtain rfl := eq_of_beq h
        match cs, hf with
        | [v], hf =>
          obtain ⟨⟨b, rfl⟩, _⟩ := hf
          rfl
      case int q =>
        obtain rfl := eq_of_beq h
        match cs, hf with
        | [v], hf =>
          obtain ⟨⟨x, rfl, hw⟩, _⟩ := hf
          simp [hw, litOf]
      case array n e =>
        simp only [Bool.and_eq_true, beq_iff_eq, List.all_eq_true] at h
        obtain ⟨⟨h1, h2⟩, h3⟩ := h
        rw [if_pos (by omega)]
        rw [mapM_some (g := fun i => ((cs.drop (i * P.cellsOf e)).take (P.cellsOf e)).map litOf) (fun i hi => keyLits_ks d e _ _ (h3 i hi) ((hf.drop _).take _))]
        simp only [Option.map_some, Option.some.injEq]
        have := whole_flat h2 (cs.map litOf) (by simp [hl])
        rw [List.map_map] at this
        rw [← this]
        congr 1
        apply List.map_congr_left
        intro i _
        simp [List.map_take, List.map_drop]
      case struct fs =>
        simp only [Bool.and_eq_true, beq_iff_eq, List.all_eq_true] at h
        obtain ⟨⟨⟨h1, h0⟩, h2⟩, h3⟩ := h
        rw [if_pos ⟨by omega, h0⟩]
        rw [mapM_some (g := fun f => ((cs.drop f.offset).take (P.cellsOf f.type)).map litOf) (fun f hff => keyLits_ks d f.type _ _ (h3 f hff) ((hf.drop _).take _))]
        simp only [Option.map_some, Option.some.injEq]
        have := whole_flat h2 (cs.map litOf) (by simp [hl])
        rw [List.map_map] at this
        rw [← this]
        congr 1
        apply List.map_congr_left
        intro f _
        simp [List.map_take, List.map_drop]
/-- Are cells the same? -/
def sameV : Value → Value → Bool
  | .bool a, .bool b => a == b
  | .int _ a, .int _ b => a == b
  | _, _ => false
def sameL : List Value → List Value → Bool
  | [], [] => true
  | v :: vs, u :: us => sameV v u && sameL vs us
  | _, _ => false
theorem sameL_iff {ks : List (Option IntKind)} {cs cs' : List Value} (h : Fits ks cs) (h' : Fits ks cs') : sameL cs cs' = true ↔ cs = cs' := by
  induction ks generalizing cs cs' with
  | nil =>
    cases cs with
    | nil => cases cs' with
      | nil => simp [sameL]
      | cons v vs => exact h'.elim
    | cons v vs => exact h.elim
  | cons k ks ih =>
    cases cs with
    | nil => exact h.elim
    | cons v vs => cases cs' with
      | nil => exact h'.elim
      | cons v' vs' =>
        simp only [sameL, Bool.and_eq_true, ih h.2 h'.2, List.cons.injEq]
        have h1 := h.1
        have h2 := h'.1
        cases k with
        | none =>
          obtain ⟨b, rfl⟩ := h1
          obtain ⟨b', rfl⟩ := h2
          simp [sameV]
        | some k =>
          obtain ⟨x, rfl, _⟩ := h1
          obtain ⟨x', rfl, _⟩ := h2
          simp [sameV]
theorem sameL_self {ks : List (Option IntKind)} {cs : List Value} (h : Fits ks cs) : sameL cs cs = true := (sameL_iff h h).2 rfl
/-- '==' of two values of one struct type whose cells fit. -/
theorem equal_ks {t : TypeId} {fs : Array Field} {ks : List (Option IntKind)} (hu : Try.prog.underlying t = some (.struct fs)) (hc : Try.prog.cellsOf t = ks.length) (hk : Try.prog.keyTypeAt 6 t = true) (hks : checkKs Try.prog 6 t ks = true) (W : World) (cs cs' : List Value) (h : Fits ks cs) (h' : Fits ks cs') :
    (Op.equalIn 10000 t (.agg cs.toArray) (.agg cs'.toArray)).run Try.prog W = .ok (sameL cs cs') W := by
  obtain ⟨r, hr, hiff⟩ := run_equalIn_deep (P := Try.prog) 9994 6 t hk W 6 6 (.agg cs.toArray) (.agg cs'.toArray) (cs.map litOf) (cs'.map litOf) (by simp [Value.formed, hu, hc, h.length]) (by simp [Value.formed, hu, hc, h'.length])
    (keyLits_ks 6 t ks cs hks h) (keyLits_ks 6 t ks cs' hks h')
  have e : r = sameL cs cs' := by
    rw [Bool.eq_iff_iff, hiff, sameL_iff h h']
    exact ⟨litOf_inj h h', fun e => by rw [e]⟩
  rw [← e]
  exact hr
theorem equal_cell (W : World) (cs cs' : List Value) (h : Fits cellKs cs) (h' : Fits cellKs cs') : (Op.equalIn 10000 94 (.agg cs.toArray) (.agg cs'.toArray)).run Try.prog W = .ok (sameL cs cs') W :=
  equal_ks Try.underlying94 (by kernel_rfl) (by kernel_rfl) (by kernel_rfl) W cs cs' h h'
theorem equal_held2 (W : World) (cs cs' : List Value) (h : HeldOk cs) (h' : HeldOk cs') : (Op.equalIn 10000 204 (.agg cs.toArray) (.agg cs'.toArray)).run Try.prog W = .ok (sameL cs cs') W :=
  equal_ks Try.underlying204 (by kernel_rfl) (by kernel_rfl) (by kernel_rfl) W cs cs' h h'
theorem ex_neq {a : Act} {op : Oper} {W : World} (t t' : TypeId) (x y : Operand) (ho : op.op = .binOp .neq t x y t') (cs cs' : List Value) (hx : a.eval x = .agg cs.toArray) (hy : a.eval y = .agg cs'.toArray) (hg : Try.prog.eqGuardType Try.prog.depth t = false)
    (he : (Op.equalIn 10000 t (.agg cs.toArray) (.agg cs'.toArray)).run Try.prog W = .ok (sameL cs cs') W) : (execOp a.eval op).run Try.prog W = .ok (.value (.bool (!sameL cs cs'))) W := by
  unfold execOp
  simp only [ho, Sem.run_bind, hx, hy, run_eqGuard_agg W .neq t x y _ _ hg, Result.andThen_ok, run_neq_struct, he, Sem.run_pure]
theorem guard_cell : Try.prog.eqGuardType Try.prog.depth 94 = false := by kernel_rfl
theorem guard_held2 : Try.prog.eqGuardType Try.prog.depth 204 = false := by kernel_rfl
end Go.Proofs.Ytmdohnbhogfopaa
/- Same: are rows the same? -/
namespace Go.Proofs.Ytmdohnbhogfopaa
open Go.RowKit
set_option linter.unusedSimpArgs false
set_option linter.unusedVariables false
set_option maxRecDepth 100000
theorem wpList_valG {P : Program} {ops : Array Oper} {rest : List Oper} {op : Oper} {a : Act} {w w' : World} {v : Value} {Q : Exit → Act → World → Prop} (hw : Region.wanted op (yielded ops a.tmps) = true) (hr : (execOp a.eval op).run P w = .ok (.value v) w')
    (h : wpList P ops Q rest (a.put op.dst v) w') : wpList P ops Q (op :: rest) a w :=
  wpList_step fun K hK => by
    rw [if_pos hw]
    exact wp_val hr (hK _ _ h)
theorem fits_row {b : Bool} {c : List Value} {tv : Value} (hc : c.length = 55) : ((Value.bool b :: c) ++ [tv]).toArray[0]? = some (.bool b) ∧ (∀ j u, c[j]? = some u → ((Value.bool b :: c) ++ [tv]).toArray[1 + j]? = some u) ∧ ((Value.bool b :: c) ++ [tv]).toArray[56]? = some tv ∧ ((Value.bool b :: c) ++ [tv]).toArray.size = 57 := by
  refine ⟨by simp, fun j u hj => ?_, by simp [hc], by simp [hc]⟩
  have hjl := (List.getElem?_eq_some_iff.1 hj).1
  simp only [List.getElem?_toArray, List.cons_append]
  rw [Nat.add_comm 1 j, List.getElem?_cons_succ, List.getElem?_append_left (by omega)]
  exact hj
theorem TabAt.len {lo : Nat} {w : World} {v : Value} {Ts : List (List Value)} (h : TabAt lo w v Ts) : ∃ ao n cap, n = Ts.length ∧ v = .slice ao n cap ∧ ∀ t i, Ts[i]? = some t → ∃ ad, ao = some ad ∧ ((∀ t ∈ Ts, HeldOk t) → ∀ j u, t[j]? = some u → w.cell? (ad.add (i * 56 + j)) = some u) := by
  rcases h with ⟨rfl, rfl⟩ | ⟨ad, cap, rfl, _, _, _, h2⟩
  · exact ⟨none, 0, 0, rfl, rfl, fun t i h => by simp at h⟩
  · exact ⟨some ad, _, cap, rfl, rfl, fun t i ht => ⟨ad, rfl, fun hk j u hj => h2 _ _ (flat_get hk ht j u hj)⟩⟩
theorem ex_neqS {a : Act} {op : Oper} {W : World} (S : Bool) (t t' : TypeId) (x y : Operand) (ho : op.op = .binOp .neq t x y t') (cs cs' : List Value) (hx : a.eval x = .agg cs.toArray) (hy : a.eval y = .agg cs'.toArray) (hg : Try.prog.eqGuardType Try.prog.depth t = false)
    (he : (Op.equalIn 10000 t (.agg cs.toArray) (.agg cs'.toArray)).run Try.prog W = .ok S W) : (execOp a.eval op).run Try.prog W = .ok (.value (.bool (!S))) W := by
  unfold execOp
  simp only [ho, Sem.run_bind, hx, hy, run_eqGuard_agg W .neq t x y _ _ hg, Result.andThen_ok, run_neq_struct, he, Sem.run_pure]
theorem add_add' (ad : Addr) (m k : Nat) : (ad.add m).add k = ad.add (m + k) := by
  unfold Addr.add
  by_cases h1 : m = 0
  · subst h1
    simp
  · by_cases h2 : k = 0
    · subst h2
      simp [h1]
    · simp [h1, h2]
      omega
def InvSame (w w1 : World) (n : Nat) (k : Nat) (a : Act) (wr : World) : Prop :=
  ∃ i q, i + k = n ∧ wr = w1.drewN q ∧ a.tmps.size = 45 ∧ a.defers = [] ∧ slot a 2 = .pointer (some ⟨w.heap.size, 0, none⟩) ∧ slot a 3 = .pointer (some ⟨w.heap.size + 1, 0, none⟩) ∧ slot a 5 = .int .i64 i
set_option maxHeartbeats 4000000 in
theorem sameR (w : World) (b : Bool) (c c' : List Value) (tv tv' : Value) (Ts : List (List Value)) (ht : TabAt 0 w tv Ts) (ht' : TabAt 0 w tv' Ts) (hc : Fits cellKs c) (hc' : Fits cellKs c') (hk : ∀ t ∈ Ts, HeldOk t) (hn : Ts.length ≤ 1000000) :
    Calls Try.prog 68 #[.agg ((.bool b :: c) ++ [tv]).toArray, .agg ((.bool b :: c') ++ [tv']).toArray] w fun e w' => e = .returned (.bool (sameL c c')) ∧ Below w.heap.size w w' := by
  obtain ⟨d1, he0, he1⟩ := cellRow
  obtain ⟨d2, hf0, hf1⟩ := heldRow2
  obtain ⟨x0, x1, x2, x3⟩ := fits_row (b := b) (tv := tv) hc.length
  obtain ⟨y0, y1, y2, y3⟩ := fits_row (b := b) (tv := tv') hc'.length
  obtain ⟨ao, n, cap, hnE, rfl, hT⟩ := ht.len
  obtain ⟨ao', n', cap', hnE', rfl, hT'⟩ := ht'.len
  obtain rfl : n' = n := by omega
  have heq := fun W => equal_cell W c c' hc hc'
  have hl1 : c.length = 55 := hc.length
  have hl2 : c'.length = 55 := hc'.length
  rw [← hnE] at hn
  replace hnE := Lib.hid hnE
  replace x0 := Lib.hid x0
  replace x1 := Lib.hid x1
  replace x2 := Lib.hid x2
  replace y0 := Lib.hid y0
  replace y1 := Lib.hid y1
  replace y2 := Lib.hid y2
  replace heq := Lib.hid heq
  replace hT := Lib.hid hT
  replace hT' := Lib.hid hT'
  replace hk := Lib.hid hk
  generalize ((Value.bool b :: c) ++ [Value.slice ao n' cap]).toArray = X at *
  generalize ((Value.bool b :: c') ++ [Value.slice ao' n' cap']).toArray = Y at *
  clear ht ht' hc hc'
  generalize sameL c c' = S at *
  go_enter Try.func68, Try.ntmps68
  go_upto_region 1 with (first | refine wpList_val rfl (ex_box 167 (.tmp 0) rfl X rfl) ?_ | refine wpList_val rfl (ex_box 167 (.tmp 1) rfl Y rfl) ?_ | fail)
  have k0 : Blk ((w.alloc (.cells X 167)).alloc (.cells Y 167)) w.heap.size X 167 := (Blk.new w _ _).alloc _
  have k1 : Blk ((w.alloc (.cells X 167)).alloc (.cells Y 167)) (w.heap.size + 1) Y 167 := by
    have := Blk.new (w.alloc (.cells X 167)) Y 167
    simpa using this
  have hb : Below w.heap.size w ((w.alloc (.cells X 167)).alloc (.cells Y 167)) := (below_alloc _ _).trans ((below_alloc _ _).mono (by simp))
  have hsz : (w.alloc (.cells X 167)).heap.size = w.heap.size + 1 := by simp
  replace k0 := Lib.hid k0
  replace k1 := Lib.hid k1
  replace hb := Lib.hid hb
  try rw [hsz]
  clear hsz
  generalize (w.alloc (.cells X 167)).alloc (.cells Y 167) = w1 at *
  have q0 : w1.cell? ⟨w.heap.size, 0, none⟩ = some (.bool b) := k0.out.cell x0.out
  have p0 : w1.cell? ⟨w.heap.size + 1, 0, none⟩ = some (.bool b) := k1.out.cell y0.out
  have q2 : w1.cell? ⟨w.heap.size, 56, none⟩ = some (.slice ao n' cap) := k0.out.cell x2.out
  have p2 : w1.cell? ⟨w.heap.size + 1, 56, none⟩ = some (.slice ao' n' cap') := k1.out.cell y2.out
  have q1 : ∀ j u, c[j]? = some u → w1.cell? ((⟨w.heap.size, 1, none⟩ : Addr).add j) = some u := fun j u hj => by
    rw [Addr.add_mid]
    exact k0.out.cell (x1.out j u hj)
  have p1 : ∀ j u, c'[j]? = some u → w1.cell? ((⟨w.heap.size + 1, 1, none⟩ : Addr).add j) = some u := fun j u hj => by
    rw [Addr.add_mid]
    exact k1.out.cell (y1.out j u hj)
  replace q1 := Lib.hid q1
  replace p1 := Lib.hid p1
  clear hnE'
  cases S
  · go_wp2_with (first | refine wpList_valG (by rfl) (ex_load 94 (.tmp 12) rfl ⟨w.heap.size, 1, none⟩ rfl c d1 q1.out he0 he1 (by rw [cellSize, hl1])) ?_ | (refine wpList_valG (by rfl) (ex_load 94 (.tmp 14) rfl ⟨w.heap.size + 1, 1, none⟩ rfl c' d1 p1.out he0 he1 (by rw [cellSize, hl2])) ?_; refine wpList_valG (by rfl) (ex_neqS false 94 94 (.tmp 13) (.tmp 15) rfl c c' rfl rfl guard_cell (heq.out _)) ?_) | fail)
    go_ret
    exact ⟨rfl, hb.out⟩
  · go_wp2_with (first | refine wpList_valG (by rfl) (ex_load 94 (.tmp 12) rfl ⟨w.heap.size, 1, none⟩ rfl c d1 q1.out he0 he1 (by rw [cellSize, hl1])) ?_ | (refine wpList_valG (by rfl) (ex_load 94 (.tmp 14) rfl ⟨w.heap.size + 1, 1, none⟩ rfl c' d1 p1.out he0 he1 (by rw [cellSize, hl2])) ?_; refine wpList_valG (by rfl) (ex_neqS true 94 94 (.tmp 13) (.tmp 15) rfl c c' rfl rfl guard_cell (heq.out _)) ?_) | fail)
    refine wp_loop_k (InvSame w w1 n') n' ?_ ?_
    · exact ⟨0, 0, by omega, rfl, by kernel_rfl, rfl, by kernel_rfl, by kernel_rfl, by kernel_rfl⟩
    intro gk a wr hI K hK
    obtain ⟨i, q, hi0, rfl, hs', hd', k2', k3', k5'⟩ := hI
    rw [fr45 a hs' hd']; simp only [k2', k3', k5']; clear hs' hd' k2' k3' k5'
    have s2 : (w1.drewN q).cell? ⟨w.heap.size, 56, none⟩ = some (.slice ao n' cap) := q2
    have r2 : (w1.drewN q).cell? ⟨w.heap.size + 1, 56, none⟩ = some (.slice ao' n' cap') := p2
    by_cases hlt : i < n'
    · have g1 : decide ((i : Int) < (n' : Int)) = true := by simp; omega
      have g2 : (i : Int) < (n' : Int) := by omega
      have g3 : IntKind.i64.wrap ((i : Int) + 1) = ((i + 1 : Nat) : Int) := by rw [wrap_i64_small _ (by omega) (by omega)]; omega
      obtain ⟨t, htt⟩ : ∃ t, Ts[i]? = some t := ⟨_, List.getElem?_eq_getElem (by have := hnE.out; omega)⟩
      have hkt := hk.out t (List.mem_of_getElem? htt)
      obtain ⟨ad, rfl, had⟩ := hT.out t i htt
      obtain ⟨ad', rfl, had'⟩ := hT'.out t i htt
      have hlt1 : t.length = 56 := hkt.length
      have hA : ∀ m, (w1.drewN m).cell? ⟨w.heap.size, 56, none⟩ = some (.slice (some ad) n' cap) ∧ (w1.drewN m).cell? ⟨w.heap.size + 1, 56, none⟩ = some (.slice (some ad') n' cap') ∧ (∀ j u, t[j]? = some u → (w1.drewN m).cell? ((ad.add (i * 56)).add j) = some u) ∧ (∀ j u, t[j]? = some u → (w1.drewN m).cell? ((ad'.add (i * 56)).add j) = some u) := fun m =>
        ⟨q2, p2, fun j u hj => by
          rw [add_add']
          exact below_cell (had hk.out j u hj) (bdrewN hb.out m) (World.block_lt_of_cell? w _ (had hk.out j u hj)), fun j u hj => by
          rw [add_add']
          exact below_cell (had' hk.out j u hj) (bdrewN hb.out m) (World.block_lt_of_cell? w _ (had' hk.out j u hj))⟩
      have he2 := fun W => equal_held2 W t t hkt hkt
      rw [sameL_self hkt] at he2
      replace he2 := Lib.hid he2
      replace hkt := Lib.hid hkt
      clear had had'
      go_upto_region 6 with fail
      clear s2 r2
      refine wp_region_held_drew (S := fun W => W.cell? ⟨w.heap.size, 56, none⟩ = some (.slice (some ad) n' cap) ∧ W.cell? ⟨w.heap.size + 1, 56, none⟩ = some (.slice (some ad') n' cap') ∧ (∀ j u, t[j]? = some u → W.cell? ((ad.add (i * 56)).add j) = some u) ∧ (∀ j u, t[j]? = some u → W.cell? ((ad'.add (i * 56)).add j) = some u)) (by kernel_rfl) (hA (q + 1)) (fun hHeld => ?_)
      refine wpAnyH_take (i := 0) (oi := { dst := some 34, op := .fieldAddr _ (.tmp 2) 2, type := _, pos := _, after := _, guard := _ }) (v := ?_) rfl (by kernel_rfl) (by kernel_rfl) (by kernel_rfl) (fun _ _ _ h => h) (Or.inl ⟨by rfl, ?_⟩) (by assumption) ?_
      rotate_left
      · (intro w hSw; (try dsimp only at hSw); go_simp) <;> with_reducible rfl
      try simp only [Act.put, List.setIfInBounds_toArray, List.set_cons_zero, List.set_cons_succ]
      refine wpAnyH_take (i := 1) (oi := { dst := some 35, op := .load _ (.tmp 34), type := _, pos := _, after := _, guard := _ }) (v := ?_) rfl (by kernel_rfl) (by kernel_rfl) (by kernel_rfl) (fun _ _ _ h => h) (Or.inl ⟨by rfl, ?_⟩) (by assumption) ?_
      rotate_left
      · (intro w hSw; (try dsimp only at hSw); go_simp) <;> with_reducible rfl
      try simp only [Act.put, List.setIfInBounds_toArray, List.set_cons_zero, List.set_cons_succ]
      refine wpAnyH_take (i := 2) (oi := { dst := some 36, op := .move (.tmp 5), type := _, pos := _, after := _, guard := _ }) (v := ?_) rfl (by kernel_rfl) (by kernel_rfl) (by kernel_rfl) (fun _ _ _ h => h) (Or.inl ⟨by rfl, ?_⟩) (by assumption) ?_
      rotate_left
      · (intro w hSw; (try dsimp only at hSw); go_simp) <;> with_reducible rfl
      try simp only [Act.put, List.setIfInBounds_toArray, List.set_cons_zero, List.set_cons_succ]
      refine wpAnyH_take (i := 3) (oi := { dst := some 37, op := .indexAddr _ (.tmp 35) (.tmp 36), type := _, pos := _, after := _, guard := _ }) (v := ?_) rfl (by kernel_rfl) (by kernel_rfl) (by kernel_rfl) (fun _ _ _ h => h) (Or.inl ⟨by rfl, ?_⟩) (by assumption) ?_
      rotate_left
      · (intro w hSw; (try dsimp only at hSw); go_simp) <;> with_reducible rfl
      try simp only [Act.put, List.setIfInBounds_toArray, List.set_cons_zero, List.set_cons_succ]
      refine wpAnyH_take (i := 4) (oi := { dst := some 38, op := .load _ (.tmp 37), type := _, pos := _, after := _, guard := _ }) (v := .agg t.toArray) rfl (by kernel_rfl) (by kernel_rfl) (by kernel_rfl) (fun _ _ _ h => h) (Or.inl ⟨by rfl, fun W hW => ex_load 204 (.tmp 37) rfl (ad.add (i * 56)) rfl t d2 hW.2.2.1 hf0 hf1 (by rw [heldSize2, hlt1])⟩) (by assumption) ?_
      try simp only [Act.put, List.setIfInBounds_toArray, List.set_cons_zero, List.set_cons_succ]
      refine wpAnyH_take (i := 5) (oi := { dst := some 39, op := .fieldAddr _ (.tmp 3) 2, type := _, pos := _, after := _, guard := _ }) (v := ?_) rfl (by kernel_rfl) (by kernel_rfl) (by kernel_rfl) (fun _ _ _ h => h) (Or.inl ⟨by rfl, ?_⟩) (by assumption) ?_
      rotate_left
      · (intro w hSw; (try dsimp only at hSw); go_simp) <;> with_reducible rfl
      try simp only [Act.put, List.setIfInBounds_toArray, List.set_cons_zero, List.set_cons_succ]
      refine wpAnyH_take (i := 6) (oi := { dst := some 40, op := .load _ (.tmp 39), type := _, pos := _, after := _, guard := _ }) (v := ?_) rfl (by kernel_rfl) (by kernel_rfl) (by kernel_rfl) (fun _ _ _ h => h) (Or.inl ⟨by rfl, ?_⟩) (by assumption) ?_
      rotate_left
      · (intro w hSw; (try dsimp only at hSw); go_simp) <;> with_reducible rfl
      try simp only [Act.put, List.setIfInBounds_toArray, List.set_cons_zero, List.set_cons_succ]
      refine wpAnyH_take (i := 7) (oi := { dst := some 41, op := .move (.tmp 5), type := _, pos := _, after := _, guard := _ }) (v := ?_) rfl (by kernel_rfl) (by kernel_rfl) (by kernel_rfl) (fun _ _ _ h => h) (Or.inl ⟨by rfl, ?_⟩) (by assumption) ?_
      rotate_left
      · (intro w hSw; (try dsimp only at hSw); go_simp) <;> with_reducible rfl
      try simp only [Act.put, List.setIfInBounds_toArray, List.set_cons_zero, List.set_cons_succ]
      refine wpAnyH_take (i := 8) (oi := { dst := some 42, op := .indexAddr _ (.tmp 40) (.tmp 41), type := _, pos := _, after := _, guard := _ }) (v := ?_) rfl (by kernel_rfl) (by kernel_rfl) (by kernel_rfl) (fun _ _ _ h => h) (Or.inl ⟨by rfl, ?_⟩) (by assumption) ?_
      rotate_left
      · (intro w hSw; (try dsimp only at hSw); go_simp) <;> with_reducible rfl
      try simp only [Act.put, List.setIfInBounds_toArray, List.set_cons_zero, List.set_cons_succ]
      refine wpAnyH_take (i := 9) (oi := { dst := some 43, op := .load _ (.tmp 42), type := _, pos := _, after := _, guard := _ }) (v := .agg t.toArray) rfl (by kernel_rfl) (by kernel_rfl) (by kernel_rfl) (fun _ _ _ h => h) (Or.inl ⟨by rfl, fun W hW => ex_load 204 (.tmp 42) rfl (ad'.add (i * 56)) rfl t d2 hW.2.2.2 hf0 hf1 (by rw [heldSize2, hlt1])⟩) (by assumption) ?_
      try simp only [Act.put, List.setIfInBounds_toArray, List.set_cons_zero, List.set_cons_succ]
      refine wpAnyH_take (i := 10) (oi := { dst := some 44, op := .binOp .neq 204 (.tmp 38) (.tmp 43) 204, type := _, pos := _, after := _, guard := _ }) (v := .bool false) rfl (by kernel_rfl) (by kernel_rfl) (by kernel_rfl) (fun _ _ _ h => h) (Or.inl ⟨by rfl, fun W hW => ex_neqS true 204 204 (.tmp 38) (.tmp 43) rfl t t rfl rfl guard_held2 (he2.out W)⟩) (by assumption) ?_
      try simp only [Act.put, List.setIfInBounds_toArray, List.set_cons_zero, List.set_cons_succ]
      refine wpAnyH_done (by kernel_rfl) ?_ _
      clear hHeld hA
      have hdr : (w1.drewN q).drew = w1.drewN (q + 1) := rfl
      rw [hdr]
      go_wp2_with fail
      exact hK (n' - (i + 1)) _ _ (by omega) ⟨i + 1, q + 1, by omega, rfl, by kernel_rfl, rfl, by kernel_rfl, by kernel_rfl, by kernel_rfl⟩
    have g1 : decide ((i : Int) < (n' : Int)) = false := by simp; omega
    have g2 : ¬ (i : Int) < (n' : Int) := by omega
    go_wp2_with fail
    go_ret
    exact ⟨rfl, bdrewN hb.out q⟩
end Go.Proofs.Ytmdohnbhogfopaa
/- SameAll: are rows the document's? -/
namespace Go.Proofs.Ytmdohnbhogfopaa
open Go.RowKit
set_option linter.unusedSimpArgs false
set_option linter.unusedVariables false
set_option maxRecDepth 100000
def sameRows : List RowC → List RowC → Bool
  | [], [] => true
  | r :: R, r' :: R' => sameL r.hd r'.hd && sameRows R R'
  | _, _ => false
theorem sameRows_self {R : List RowC} (h : ∀ r ∈ R, RowOk r) : sameRows R R = true := by
  induction R with
  | nil => rfl
  | cons r R ih => simp [sameRows, sameL_self (h r (by simp)).hd, ih (fun x hx => h x (by simp [hx]))]
theorem sameRows_not : ∀ {R R' : List RowC} {i : Nat} {r r' : RowC}, R[i]? = some r → R'[i]? = some r' → sameL r.hd r'.hd = false → sameRows R R' = false
  | [], _, _, _, _, h, _, _ => by simp at h
  | _ :: _, [], _, _, _, _, h, _ => by simp at h
  | x :: R, x' :: R', 0, r, r', h, h', e => by
    simp at h h'
    subst h h'
    simp [sameRows, e]
  | x :: R, x' :: R', i + 1, r, r', h, h', e => by
    simp only [sameRows, Bool.and_eq_false_iff]
    right
    exact sameRows_not (i := i) (by simpa using h) (by simpa using h') e
theorem sameRows_all : ∀ {R R' : List RowC}, R'.length = R.length → (∀ (i : Nat) (r r' : RowC), R[i]? = some r → R'[i]? = some r' → sameL r.hd r'.hd = true) → sameRows R R' = true
  | [], [], _, _ => rfl
  | [], _ :: _, h, _ => by simp at h
  | _ :: _, [], h, _ => by simp at h
  | r :: R, r' :: R', h, k => by
    simp only [sameRows, Bool.and_eq_true]
    exact ⟨k 0 r r' rfl rfl, sameRows_all (by simpa using h) (fun i x x' hx hx' => k (i + 1) x x' (by simpa using hx) (by simpa using hx'))⟩
/-- Rows that differ in their cells alone. -/
structure RowsNear (R R' : List RowC) : Prop where
  len : R'.length = R.length
  row : ∀ (i : Nat) (r r' : RowC), R[i]? = some r → R'[i]? = some r' → r.hd.head? = r'.hd.head? ∧ r.tab = r'.tab
theorem RowsNear.self (R : List RowC) : RowsNear R R := ⟨rfl, fun i r r' h h' => by
  rw [h] at h'
  simp at h'
  subst h'
  exact ⟨rfl, rfl⟩⟩
theorem WordAt.len {lo : Nat} {w : World} {v : Value} {R : List RowC} (h : WordAt lo w v R) : ∃ ao n cap, n = R.length ∧ v = .slice ao n cap ∧ ∀ r i, R[i]? = some r → ∃ ad, ao = some ad ∧ RowAt lo w (ad.add (i * 57)) r := by
  rcases h with ⟨rfl, rfl⟩ | ⟨ad, cap, rfl, _, _, _, h2⟩
  · exact ⟨none, 0, 0, rfl, rfl, fun r i h => by simp at h⟩
  · exact ⟨some ad, _, cap, rfl, rfl, fun r i hr => ⟨ad, rfl, h2 i r hr⟩⟩
def InvAll (w : World) (v v' : Value) (R R' : List RowC) (n : Nat) (k : Nat) (a : Act) (wr : World) : Prop :=
  ∃ i, i + k = n ∧ Hid (∀ (j : Nat) (r r' : RowC), j < i → R[j]? = some r → R'[j]? = some r' → sameL r.hd r'.hd = true) ∧ Hid (Below w.heap.size w wr) ∧ a.tmps.size = 28 ∧ a.defers = [] ∧ slot a 0 = v ∧ slot a 1 = v' ∧ slot a 5 = .int .i64 i
set_option maxHeartbeats 4000000 in
theorem sameAllR (w : World) (v v' : Value) (R R' : List RowC) (hw : WordAt 0 w v R) (hw' : WordAt 0 w v' R') (hR : RowsNear R R') (hk : ∀ r ∈ R, RowOk r) (hk' : ∀ r ∈ R', RowOk r) (hn : R.length ≤ 1000000) (ht : ∀ r ∈ R, r.tab.length ≤ 1000000) :
    Calls Try.prog 21 #[v, v'] w fun e w' => e = .returned (.bool (sameRows R R')) ∧ Below w.heap.size w w' := by
  obtain ⟨d0, hd0, hd1⟩ := rowRow
  obtain ⟨d2, hf0, hf1⟩ := rowRow2
  obtain ⟨ao, n, cap, hnE, rfl, hT⟩ := hw.len
  obtain ⟨ao', n', cap', hnE', rfl, hT'⟩ := hw'.len
  obtain rfl : n' = n := by rw [hnE', hnE, hR.len]
  rw [← hnE] at hn
  clear hw hw'
  replace hT := Lib.hid hT
  replace hT' := Lib.hid hT'
  replace hk := Lib.hid hk
  replace hk' := Lib.hid hk'
  replace ht := Lib.hid ht
  replace hR := Lib.hid hR
  replace hnE := Lib.hid hnE
  replace hnE' := Lib.hid hnE'
  go_enter Try.func21, Try.ntmps21
  go_wp2_with fail
  refine wp_loop_k (InvAll w (.slice ao n' cap) (.slice ao' n' cap') R R' n') n' ?_ ?_
  · exact ⟨0, by omega, fun j r r' hj => by omega, Below.refl _ _, by kernel_rfl, rfl, by kernel_rfl, by kernel_rfl, by kernel_rfl⟩
  intro gk a wr hI K hK
  obtain ⟨i, hi0, hSo, hb, hs', hd', k0', k1', k5'⟩ := hI
  rw [fr28 a hs' hd']; simp only [k0', k1', k5']; clear hs' hd' k0' k1' k5'
  by_cases hlt : i < n'
  · have g1 : decide ((i : Int) < (n' : Int)) = true := by simp; omega
    have g2 : (i : Int) < (n' : Int) := by omega
    have g3 : IntKind.i64.wrap ((i : Int) + 1) = ((i + 1 : Nat) : Int) := by rw [wrap_i64_small _ (by omega) (by omega)]; omega
    obtain ⟨r, hr⟩ : ∃ r, R[i]? = some r := ⟨_, List.getElem?_eq_getElem (by have := hnE.out; omega)⟩
    obtain ⟨r', hr'⟩ : ∃ r', R'[i]? = some r' := ⟨_, List.getElem?_eq_getElem (by have := hnE'.out; omega)⟩
    have hkr := hk.out r (List.mem_of_getElem? hr)
    have hkr' := hk'.out r' (List.mem_of_getElem? hr')
    have htr := ht.out r (List.mem_of_getElem? hr)
    obtain ⟨hne, htb⟩ := hR.out.row i r r' hr hr'
    obtain ⟨ad, rfl, tv, htv, hcs⟩ := hT.out r i hr
    obtain ⟨ad', rfl, tv', htv', hcs'⟩ := hT'.out r' i hr'
    obtain ⟨b, c, hhd, hfc, hlc⟩ := hkr.hd.split
    obtain ⟨b', c', hhd', hfc', hlc'⟩ := hkr'.hd.split
    obtain rfl : b' = b := by
      rw [hhd, hhd'] at hne
      simpa using hne.symm
    have hl1 : (r.hd ++ [tv]).length = 57 := by simp [hkr.hd.length]
    have hl2 : (r'.hd ++ [tv']).length = 57 := by simp [hkr'.hd.length]
    have hcl : ∀ W, Below w.heap.size w W → (∀ j u, (r.hd ++ [tv])[j]? = some u → W.cell? ((ad.add (i * 57)).add j) = some u) ∧ (∀ j u, (r'.hd ++ [tv'])[j]? = some u → W.cell? ((ad'.add (i * 57)).add j) = some u) := fun W hW =>
      ⟨fun j u hj => below_cell (hcs j u hj) hW (World.block_lt_of_cell? w _ (hcs j u hj)), fun j u hj => below_cell (hcs' j u hj) hW (World.block_lt_of_cell? w _ (hcs' j u hj))⟩
    have hP1 : ∀ W, Below w.heap.size w W → Calls Try.prog 69 #[.agg (r.hd ++ [tv]).toArray] W fun e w' => ∃ tv', e = .returned (.agg (r.hd ++ [tv']).toArray) ∧ OwnTab 204 W.heap.size w' tv' r.tab ∧ Below W.heap.size W w' := fun W hW =>
      otherR W r tv (htv.keep (fun a u hu => below_cell hu hW (World.block_lt_of_cell? w _ hu))) hkr htr
    have hP2 : ∀ W tv7, Below w.heap.size w W → TabAt 0 W tv7 r.tab → Calls Try.prog 68 #[.agg (r.hd ++ [tv7]).toArray, .agg (r'.hd ++ [tv']).toArray] W fun e w' => e = .returned (.bool (sameL r.hd r'.hd)) ∧ Below W.heap.size W w' := fun W tv7 hW h7 => by
      have := sameR W b' c c' tv7 tv' r.tab h7 (htb ▸ htv'.keep (fun a u hu => below_cell hu hW (World.block_lt_of_cell? w _ hu))) hfc hfc' hkr.tab htr
      rw [hhd, hhd']
      have e : sameL (Value.bool b' :: c) (Value.bool b' :: c') = sameL c c' := by simp [sameL, sameV]
      rw [e]
      exact this
    replace hcl := Lib.hid hcl
    replace hP1 := Lib.hid hP1
    replace hP2 := Lib.hid hP2
    clear hcs hcs' htv htv' hhd hhd' hfc hfc' hlc hlc' hne hkr hkr'
    generalize hS : sameL r.hd r'.hd = S at *
    replace hS := Lib.hid hS
    go_upto_region 6 with fail
    refine wp_region_held_drew (S := fun W => (∀ j u, (r.hd ++ [tv])[j]? = some u → W.cell? ((ad.add (i * 57)).add j) = some u) ∧ (∀ j u, (r'.hd ++ [tv'])[j]? = some u → W.cell? ((ad'.add (i * 57)).add j) = some u)) (by kernel_rfl) (hcl.out _ (bdrewN hb.out 1)) (fun hHeld => ?_)
    refine wpAnyH_take (i := 0) (oi := { dst := some 17, op := .move (.tmp 0), type := _, pos := _, after := _, guard := _ }) (v := ?_) rfl (by kernel_rfl) (by kernel_rfl) (by kernel_rfl) (fun _ _ _ h => h) (Or.inl ⟨by rfl, ?_⟩) (by assumption) ?_
    rotate_left
    · (intro w hSw; (try dsimp only at hSw); go_simp) <;> with_reducible rfl
    try simp only [Act.put, List.setIfInBounds_toArray, List.set_cons_zero, List.set_cons_succ]
    refine wpAnyH_take (i := 1) (oi := { dst := some 18, op := .move (.tmp 5), type := _, pos := _, after := _, guard := _ }) (v := ?_) rfl (by kernel_rfl) (by kernel_rfl) (by kernel_rfl) (fun _ _ _ h => h) (Or.inl ⟨by rfl, ?_⟩) (by assumption) ?_
    rotate_left
    · (intro w hSw; (try dsimp only at hSw); go_simp) <;> with_reducible rfl
    try simp only [Act.put, List.setIfInBounds_toArray, List.set_cons_zero, List.set_cons_succ]
    refine wpAnyH_take (i := 2) (oi := { dst := some 19, op := .indexAddr _ (.tmp 17) (.tmp 18), type := _, pos := _, after := _, guard := _ }) (v := ?_) rfl (by kernel_rfl) (by kernel_rfl) (by kernel_rfl) (fun _ _ _ h => h) (Or.inl ⟨by rfl, ?_⟩) (by assumption) ?_
    rotate_left
    · (intro w hSw; (try dsimp only at hSw); go_simp) <;> with_reducible rfl
    try simp only [Act.put, List.setIfInBounds_toArray, List.set_cons_zero, List.set_cons_succ]
    refine wpAnyH_take (i := 3) (oi := { dst := some 20, op := .load _ (.tmp 19), type := _, pos := _, after := _, guard := _ }) (v := .agg (r.hd ++ [tv]).toArray) rfl (by kernel_rfl) (by kernel_rfl) (by kernel_rfl) (fun _ _ _ h => h) (Or.inl ⟨by rfl, fun W hW => ex_load 97 (.tmp 19) rfl (ad.add (i * 57)) rfl _ d0 hW.1 hd0 hd1 (by rw [rowSize, hl1])⟩) (by assumption) ?_
    try simp only [Act.put, List.setIfInBounds_toArray, List.set_cons_zero, List.set_cons_succ]
    refine wpAnyH_take (i := 5) (oi := { dst := some 22, op := .move (.tmp 1), type := _, pos := _, after := _, guard := _ }) (v := ?_) rfl (by kernel_rfl) (by kernel_rfl) (by kernel_rfl) (fun _ _ _ h => h) (Or.inl ⟨by rfl, ?_⟩) (by assumption) ?_
    rotate_left
    · (intro w hSw; (try dsimp only at hSw); go_simp) <;> with_reducible rfl
    try simp only [Act.put, List.setIfInBounds_toArray, List.set_cons_zero, List.set_cons_succ]
    refine wpAnyH_take (i := 6) (oi := { dst := some 23, op := .move (.tmp 5), type := _, pos := _, after := _, guard := _ }) (v := ?_) rfl (by kernel_rfl) (by kernel_rfl) (by kernel_rfl) (fun _ _ _ h => h) (Or.inl ⟨by rfl, ?_⟩) (by assumption) ?_
    rotate_left
    · (intro w hSw; (try dsimp only at hSw); go_simp) <;> with_reducible rfl
    try simp only [Act.put, List.setIfInBounds_toArray, List.set_cons_zero, List.set_cons_succ]
    refine wpAnyH_take (i := 7) (oi := { dst := some 24, op := .indexAddr _ (.tmp 22) (.tmp 23), type := _, pos := _, after := _, guard := _ }) (v := ?_) rfl (by kernel_rfl) (by kernel_rfl) (by kernel_rfl) (fun _ _ _ h => h) (Or.inl ⟨by rfl, ?_⟩) (by assumption) ?_
    rotate_left
    · (intro w hSw; (try dsimp only at hSw); go_simp) <;> with_reducible rfl
    try simp only [Act.put, List.setIfInBounds_toArray, List.set_cons_zero, List.set_cons_succ]
    refine wpAnyH_take (i := 8) (oi := { dst := some 25, op := .load _ (.tmp 24), type := _, pos := _, after := _, guard := _ }) (v := .agg (r'.hd ++ [tv']).toArray) rfl (by kernel_rfl) (by kernel_rfl) (by kernel_rfl) (fun _ _ _ h => h) (Or.inl ⟨by rfl, fun W hW => ex_load 167 (.tmp 24) rfl (ad'.add (i * 57)) rfl _ d2 hW.2 hf0 hf1 (by rw [rowSize2, hl2])⟩) (by assumption) ?_
    try simp only [Act.put, List.setIfInBounds_toArray, List.set_cons_zero, List.set_cons_succ]
    refine wpAnyH_ready (rs := [4]) (by kernel_rfl) (by simp) ?_
    refine AllReadyH.cons (o := { dst := some 21, op := .call { callee := .value (.func 69), args := #[.tmp 20], argTypes := _ }, type := _, pos := _, after := _, guard := _ }) rfl (fun K6 hK6 => ?_) AllReadyH.nil
    go_simp
    refine (hP1.out _ (bdrewN hb.out 1)).mono ?_
    rintro e w7 ⟨tv7, rfl, hT7, hb7⟩
    have hb7' := Lib.hid (bthen (bdrewN hb.out 1) hb7)
    have hT8 := Lib.hid (hT7.tab.mono (Nat.zero_le _))
    refine hK6.out _ _ (hcl.out _ hb7'.out) (fun hHeld => ?_)
    clear hK6 K6 hT7 hb7
    try simp only [Act.put, List.setIfInBounds_toArray, List.set_cons_zero, List.set_cons_succ]
    refine wpAnyH_ready (rs := [9]) (by kernel_rfl) (by simp) ?_
    refine AllReadyH.cons (o := { dst := some 26, op := .call { callee := .value (.func 68), args := #[.tmp 21, .tmp 25], argTypes := _ }, type := _, pos := _, after := _, guard := _ }) rfl (fun K6 hK6 => ?_) AllReadyH.nil
    go_simp
    refine (hP2.out _ tv7 hb7'.out hT8.out).mono ?_
    rintro e w8 ⟨rfl, hb8⟩
    have hb8' := Lib.hid (bthen hb7'.out hb8)
    refine hK6.out _ _ (hcl.out _ hb8'.out) (fun hHeld => ?_)
    clear hK6 K6 hT8 hb8 hb7'
    try simp only [Act.put, List.setIfInBounds_toArray, List.set_cons_zero, List.set_cons_succ]
    refine wpAnyH_ready (rs := [10]) (by kernel_rfl) (by simp) ?_
    refine AllReadyH.cons (o := { dst := some 27, op := .unOp _ _ (.tmp 26), type := _, pos := _, after := _, guard := _ }) rfl (fun K6 hK6 => ?_) AllReadyH.nil
    go_simp
    refine hK6.out _ _ (hcl.out _ hb8'.out) (fun hHeld => ?_)
    clear hK6 K6
    try simp only [Act.put, List.setIfInBounds_toArray, List.set_cons_zero, List.set_cons_succ]
    refine wpAnyH_done (by kernel_rfl) ?_ _
    clear hHeld
    cases S
    · have hF := sameRows_not hr hr' hS.out
      go_wp2_with fail
      go_ret
      exact ⟨by rw [hF]; rfl, hb8'.out⟩
    · have hSo' : Hid (∀ (j : Nat) (x x' : RowC), j < i + 1 → R[j]? = some x → R'[j]? = some x' → sameL x.hd x'.hd = true) := fun j x x' hj hx hx' => by
        by_cases h1 : j < i
        · exact hSo.out j x x' h1 hx hx'
        · obtain rfl : j = i := by omega
          rw [hr] at hx
          rw [hr'] at hx'
          simp at hx hx'
          subst hx hx'
          exact hS.out
      go_wp2_with fail
      exact hK (n' - (i + 1)) _ _ (by omega) ⟨i + 1, by omega, hSo', hb8', by kernel_rfl, rfl, by kernel_rfl, by kernel_rfl, by kernel_rfl⟩
  have g1 : decide ((i : Int) < (n' : Int)) = false := by simp; omega
  have g2 : ¬ (i : Int) < (n' : Int) := by omega
  have hF : sameRows R R' = true := sameRows_all hR.out.len (fun j x x' hx hx' => hSo.out j x x' (by have := (List.getElem?_eq_some_iff.1 hx).1; have := hnE.out; omega) hx hx')
  replace hF := Lib.hid hF
  go_wp2_with fail
  go_ret
  exact ⟨by rw [hF.out]; rfl, hb.out⟩
end Go.Proofs.Ytmdohnbhogfopaa
/- alike, empty: posts. -/
namespace Go.Proofs.Ytmdohnbhogfopaa
open Go.RowKit
set_option linter.unusedSimpArgs false
set_option linter.unusedVariables false
set_option maxRecDepth 100000
theorem WordAt.below {lo : Nat} {w W : World} {v : Value} {R : List RowC} (h : WordAt lo w v R) (hb : Below w.heap.size w W) : WordAt lo W v R := h.keep (KeepC.of_below hb)
set_option maxHeartbeats 4000000 in
theorem alikeR (w : World) (s s' : Int) (v v' : Value) (R R' : List RowC) (hw : WordAt 0 w v R) (hw' : WordAt 0 w v' R') (hs : s = s') (hR : RowsNear R R') (hk : ∀ r ∈ R, RowOk r) (hk' : ∀ r ∈ R', RowOk r) (hn : R.length ≤ 1000000) (ht : ∀ r ∈ R, r.tab.length ≤ 1000000) :
    Calls Try.prog 20 #[.agg #[.int .u8 s, v], .agg #[.int .u8 s', v']] w fun e w' => e = .returned (.bool (sameRows R R')) ∧ Below w.heap.size w w' := by
  subst hs
  have hn' : R'.length ≤ 1000000 := by rw [hR.len]; exact hn
  have ht' : ∀ r ∈ R', r.tab.length ≤ 1000000 := fun r' hr' => by
    obtain ⟨i, hi, rfl⟩ := List.getElem_of_mem hr'
    have e1 : R'[i]? = some R'[i] := List.getElem?_eq_getElem hi
    have hil : i < R.length := by rw [← hR.len]; exact hi
    have e2 : R[i]? = some R[i] := List.getElem?_eq_getElem hil
    rw [← (hR.row i _ _ e2 e1).2]
    exact ht _ (List.getElem_mem hil)
  have hv : ∃ a n c, v = .slice a n c := by obtain ⟨a, n, c, _, rfl, _⟩ := hw.len; exact ⟨a, n, c, rfl⟩
  have hv' : ∃ a n c, v' = .slice a n c := by obtain ⟨a, n, c, _, rfl, _⟩ := hw'.len; exact ⟨a, n, c, rfl⟩
  obtain ⟨a0, n0, c0, rfl⟩ := hv
  obtain ⟨a1, n1, c1, rfl⟩ := hv'
  have P1 : Hid (∀ W, Below w.heap.size w W → Calls Try.prog 22 #[.slice a1 n1 c1] W fun e w' => ∃ v', e = .returned v' ∧ OwnWord 167 204 W.heap.size w' v' R' ∧ Below W.heap.size W w') := fun W hW => othersR W _ R' (hw'.below hW) hk' hn' ht'
  have P2 : Hid (∀ W v7, Below w.heap.size w W → WordAt 0 W v7 R' → Calls Try.prog 21 #[.slice a0 n0 c0, v7] W fun e w' => e = .returned (.bool (sameRows R R')) ∧ Below W.heap.size W w') := fun W v7 hW h7 => sameAllR W _ v7 R R' (hw.below hW) h7 hR hk hk' hn ht
  replace hk' := Lib.hid hk'
  clear hw hw' hR hk ht ht' hn hn'
  generalize sameRows R R' = S at *
  go_enter Try.func20, Try.ntmps20
  go_upto_region 1 with fail
  have hb1 : Below w.heap.size w ((w.alloc (.cells #[.int .u8 s, .slice a0 n0 c0] 40)).alloc (.cells #[.int .u8 s, .slice a1 n1 c1] 40)) := (below_alloc _ _).trans ((below_alloc _ _).mono (by simp))
  have k0 : Blk ((w.alloc (.cells #[.int .u8 s, .slice a0 n0 c0] 40)).alloc (.cells #[.int .u8 s, .slice a1 n1 c1] 40)) w.heap.size #[.int .u8 s, .slice a0 n0 c0] 40 := (Blk.new w _ _).alloc _
  have k1 : Blk ((w.alloc (.cells #[.int .u8 s, .slice a0 n0 c0] 40)).alloc (.cells #[.int .u8 s, .slice a1 n1 c1] 40)) (w.heap.size + 1) #[.int .u8 s, .slice a1 n1 c1] 40 := by
    have := Blk.new (w.alloc (.cells #[.int .u8 s, .slice a0 n0 c0] 40)) #[.int .u8 s, .slice a1 n1 c1] 40
    simpa using this
  generalize (w.alloc (.cells #[.int .u8 s, .slice a0 n0 c0] 40)).alloc (.cells #[.int .u8 s, .slice a1 n1 c1] 40) = w1 at *
  have hcl : ∀ W, Below w1.heap.size w1 W → W.cell? ⟨w.heap.size, 0, none⟩ = some (.int .u8 s) ∧ W.cell? ⟨w.heap.size, 1, none⟩ = some (.slice a0 n0 c0) ∧ W.cell? ⟨w.heap.size + 1, 0, none⟩ = some (.int .u8 s) ∧ W.cell? ⟨w.heap.size + 1, 1, none⟩ = some (.slice a1 n1 c1) := fun W hW =>
    ⟨(k0.below hW k0.lt).cell (i := 0) rfl, (k0.below hW k0.lt).cell (i := 1) rfl, (k1.below hW k1.lt).cell (i := 0) rfl, (k1.below hW k1.lt).cell (i := 1) rfl⟩
  replace hcl := Lib.hid hcl
  replace hb1 := Lib.hid hb1
  clear k0 k1
  have hbd : Below w.heap.size w w1.drew := bdrewN hb1.out 1
  have hbe : Below w1.heap.size w1 w1.drew := below_drewN w1 1
  go_region_held3 (fun W => W.cell? ⟨w.heap.size, 0, none⟩ = some (.int .u8 s) ∧ W.cell? ⟨w.heap.size, 1, none⟩ = some (.slice a0 n0 c0) ∧ W.cell? ⟨w.heap.size + 1, 0, none⟩ = some (.int .u8 s) ∧ W.cell? ⟨w.heap.size + 1, 1, none⟩ = some (.slice a1 n1 c1))
    (first | exact hcl.out _ hbe | exact hcl.out _ (bthen hbe hb7) | exact hcl.out _ (bthen (bthen hbe hb7) hb8))
    (first
      | (go_at_call 22; (with_reducible refine (P1.out _ hbd).mono ?_); rintro e w7 ⟨v7, rfl, hO7, hb7⟩)
      | (go_at_call 21; (with_reducible refine (P2.out _ v7 (bthen hbd hb7) ((hO7.word hk'.out).mono (Nat.zero_le _))).mono ?_); rintro e w8 ⟨rfl, hb8⟩)
      | fail)
  have hbF := bthen (bthen (bdrewN hb1.out 1) hb7) hb8
  go_wp2_with fail
  go_ret
  exact ⟨rfl, hbF⟩
theorem emptyR (w : World) (s : Int) (a : Option Addr) (n c : Nat) :
    Calls Try.prog 19 #[.agg #[.int .u8 s, .slice a n c]] w fun e w' => e = .returned (.bool (decide (s = 0) && decide (n = 0))) ∧ Below w.heap.size w w' := by
  have hb := below_alloc w (.cells #[.int .u8 s, .slice a n c] 40)
  replace hb := Lib.hid hb
  by_cases h : s = 0
  · have e1 : (s == 0) = true := by simp [h]
    have e2 : ((n : Int) == 0) = decide (n = 0) := by
      by_cases h : n = 0
      · simp [h]
      · simp [h]
    subst h
    go_enter Try.func19, Try.ntmps19
    go_wp2_with fail
    go_ret
    exact ⟨by simp, hb.out⟩
  · have e1 : (s == 0) = false := by simp [h]
    have e2 : decide (s = 0) = false := by simp [h]
    rw [e2]
    clear h
    go_enter Try.func19, Try.ntmps19
    go_wp2_with fail
    go_ret
    exact ⟨by simp, hb.out⟩
end Go.Proofs.Ytmdohnbhogfopaa
