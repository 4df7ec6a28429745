/- Bits: Bytes: what it answers. -/
import Derived.Test.YtbfbpagfmhdblaaChunk
import Derived.Test.YtbfbpagfmhdblaaHelpBytes
namespace Go.Proofs.Ytbfbpagfmhdblaa
open Go.RowKit Go.Shelf
set_option linter.unusedSimpArgs false
set_option linter.unusedVariables false
attribute [local go_sem] Oper.semAt_some
/-- Are these symbols those of bytes? -/
def okB (L : Nat → Int) (n : Nat) : Bool := decide (n % 8 = 0) && wholeL L n
/-- As many bytes. -/
def cntB (L : Nat → Int) (n : Nat) : Nat := if okB L n then n / 8 else 0
theorem boxed_kept {A A' : World} {B : Nat} {t : TypeId} {v : Value} {row : Option Nat} (h : Boxed A B t v) (hg : A.grownBy A' row) (hr : ∀ r, row = some r → ∃ o : Obj, A.heap[r]? = some o ∧ o.isCells = false) : Boxed A' B t v :=
  h.kept hg fun e => by
    obtain ⟨o, ho, hc⟩ := hr B e.symm
    rw [show A.heap[B]? = _ from h] at ho
    cases ho
    cases hc
theorem boxed_ne {A : World} {B B' : Nat} {t : TypeId} {v u : Value} (h : Boxed A B t v) (hne : B ≠ B') : Boxed (A.setCell ⟨B', 0, none⟩ u) B t v := (Below.heap_setCell _ _ _ _ hne).trans h
theorem boxed_alloc2 (w : World) (t1 t2 : TypeId) (v1 v2 : Value) : Boxed ((w.alloc (.cells #[v1] t1)).alloc (.cells #[v2] t2)) (w.heap.size + 1) t2 v2 := by
  have := Boxed.new (w.alloc (.cells #[v1] t1)) t2 v2
  simpa using this
/-- The bytes of the symbols that have come. -/
def come (L : Nat → Int) {q : Nat} (pre : List (Upto q)) : List Value := pre.map fun x => .int .u8 (bytesL L x.1)
theorem come_upto (L : Nat → Int) (q : Nat) : come L (upto q q (Nat.le_refl _)) = nums .u8 (bytesL L) q := by
  simp only [come, upto, nums, List.map_map]
  apply List.ext_getElem
  · simp
  · intro i h1 h2
    simp
def wholeB (L : Nat → Int) (x : Nat) : Bool := wholeL (fun i => L (8 * x + i)) 8
theorem whole_all (L : Nat → Int) (q : Nat) (h : ∀ x, x < q → wholeB L x = true) : wholeL L (8 * q) = true := wholeL_iff.2 fun i hi => by
  have := wholeL_iff.1 (h (i / 8) (by omega)) (i % 8) (by omega)
  have e : 8 * (i / 8) + i % 8 = i := by omega
  rw [e] at this
  exact this
theorem whole_one (L : Nat → Int) (q x : Nat) (hx : x < q) (h : wholeB L x = false) : wholeL L (8 * q) = false := by
  obtain ⟨i, hi, h1, h2⟩ := wholeL_false.1 h
  exact wholeL_false.2 ⟨8 * x + i, by omega, h1, h2⟩
theorem num_chunk (L : Nat → Int) (x : Nat) : numR (fun i => L (8 * x + i)) 8 = if wholeB L x then (bytesL L x, true) else (0, false) := by
  unfold numR wholeB bytesL
  by_cases h : wholeL (fun i => L (8 * x + i)) 8 = true <;> simp [h]
theorem Rd.sub' {k : IntKind} {w : World} {b o n : Nat} {L : Nat → Int} (h : Rd k w (some ⟨b, o, none⟩) n L) (p m : Nat) (hpm : p + m ≤ n) : Rd k w (some ⟨b, o + p, none⟩) m (fun i => L (p + i)) := fun i hi => by
  obtain ⟨b', o', h1, h2⟩ := h (p + i) (by omega)
  simp only [Option.some.injEq, Addr.mk.injEq, and_true] at h1
  obtain ⟨rfl, rfl⟩ := h1
  exact ⟨b, o + p, rfl, by rw [Nat.add_assoc]; exact h2⟩
/-- What holds between two rounds. -/
def InvBytes (w : World) (B : Nat) (ao : Option Addr) (n c : Nat) (L : Nat → Int) {q : Nat} (pre : List (Upto q)) (W : World) : Prop :=
  (∀ x ∈ pre, wholeB L x.1 = true) ∧ Boxed W B 29 (.slice none 0 0) ∧ Boxed W (B + 1) 4 (.bool false) ∧ Boxed W (B + 3) 40 (.slice ao n c) ∧ Boxed W (B + 4) 3 (.int .i64 8) ∧
    ∃ v, Boxed W (B + 2) 29 v ∧ W.ownsRow B 5 1 v pre.length (come L pre) ∧ True
def OutBytes (B : Nat) (L : Nat → Int) (n : Nat) (cd : Code) {q : Nat} (pre : List (Upto q)) (W : World) : Prop :=
  cd = .ret ∧ wholeL L n = false ∧ Boxed W B 29 (.slice none 0 0) ∧ Boxed W (B + 1) 4 (.bool false)
theorem invBytes_own (w : World) (B : Nat) (ao : Option Addr) (n c : Nat) (L : Nat → Int) (q : Nat) : Own (fun (pre : List (Upto q)) W => InvBytes w B ao n c L pre W) := fun s A A' row hs hg hr =>
  ⟨hs.1, boxed_kept hs.2.1 hg hr, boxed_kept hs.2.2.1 hg hr, boxed_kept hs.2.2.2.1 hg hr, boxed_kept hs.2.2.2.2.1 hg hr,
    holdsRow_own B (B + 2) 29 5 1 (fun pre : List (Upto q) => pre.length) (fun pre => come L pre) (fun _ _ => True) s A A' row hs.2.2.2.2.2 hg hr⟩
theorem outBytes_own (B : Nat) (L : Nat → Int) (n : Nat) (cd : Code) (q : Nat) : Own (fun (pre : List (Upto q)) W => OutBytes B L n cd pre W) := fun s A A' row hs hg hr =>
  ⟨hs.1, hs.2.1, boxed_kept hs.2.2.1 hg hr, boxed_kept hs.2.2.2 hg hr⟩
theorem clipBytes (w : World) (a : Option Addr) (n c : Nat) (hn : n ≤ c) (hc : c ≤ 9223372036854775807) :
    Calls Try.prog 86 #[.slice a n c] w fun e w' => e = .returned (.slice a n n) ∧ w = w' := by
  go_enter Try.func86, Try.ntmps86
  go_wp2
  go_ret
  exact ⟨rfl, rfl⟩
set_option maxHeartbeats 1000000 in
theorem bitsBytes_odd (w : World) (ao : Option Addr) (n c : Nat) (h8 : n % 8 ≠ 0) (hn : n ≤ 1000000) :
    Calls Try.prog 70 #[.slice ao n c] w fun e w' => e = .returned (.tuple #[.slice none 0 0, .bool false]) ∧ Below w.heap.size w w' := by
  have hmod : (((n : Nat) : Int) % 8 != 0) = true := by simp; omega
  clear h8
  go_enter Try.func70, Try.ntmps70
  go_wp2
  refine bodyPost_ret (v := .tuple #[.slice none 0 0, .bool false]) (by simp [results, Try.results70, go_sem]) rfl ⟨rfl, ?_⟩
  exact (below_alloc w _).alloc (by simp) _
set_option maxRecDepth 100000 in
set_option maxHeartbeats 2000000 in
theorem bitsBytes_8 (w : World) (ao : Option Addr) (q c : Nat) (L : Nat → Int) (ha : Rd .u8 w ao (8 * q) L) (hnil : NilOk ao (8 * q) c) (hq : q ≤ 100000) :
    Calls Try.prog 70 #[.slice ao (8 * q) c] w fun e w' => ∃ a, e = .returned (.tuple #[.slice a (cntB L (8 * q)) (cntB L (8 * q)), .bool (okB L (8 * q))]) ∧ Mine .u8 5 w.heap.size w' a (cntB L (8 * q)) (bytesL L) ∧ Below w.heap.size w w' := by
  obtain ⟨i0, hf0, hz0, hz1, hz2⟩ := info_parts elemHBytes
  have hao : 0 < q → ∃ b o, ao = some ⟨b, o, none⟩ := fun h => by
    obtain ⟨b, o, h1, _⟩ := ha 0 (by omega)
    exact ⟨b, o, h1⟩
  have hcq : 8 * q ≤ c := hnil.1
  have hc63 := hnil.2.1
  replace ha := Lib.hid ha
  have hmod : (((8 * q : Nat) : Int) % 8 != 0) = false := by simp
  have hne : (8 * q) % 8 = 0 := by omega
  clear hnil
  refine (callsIn_wide (n := 3)).1 ?_
  refine callsIn_of_wp_marks Try.func70 rfl trivial ?_ rfl
  simp only [Try.ntmps70, List.size_toArray, List.length_cons, List.length_nil, Nat.reduceAdd, Nat.reduceSub, Array.replicate_succ, Array.replicate_zero, List.push_toArray, List.append_toArray, List.nil_append, List.cons_append]
  gi_wp2_with fail
  refine ⟨trivial, ?_⟩
  refine (chunk_in Fence.wide _ trivial rfl _ _ _ _).mono ?_
  rintro e w' ⟨rfl, rfl⟩
  have hW : ∃ W0 : World, ((((w.alloc (.cells #[.slice none 0 0] 29)).alloc (.cells #[.bool false] 4)).alloc (.cells #[.slice none 0 0] 29)).alloc (.cells #[.slice ao (8 * q) c] 40)).alloc (.cells #[.int .i64 8] 3) = W0 ∧
      Below w.heap.size w W0 ∧ W0.heap.size = w.heap.size + 5 ∧ Boxed W0 w.heap.size 29 (.slice none 0 0) ∧ Boxed W0 (w.heap.size + 1) 4 (.bool false) ∧ Boxed W0 (w.heap.size + 2) 29 (.slice none 0 0) ∧ Boxed W0 (w.heap.size + 3) 40 (.slice ao (8 * q) c) ∧ Boxed W0 (w.heap.size + 4) 3 (.int .i64 8) := by
    refine ⟨_, rfl, ((((below_alloc w _).alloc (by simp) _).alloc (by simp; omega) _).alloc (by simp; omega) _).alloc (by simp; omega) _, by simp, ?_, ?_, ?_, ?_, ?_⟩
    · exact ((((Boxed.new w _ _).alloc _).alloc _).alloc _).alloc _
    · exact (((boxed_alloc2 w _ _ _ _).alloc _).alloc _).alloc _
    · have := Boxed.new ((w.alloc (.cells #[.slice none 0 0] 29)).alloc (.cells #[.bool false] 4)) 29 (.slice none 0 0)
      simp only [World.size_alloc] at this
      exact (this.alloc _).alloc _
    · have := Boxed.new (((w.alloc (.cells #[.slice none 0 0] 29)).alloc (.cells #[.bool false] 4)).alloc (.cells #[.slice none 0 0] 29)) 40 (.slice ao (8 * q) c)
      simp only [World.size_alloc] at this
      exact this.alloc _
    · have := Boxed.new ((((w.alloc (.cells #[.slice none 0 0] 29)).alloc (.cells #[.bool false] 4)).alloc (.cells #[.slice none 0 0] 29)).alloc (.cells #[.slice ao (8 * q) c] 40)) 3 (.int .i64 8)
      simp only [World.size_alloc] at this
      exact this
  simp only [World.size_alloc] at hW ⊢
  obtain ⟨W0, hW0, hb, hsz, x0, x1, x2, x3, x4⟩ := hW
  rw [hW0]
  clear hW0
  have hs0 : w.heap.size + 5 ≤ W0.heap.size := by omega
  clear hsz
  gi_wp2
  refine wpIn_rangeFunc_ownF rfl (by omega) (gf := 101) (lb := #[.pointer (some ⟨w.heap.size + 3, 0, none⟩), .pointer (some ⟨w.heap.size + 4, 0, none⟩)]) rfl trivial (enters_of Try.func101 (by kernel_rfl) rfl)
    (chunk_stops Fence.wide _ trivial rfl (by omega) (w.heap.size + 3) (w.heap.size + 4) ao q c hao hcq hc63 (by omega) W0 (by omega) (by omega) x3.cell x4.cell) Keep2.trans (keep2_b (by omega) (by omega)) (Below.refl _ _) (fun _ => rfl)
    (fun pre W => InvBytes w w.heap.size ao (8 * q) c L pre W ∧ Below w.heap.size w W)
    (fun cd pre W => OutBytes w.heap.size L (8 * q) cd pre W ∧ Below w.heap.size w W)
    (OwnFrom.and (Own.from (invBytes_own w w.heap.size ao (8 * q) c L q) _) (ownFrom_below (Nat.le_refl _) (by omega)))
    (fun cd => OwnFrom.and (Own.from (outBytes_own w.heap.size L (8 * q) cd q) _) (ownFrom_below (Nat.le_refl _) (by omega)))
    ⟨⟨by simp, x0, x1, x3, x4, _, x2, World.ownsRow_nil _ _ _ _, trivial⟩, hb⟩
    (fun x => { tmps := #[.slice ao (8 * q) c, undef, .pointer (some ⟨w.heap.size, 0, none⟩), .pointer (some ⟨w.heap.size + 1, 0, none⟩), .pointer (some ⟨w.heap.size + 1 + 1, 0, none⟩), .slice (chA ao x.1) 8 8, undef, undef, .slice ao (8 * q) c, .int .i64 (8 * (q : Int)), .int .i64 0, .bool false, .slice ao (8 * q) c,
      .func (.func 101) #[] #[.pointer (some ⟨w.heap.size + 3, 0, none⟩), .pointer (some ⟨w.heap.size + 4, 0, none⟩)], .slice (chA ao x.1) 8 8, undef, undef, undef, undef, undef, undef, undef, undef, undef, undef, undef, undef, undef, undef], defers := [] }) ?assign ?body ?done ?stop
  case assign =>
    intro l x W K hK
    gi_wp2
    exact hK
  case body =>
    rintro l pre x W ⟨⟨hp, y0, y1, y3, y4, v, y2, hrow, _⟩, hB⟩ hlt
    obtain ⟨b, o, rfl⟩ := hao (by omega)
    have hxq := x.2
    have c0 := y0.cell
    have c1 := y1.cell
    have c2 : W.cell? ⟨w.heap.size + 1 + 1, 0, none⟩ = some v := y2.cell
    have f0 := y0.frozen
    have f1 := y1.frozen
    have f2 : W.frozen? ⟨w.heap.size + 1 + 1, 0, none⟩ = false := y2.frozen
    have hsub := (ha.out.below hB (Nat.le_refl _)).sub' (8 * x.1) 8 (by omega)
    have hnum := num_chunk L x.1
    replace hsub := Lib.hid hsub
    have hch : chA (some ⟨b, o, none⟩) x.1 = some ⟨b, o + 8 * x.1, none⟩ := rfl
    have hS := hB.size
    gi_wp2_with fail
    refine ⟨trivial, ?_⟩
    rw [hch]
    refine (CallsIn.inRound l (callsIn_wide.2 (bitsNum W _ 8 8 _ hsub.out (by omega)))).mono ?_
    rintro e _ ⟨rfl, rfl⟩
    rw [hnum]
    clear hsub hnum
    by_cases hw : wholeB L x.1 = true
    · rw [if_pos hw]
      have hbd : 0 ≤ bytesL L x.1 ∧ bytesL L x.1 < 256 := by
        have := numL_bd hw
        unfold bytesL
        exact ⟨this.1, by have h2 := this.2; have : ((2 : Int) ^ 8) = 256 := by decide
                          omega⟩
      have hw8 : IntKind.u8.wrap (bytesL L x.1) = bytesL L x.1 := by rw [IntKind.wrap_u8]; omega
      have hall : ∀ y ∈ pre ++ [x], wholeB L y.1 = true := fun y hy => (List.mem_append.1 hy).elim (hp y) (fun e => by simp at e; subst e; exact hw)
      have hcome : come L (pre ++ [x]) = come L pre ++ [.int .u8 (bytesL L x.1)] := by simp [come]
      replace hall := Lib.hid hall
      replace hp := Lib.hid hp
      replace hw := Lib.hid hw
      replace hcome := Lib.hid hcome
      generalize bytesL L x.1 = t at *
      gi_wp2_with (gi_at_builtin; refine wpListIn_append_own _ rfl _ _ 29 rfl w.heap.size 5 i0 (.int .u8 0) 1 1 Try.underlying29 hf0 hz0 hz1 hz2 rfl (by decide) _ _ _ rfl (hrow.alloc _) ⟨W.heap.size, 0, none⟩ 1 1 [.int .u8 t] rfl rfl (cell_one_new _ _ _) (by simp [Value.oneCell']) (by unfold maxLen; omega) (by omega) (by simp; omega) ?_; intro v' w1 hown' hgrow _; obtain ⟨g', cap', rfl⟩ := ownsRow_succ hown'; obtain ⟨hv1, hv2, hr2, hk2, hb2⟩ := y2.appended (by decide) hrow hS (by omega) hown' hgrow; have hc1 : w1.cell? ⟨w.heap.size + 1 + 1, 0, none⟩ = some v := hv1.cell; have hf1 : w1.frozen? ⟨w.heap.size + 1 + 1, 0, none⟩ = false := hv1.frozen)
      have k0 := boxed_ne (B' := w.heap.size + 2) (u := .slice (some ⟨g', 0, none⟩) (pre.length + 1) cap') ((y0.alloc (.cells #[.int .u8 t] 5)).kept hgrow ((y0.alloc (.cells #[.int .u8 t] 5)).not_row (by decide) (hrow.alloc _))) (by omega)
      have k1 := boxed_ne (B' := w.heap.size + 2) (u := .slice (some ⟨g', 0, none⟩) (pre.length + 1) cap') ((y1.alloc (.cells #[.int .u8 t] 5)).kept hgrow ((y1.alloc (.cells #[.int .u8 t] 5)).not_row (by decide) (hrow.alloc _))) (by omega)
      have k3 := boxed_ne (B' := w.heap.size + 2) (u := .slice (some ⟨g', 0, none⟩) (pre.length + 1) cap') ((y3.alloc (.cells #[.int .u8 t] 5)).kept hgrow ((y3.alloc (.cells #[.int .u8 t] 5)).not_row (by decide) (hrow.alloc _))) (by omega)
      have k4 := boxed_ne (B' := w.heap.size + 2) (u := .slice (some ⟨g', 0, none⟩) (pre.length + 1) cap') ((y4.alloc (.cells #[.int .u8 t] 5)).kept hgrow ((y4.alloc (.cells #[.int .u8 t] 5)).not_row (by decide) (hrow.alloc _))) (by omega)
      exact ⟨hk2, ⟨k3.trans (Eq.symm y3), k4.trans (Eq.symm y4)⟩, ⟨hall.out, k0, k1, k3, k4, _, hv2, by rw [hcome.out, List.length_append]; exact hr2, trivial⟩, hB.trans hb2⟩
    · rw [if_neg hw]
      have hwf := whole_one L q x.1 hxq (by simpa using hw)
      replace hwf := Lib.hid hwf
      clear hw
      gi_wp2
      exact ⟨(KeepsOthers.setCell _ _ _).trans (KeepsOthers.setCell _ _ _), ⟨rfl, hwf.out, boxed_ne (y0.set _) (by omega), (boxed_ne y1 (by omega)).set _⟩, (hB.setCell (p := ⟨w.heap.size, 0, none⟩) (Nat.le_refl _) _).setCell (p := ⟨w.heap.size + 1, 0, none⟩) (by show w.heap.size ≤ w.heap.size + 1; omega) _⟩
  case done =>
    rintro D xs W hD rfl ⟨⟨hp, y0, y1, y3, y4, v, y2, hrow, _⟩, hB⟩ hK
    have hwh : wholeL L (8 * q) = true := whole_all L q fun x hx => hp ⟨x, hx⟩ (by simp [upto]; exact ⟨⟨x, hx⟩, rfl⟩)
    have hok : okB L (8 * q) = true := by simp [okB, hwh]
    have hcn : cntB L (8 * q) = q := by simp [cntB, hok]
    rw [come_upto, upto_length] at hrow
    obtain ⟨al, cl, rfl, q1, q2, q3, hmine⟩ := own_mine hrow
    have c0 := y0.cell
    have c1 := y1.cell
    have c2 : W.cell? ⟨w.heap.size + 1 + 1, 0, none⟩ = some (.slice al q cl) := y2.cell
    have f0 := y0.frozen
    have f1 := y1.frozen
    replace hok := Lib.hid hok
    replace hcn := Lib.hid hcn
    have hmine' := Lib.hid hmine
    clear hp hrow hmine q3 hwh
    gi_wp2
    refine ⟨trivial, ?_⟩
    refine (callsIn_wide.2 (clipBytes W al q cl q1 q2)).mono ?_
    rintro e _ ⟨rfl, rfl⟩
    gi_wp2
    have hKo : KeepsOthers W ((W.setCell ⟨w.heap.size, 0, none⟩ (.slice al q q)).setCell ⟨w.heap.size + 1, 0, none⟩ (.bool true)) := (KeepsOthers.setCell _ _ _).trans (KeepsOthers.setCell _ _ _)
    have hK' := hKo.same D _ hK rfl
    have hb' : Below w.heap.size w ((W.setCell ⟨w.heap.size, 0, none⟩ (.slice al q q)).setCell ⟨w.heap.size + 1, 0, none⟩ (.bool true)) := (hB.setCell (p := ⟨w.heap.size, 0, none⟩) (Nat.le_refl _) _).setCell (p := ⟨w.heap.size + 1, 0, none⟩) (by show w.heap.size ≤ w.heap.size + 1; omega) _
    refine ⟨by simp, .inl ⟨_, _, rfl, run_takeDeferred hK', ?_⟩⟩
    have z0 := boxed_kept (boxed_ne (B' := w.heap.size + 1) (u := .bool true) (y0.set (.slice al q q)) (by omega)) (grownBy_putObj' _ D (.deferred none)) (fun r e => by cases e; exact ⟨_, hK', rfl⟩)
    have z1 := boxed_kept ((boxed_ne (B' := w.heap.size) (u := .slice al q q) y1 (by omega)).set (.bool true)) (grownBy_putObj' _ D (.deferred none)) (fun r e => by cases e; exact ⟨_, hK', rfl⟩)
    refine ⟨.tuple #[.slice al q q, .bool true], ?_, al, by rw [hok.out, hcn.out], ?_, hb'.trans (belowK_b (w := w) (Nat.le_refl _) _ D _ _ (by omega) hK' rfl rfl)⟩
    · simp [results, Try.results70, go_sem, z0.cell, z1.cell]
    · rw [hcn.out]
      intro h0
      obtain ⟨g, cur, e1, e2, e3, e4, e5⟩ := hmine'.out h0
      have n0 : g ≠ w.heap.size := by
        rintro rfl
        have := (show W.heap[w.heap.size]? = _ from y0).symm.trans e3
        simp at this
      have n1 : g ≠ w.heap.size + 1 := by
        rintro rfl
        have := (show W.heap[w.heap.size + 1]? = _ from y1).symm.trans e3
        simp at this
      have nD : g ≠ D := by
        rintro rfl
        have := hK.symm.trans e3
        simp at this
      refine ⟨g, cur, e1, e2, ?_, e4, e5⟩
      exact (World.putObj_heap_other (by omega)).trans ((e3.setNe (a := ⟨w.heap.size, 0, none⟩) n0 _).setNe (a := ⟨w.heap.size + 1, 0, none⟩) n1 _)
  case stop =>
    rintro D cd pre W hD _ ⟨⟨rfl, hwf, y0, y1⟩, hB⟩ hK
    have hok : okB L (8 * q) = false := by simp [okB, hwf]
    have hcn : cntB L (8 * q) = 0 := by simp [cntB, hok]
    gi_wp2
    refine ⟨by simp, .inl ⟨_, _, rfl, run_takeDeferred hK, ?_⟩⟩
    have z0 := boxed_kept y0 (grownBy_putObj' _ D (.deferred none)) (fun r e => by cases e; exact ⟨_, hK, rfl⟩)
    have z1 := boxed_kept y1 (grownBy_putObj' _ D (.deferred none)) (fun r e => by cases e; exact ⟨_, hK, rfl⟩)
    refine ⟨.tuple #[.slice none 0 0, .bool false], ?_, none, by rw [hok, hcn], by rw [hcn]; exact Mine.nil _ _ _ _ _ _, hB.trans (belowK_b (w := w) (Nat.le_refl _) W D _ _ (by omega) hK rfl rfl)⟩
    simp [results, Try.results70, go_sem, z0.cell, z1.cell]
theorem bitsBytes (w : World) (ao : Option Addr) (n c : Nat) (L : Nat → Int) (ha : Rd .u8 w ao n L) (hnil : NilOk ao n c) (hn : n ≤ 800000) :
    Calls Try.prog 70 #[.slice ao n c] w fun e w' => ∃ a, e = .returned (.tuple #[.slice a (cntB L n) (cntB L n), .bool (okB L n)]) ∧ Mine .u8 5 w.heap.size w' a (cntB L n) (bytesL L) ∧ Below w.heap.size w w' := by
  by_cases h8 : n % 8 = 0
  · obtain ⟨q, rfl⟩ : ∃ q, n = 8 * q := ⟨n / 8, by omega⟩
    exact bitsBytes_8 w ao q c L ha hnil (by omega)
  · refine (bitsBytes_odd w ao n c h8 (by omega)).mono ?_
    rintro e w' ⟨rfl, hb⟩
    have hok : okB L n = false := by simp [okB, h8]
    have hcn : cntB L n = 0 := by simp [cntB, hok]
    exact ⟨none, by rw [hok, hcn], by rw [hcn]; exact Mine.nil _ _ _ _ _ _, hb⟩
end Go.Proofs.Ytbfbpagfmhdblaa
