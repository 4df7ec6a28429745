/- The book: one list more. -/
import Derived.Test.YtagmbdoajafejaaBookD
namespace Go.Proofs.Ytagmbdoajafejaa
open Go.RowKit
set_option linter.unusedSimpArgs false
set_option linter.unusedVariables false
theorem elemBNums : (Try.prog.info? 41).map (fun i => (i.zero, i.size, i.bytes)) = some (some (.slice none 0 0), 1, 24) := by kernel_rfl
theorem own_blkNums {w : World} {B : Nat} {E : TypeId} {v : Value} {n : Nat} {xs : List Value} (h : w.ownsRow B E 1 v n xs) {k : Nat} (hk : v.ownBlock = some k) : ∃ cur, Blk w k cur E := by
  rcases h.2 with ⟨rfl, _⟩ | ⟨g, cap, cur, rfl, _, hg, _⟩
  · simp [Value.ownBlock] at hk
  · simp [Value.ownBlock] at hk
    subst hk
    exact ⟨cur, hg⟩
theorem own_neNums {w : World} {B B' : Nat} {E E' : TypeId} {v v' : Value} {n n' : Nat} {xs xs' : List Value} (h : w.ownsRow B E 1 v n xs) (h' : w.ownsRow B' E' 1 v' n' xs') (hne : E ≠ E') : v.ownBlock = none ∨ v.ownBlock ≠ v'.ownBlock := by
  cases hv : v.ownBlock with
  | none => exact .inl rfl
  | some k =>
    refine .inr fun e => ?_
    obtain ⟨c, h1⟩ := own_blkNums h hv
    obtain ⟨c', h2⟩ := own_blkNums h' e.symm
    exact h1.ne h2 hne rfl
theorem own_setNums {w : World} {B : Nat} {E T : TypeId} {v : Value} {n : Nat} {xs : List Value} (h : w.ownsRow B E 1 v n xs) {b i : Nat} {c : Array Value} {u : Value} (hb : Blk w b c T) (hne : T ≠ E) : (w.setCell ⟨b, i, none⟩ u).ownsRow B E 1 v n xs := by
  refine ⟨h.1, ?_⟩
  rcases h.2 with h2 | ⟨g, cap, cur, rfl, h2, h3, r⟩
  · exact .inl h2
  · refine .inr ⟨g, cap, cur, rfl, h2, ?_, r⟩
    have hgb : Blk w g cur E := h3
    exact hgb.setNe (by simpa using hgb.ne hb hne.symm) u
set_option maxRecDepth 100000
set_option maxHeartbeats 400000 in
theorem addNums {B : Nat} {w : World} {bK : Nat} {vb vn vs : Value} {lb ln ls : List Item} (h : BookL B w bK vb vn vs lb ln ls) (a : Option Addr) (m : Nat) (hl : ln.length ≤ 1000) :
    Calls Try.prog 19 #[.pointer (some ⟨bK, 0, none⟩), .slice a m m] w fun e w' => e = .returned (.tuple #[]) ∧
      (∃ v', BookL B w' bK vb v' vs lb (ln ++ [(a, m)]) ls) ∧ Below B w w' ∧ w.heap.size ≤ w'.heap.size ∧ ∀ b c T, Blk w b c T → T ≠ 49 → T ≠ 41 → Blk w' b c T := by
  obtain ⟨i0, hi, hz0, hz1, hz2⟩ := info_parts elemBNums
  have c0 := h.blk.cell (i := 1) rfl
  have c3 := h.blk.cell (i := 3) rfl
  have f0 := h.blk.free 1
  have f3 := h.blk.free 3
  have lt := h.blk.lt
  have hB : B ≤ w.heap.size := Nat.le_trans h.le (Nat.le_of_lt lt)
  go_enter Try.func19, Try.ntmps19
  have hown := (own_setNums (i := 3) (u := .bool false) h.nums h.blk (by decide)).alloc (.cells #[.slice a m m] 41)
  have hH := Lib.hid h
  clear h
  go_wp2_with (at_builtin; refine append_src rfl _ _ 34 rfl B 41 i0 (.slice none 0 0) 24 Try.underlying34 hi hz0 hz1 hz2 rfl _ _ _ rfl hown (some ⟨w.heap.size, 0, none⟩) 1 1 [.slice a m m] rfl (by simp) rfl ?q1 ?q2 (by omega) (by omega) (by simp; omega) ?q3)
  case q1 =>
    intro ad had j u hj
    simp only [Option.some.injEq] at had
    subst had
    match j, hj with
    | 0, hj => simp at hj; subst hj; simp [Addr.add, go_sem]
  case q2 => intro u hu; simp at hu; subst hu; rfl
  case q3 =>
    intro v1 w1 hown1 hg1 _
    obtain ⟨g, cap, rfl⟩ : ∃ g cap, v1 = .slice (some ⟨g, 0, none⟩) (ln.length + 1) cap := by
      rcases hown1.2 with ⟨_, h2⟩ | ⟨g, cap, cur, h1, _⟩
      · exact absurd h2 (by omega)
      · exact ⟨g, cap, h1⟩
    have h0 := hH.out
    have hbk := (h0.blk.set 3 (.bool false)).alloc (.cells #[.slice a m m] 41)
    have hkeep : ∀ k c T, Blk (w.setCell ⟨bK, 3, none⟩ (.bool false)) k c T → T ≠ 41 → Blk w1 k c T := fun k c T hk hT => by
      have hk' := hk.alloc (.cells #[.slice a m m] 41)
      refine (hg1.block k hk'.lt (fun e => ?_)).trans hk'
      obtain ⟨c', h3⟩ := own_blkNums hown e.symm
      exact hk'.ne h3 hT rfl
    have hbk1 := hkeep bK _ _ (h0.blk.set 3 (.bool false)) (by decide)
    have e0 := hbk1.cell (i := 1) (v := vn) (by simp)
    have e1 := hbk1.free 1
    have hsz := hg1.size
    simp only [World.size_alloc, World.size_setCell] at hsz
    have hb1 : Below B w w1 := Below.grown (((Below.refl B w).setCell h0.le _).alloc (by simpa using hB) _) hg1 (by simp; omega) (fun k hk => (hown.lt k hk).1)
    clear hown
    go_wp2
    go_end0
    have hbne : ∀ b c T, Blk w b c T → T ≠ 49 → b ≠ bK := fun b c T hb n1 => hb.ne h0.blk n1
    refine ⟨rfl, ⟨.slice (some ⟨g, 0, none⟩) (ln.length + 1) cap, (hbk1.set 1 _).congr (by simp), h0.le, ?_, ?_, ?_⟩, hb1.setCell h0.le _, by simp; omega, fun b c T hb n1 n2 => (hkeep b c T (hb.setNe (hbne b c T hb n1) _) n2).setNe (hbne b c T hb n1) _⟩
    · exact own_setNums (((own_setNums (i := 3) (u := .bool false) h0.bytes h0.blk (by decide)).alloc _).kept hg1 (own_neNums h0.bytes h0.nums (by decide))) hbk1 (by decide)
    · simpa [vals] using own_setNums (i := 1) (u := .slice (some ⟨g, 0, none⟩) (ln.length + 1) cap) hown1 hbk1 (by decide)
    · exact own_setNums (((own_setNums (i := 3) (u := .bool false) h0.syms h0.blk (by decide)).alloc _).kept hg1 (own_neNums h0.syms h0.nums (by decide))) hbk1 (by decide)
end Go.Proofs.Ytagmbdoajafejaa
