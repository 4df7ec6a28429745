/- The book of lists: what its lists are, and what a store into one of them keeps. -/
import Derived.Test.YtagmbdoajafejaaProg
import Derived.Test.YtagmbdoajafejaaRead
namespace Go.Proofs.Ytagmbdoajafejaa
open Go.RowKit
set_option linter.unusedSimpArgs false
set_option linter.unusedVariables false
theorem cell_ne {w : World} {a b : Addr} {v u : Value} (h : a ≠ b) (hb : w.cell? b = some u) : (w.setCell a v).cell? b = some u := (World.cell?_setCell_other w a b v h).trans hb
theorem set_get {c : Array Value} {b : Nat} {v : Value} (h : b < c.size) : (c.setIfInBounds b v)[b]? = some v := by simp [h]
theorem addr_ne_block {b b' o o' : Nat} (h : b ≠ b') : (⟨b, o, none⟩ : Addr) ≠ ⟨b', o', none⟩ := fun e => h (congrArg Addr.block e)
theorem addr_ne_off {b o o' : Nat} (h : o ≠ o') : (⟨b, o, none⟩ : Addr) ≠ ⟨b, o', none⟩ := fun e => h (congrArg Addr.off e)
/-- The mark of list i in a turn. -/
def mk (i t : Nat) : Nat := if t = 0 then i % 200 else i / 200 % 200
theorem mk_lt (i t : Nat) : mk i t < 200 := by unfold mk; split <;> omega
theorem mark_any (i t : Nat) (w : World) (hi : i ≤ 1000000) (ht : t ≤ 1) :
    Calls Try.prog 38 #[.int .i64 i, .int .i64 t] w fun e w' => e = .returned (.int .i64 (mk i t : Nat)) ∧ w = w' := by
  by_cases h0 : t = 0
  · subst h0
    have e0 : ((0 : Int) == 0) = true := rfl
    go_enter Try.func38, Try.ntmps38
    go_wp2
    go_ret
    exact ⟨by simp [mk], rfl⟩
  · have e0 : (((t : Nat) : Int) == 0) = false := by simp; omega
    go_enter Try.func38, Try.ntmps38
    go_wp2
    go_ret
    exact ⟨by simp [mk, h0], rfl⟩
theorem mark_q (i t : Nat) (w : World) (hi : i ≤ 1000000) (ht : t ≤ 1) :
    Calls Try.prog 38 #[.int .i64 i, .int .i64 t] w fun e w' => e = .returned (.int .i64 (mk i t : Nat)) ∧ w' = w :=
  (mark_any i t w hi ht).mono fun _ _ ⟨h1, h2⟩ => ⟨h1, h2.symm⟩
/-- The lists of one kind in a book: list i has M i cells from the beginning of block G i on. -/
def Rows (w : World) (E TS : TypeId) (ao : Option Addr) (n : Nat) (G M : Nat → Nat) : Prop :=
  n ≤ 1000000 ∧ (∀ i, i < n → M i ≤ 1000000000 ∧ ∃ b o A C arr, ao = some ⟨b, o, none⟩ ∧ Blk w b arr TS ∧ arr[o + i]? = some (.slice A (M i) C) ∧
    (0 < M i → A = some ⟨G i, 0, none⟩ ∧ ∃ cur, Blk w (G i) cur E ∧ M i ≤ cur.size)) ∧
  ∀ i j, i < n → j < n → i ≠ j → 0 < M i → 0 < M j → G i ≠ G j
theorem Rows.set {w : World} {E TS E' : TypeId} {ao : Option Addr} {n : Nat} {G M : Nat → Nat} (h : Rows w E TS ao n G M) {g j : Nat} {v : Value} {c : Array Value} (hg : Blk w g c E') (hne : E' ≠ TS) :
    Rows (w.setCell ⟨g, j, none⟩ v) E TS ao n G M := by
  refine ⟨h.1, fun i hi => ?_, h.2.2⟩
  obtain ⟨hm, b, o, A, C, arr, h1, h2, h3, h4⟩ := h.2.1 i hi
  refine ⟨hm, b, o, A, C, arr, h1, h2.setNe (by simpa using (hg.ne h2 hne).symm) v, h3, fun hp => ?_⟩
  obtain ⟨h5, cur, h6, h7⟩ := h4 hp
  by_cases e : G i = g
  · subst e
    exact ⟨h5, _, h6.set j v, by simpa using h7⟩
  · exact ⟨h5, cur, h6.setNe (by simpa using e) v, h7⟩
theorem Rows.drewN {w : World} {E TS : TypeId} {ao : Option Addr} {n : Nat} {G M : Nat → Nat} (h : Rows w E TS ao n G M) (q : Nat) : Rows (w.drewN q) E TS ao n G M := h
theorem Rows.touch {w w' : World} {E TS : TypeId} {ao : Option Addr} {n : Nat} {G M : Nat → Nat} (h : Rows w E TS ao n G M) {S : List Nat} (ht : Touch S w w') (hS : ∀ k ∈ S, ∀ c T, Blk w k c T → T ≠ E ∧ T ≠ TS) : Rows w' E TS ao n G M := by
  refine ⟨h.1, fun i hi => ?_, h.2.2⟩
  obtain ⟨hm, b, o, A, C, arr, h1, h2, h3, h4⟩ := h.2.1 i hi
  refine ⟨hm, b, o, A, C, arr, h1, h2.touch ht (fun hk => (hS b hk _ _ h2).2 rfl), h3, fun hp => ?_⟩
  obtain ⟨h5, cur, h6, h7⟩ := h4 hp
  exact ⟨h5, cur, h6.touch ht (fun hk => (hS _ hk _ _ h6).1 rfl), h7⟩
/-- Up to list i, cell j, each cell bears its list's mark. -/
def Mkd (w : World) (k : IntKind) (n : Nat) (G M : Nat → Nat) (t i j : Nat) : Prop :=
  ∀ a b, a < n → b < M a → (a < i ∨ (a = i ∧ b < j)) → w.cell? ⟨G a, b, none⟩ = some (.int k (mk a t : Nat))
theorem Mkd.zero (w : World) (k : IntKind) (n : Nat) (G M : Nat → Nat) (t : Nat) : Mkd w k n G M t 0 0 := fun a b _ _ h => by omega
theorem Mkd.next {w : World} {k : IntKind} {n : Nat} {G M : Nat → Nat} {t i : Nat} (h : Mkd w k n G M t i (M i)) : Mkd w k n G M t (i + 1) 0 := fun a b ha hb hc => h a b ha hb (by
  rcases hc with hc | hc
  · rcases Nat.lt_or_ge a i with h1 | h1
    · exact .inl h1
    · obtain rfl : a = i := by omega
      exact .inr ⟨rfl, hb⟩
  · omega)
theorem Mkd.drewN {w : World} {k : IntKind} {n : Nat} {G M : Nat → Nat} {t i j : Nat} (h : Mkd w k n G M t i j) (q : Nat) : Mkd (w.drewN q) k n G M t i j := h
theorem Mkd.step {w : World} {k : IntKind} {E TS : TypeId} {ao : Option Addr} {n : Nat} {G M : Nat → Nat} {t i j : Nat} (h : Mkd w k n G M t i j) (hr : Rows w E TS ao n G M) (hi : i < n) (hj : j < M i) :
    Mkd (w.setCell ⟨G i, j, none⟩ (.int k (mk i t : Nat))) k n G M t i (j + 1) := fun a b ha hb hc => by
  obtain ⟨_, _, _, _, _, _, _, _, _, h4⟩ := hr.2.1 i hi
  obtain ⟨_, cur, h6, h7⟩ := h4 (by omega)
  by_cases e : a = i
  · subst e
    by_cases e2 : b = j
    · subst e2
      exact (h6.set b _).cell (set_get (by omega))
    · exact cell_ne (addr_ne_off (fun e => e2 e.symm)) (h a b ha hb (by omega))
  · have hc' : a < i ∨ (a = i ∧ b < j) := by
      rcases hc with hc | hc
      · exact .inl hc
      · exact absurd hc.1 e
    have := h a b ha hb hc'
    have hne := hr.2.2 a i ha hi e (Nat.lt_of_le_of_lt (Nat.zero_le _) hb) (Nat.lt_of_le_of_lt (Nat.zero_le _) hj)
    exact cell_ne (addr_ne_block hne.symm) this
theorem Mkd.set {w : World} {k : IntKind} {E TS E' : TypeId} {ao : Option Addr} {n : Nat} {G M : Nat → Nat} {t i j : Nat} (h : Mkd w k n G M t i j) (hr : Rows w E TS ao n G M) {g q : Nat} {v : Value} {c : Array Value} (hg : Blk w g c E') (hne : E' ≠ E) :
    Mkd (w.setCell ⟨g, q, none⟩ v) k n G M t i j := fun a b ha hb hc => by
  have := h a b ha hb hc
  obtain ⟨_, _, _, _, _, _, _, _, _, h4⟩ := hr.2.1 a ha
  obtain ⟨_, cur, h6, h7⟩ := h4 (by omega)
  have hn := h6.ne hg hne.symm
  exact cell_ne (addr_ne_block hn.symm) this
/-- The blocks of the lists. -/
def blks (n : Nat) (G M : Nat → Nat) : List Nat := ((List.range n).filter fun i => 0 < M i).map G
theorem mem_blks {n : Nat} {G M : Nat → Nat} {i : Nat} (hi : i < n) (hm : 0 < M i) : G i ∈ blks n G M := by
  simp only [blks, List.mem_map, List.mem_filter, List.mem_range, decide_eq_true_eq]
  exact ⟨i, ⟨hi, hm⟩, rfl⟩
end Go.Proofs.Ytagmbdoajafejaa
