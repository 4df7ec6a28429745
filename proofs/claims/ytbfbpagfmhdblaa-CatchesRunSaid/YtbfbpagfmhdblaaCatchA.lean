/- Catches: what a catch's block holds; New, known, of, Had, Unlike, first, last. -/
import Derived.Test.YtbfbpagfmhdblaaFramesL
import Derived.Test.YtbfbpagfmhdblaaSpec09
import Derived.Deep.AppendLies
import Derived.Laws.EntriesVeiled
namespace Go.Proofs.Ytbfbpagfmhdblaa
open Go.RowKit
set_option linter.unusedSimpArgs false
set_option linter.unusedVariables false
set_option maxRecDepth 100000
/-- What takes the next pair. -/
def firstF (b : Nat) : Value := .func (.func 76) #[.pointer (some ⟨b, 0, none⟩)] #[]
def tailF (b : Nat) : Value := .func (.func 97) #[.pointer (some ⟨b, 0, none⟩)] #[]
def lastF (b : Nat) : Value := .func (.func 102) #[.pointer (some ⟨b, 0, none⟩)] #[]
/-- A catch's eight cells. -/
def Ct (w : World) (b : Nat) (o : Int) (nx v : Value) (had un : Int) (cut wh hi : Bool) : Prop :=
  Blk w b #[.int .i64 o, nx, v, .int .i64 had, .int .i64 un, .bool cut, .bool wh, .bool hi] 102
theorem Ct.cells {w : World} {b : Nat} {o : Int} {nx v : Value} {had un : Int} {cut wh hi : Bool} (h : Ct w b o nx v had un cut wh hi) :
    (w.cell? ⟨b, 0, none⟩ = some (.int .i64 o) ∧ w.cell? ⟨b, 1, none⟩ = some nx ∧ w.cell? ⟨b, 2, none⟩ = some v ∧ w.cell? ⟨b, 3, none⟩ = some (.int .i64 had) ∧ w.cell? ⟨b, 4, none⟩ = some (.int .i64 un) ∧ w.cell? ⟨b, 5, none⟩ = some (.bool cut) ∧ w.cell? ⟨b, 6, none⟩ = some (.bool wh) ∧ w.cell? ⟨b, 7, none⟩ = some (.bool hi)) ∧
    (w.frozen? ⟨b, 1, none⟩ = false ∧ w.frozen? ⟨b, 2, none⟩ = false ∧ w.frozen? ⟨b, 3, none⟩ = false ∧ w.frozen? ⟨b, 4, none⟩ = false ∧ w.frozen? ⟨b, 5, none⟩ = false ∧ w.frozen? ⟨b, 6, none⟩ = false ∧ w.frozen? ⟨b, 7, none⟩ = false) ∧ b < w.heap.size :=
  ⟨⟨Blk.cell h (i := 0) rfl, Blk.cell h (i := 1) rfl, Blk.cell h (i := 2) rfl, Blk.cell h (i := 3) rfl, Blk.cell h (i := 4) rfl, Blk.cell h (i := 5) rfl, Blk.cell h (i := 6) rfl, Blk.cell h (i := 7) rfl⟩, ⟨Blk.free h 1, Blk.free h 2, Blk.free h 3, Blk.free h 4, Blk.free h 5, Blk.free h 6, Blk.free h 7⟩, Blk.lt h⟩
/-- The blocks that a catch has. -/
def catchS (b : Nat) (v : Value) : List Nat := b :: v.ownBlock.toList
theorem catchS_mem {b k : Nat} {v : Value} : k ∈ catchS b v ↔ k = b ∨ v.ownBlock = some k := by
  simp [catchS]
theorem Touch.grown {S : List Nat} {a w w' : World} {r : Option Nat} (h : Touch S a w) (hg : w.grownBy w' r) (hr : ∀ k, r = some k → k ∈ S ∨ a.heap.size ≤ k) : Touch S a w' :=
  ⟨hg.os.trans h.os, hg.tape.trans h.tape, hg.output.trans h.output, Nat.le_trans h.size hg.size, fun k hk hn => by
    rw [hg.block k (Nat.lt_of_lt_of_le hk h.size) (fun e => (hr k e.symm).elim hn (fun h => by omega))]
    exact h.block k hk hn⟩
theorem Blk.grown {w w' : World} {r : Option Nat} {b : Nat} {c : Array Value} {t : TypeId} (h : Blk w b c t) (hg : w.grownBy w' r) (hr : some b ≠ r) : Blk w' b c t :=
  (hg.block b h.lt hr).trans h
theorem own_setNe {w : World} {B n : Nat} {e : TypeId} {v : Value} {xs : List Value} (h : w.ownsRow B e 1 v n xs) {a : Addr} (hne : v.ownBlock ≠ some a.block) (u : Value) : (w.setCell a u).ownsRow B e 1 v n xs := by
  refine h.kept (row := some a.block) ⟨rfl, rfl, rfl, by simp [World.setCell], fun k hk hn => Below.heap_setCell _ _ _ _ (fun e => hn (by rw [e]))⟩ (.inr hne)
theorem own_touch {S : List Nat} {w w' : World} {B n : Nat} {e : TypeId} {v : Value} {xs : List Value} (h : w.ownsRow B e 1 v n xs) (ht : Touch S w w') (hn : ∀ k, v.ownBlock = some k → k ∉ S) : w'.ownsRow B e 1 v n xs := by
  refine ⟨h.1, ?_⟩
  rcases h.2 with h2 | ⟨g, cap, cur, rfl, h3, h4, h5⟩
  · exact .inl h2
  · refine .inr ⟨g, cap, cur, rfl, h3, ?_, h5⟩
    rw [ht.block g (Array.getElem?_eq_some_iff.1 h4).1 (hn g rfl)]
    exact h4
theorem own_ne {w : World} {B n b : Nat} {e t : TypeId} {v : Value} {xs : List Value} {c : Array Value} (h : w.ownsRow B e 1 v n xs) (hb : Blk w b c t) (hne : e ≠ t) : v.ownBlock ≠ some b := by
  rcases h.2 with ⟨rfl, _⟩ | ⟨g, cap, cur, rfl, h3, h4, h5⟩
  · simp [Value.ownBlock]
  · intro e1
    simp only [Value.ownBlock, Option.some.injEq] at e1
    exact (Blk.ne (show Blk w g cur e from h4) hb hne) e1
/-- One value more behind a list of the call's own, and where it lies. -/
theorem append_at {P : Program} {W : World} {ops : Array Oper} {rest : List Oper} {o : Oper} {a : Act} {Q : Exit → Act → World → Prop} (hgd : o.guard = none) (s x : Operand) (t : TypeId)
    (ho : o.op = .call { callee := .builtin .append, args := #[s, x], argTypes := #[t, t] })
    (e : TypeId) (i : TypeInfo) (z : Value) (bytes : Nat) (ht : P.underlying t = some (.slice e)) (hi : P.info? e = some i) (hz : i.zero = some z)
    (hsize : i.size = 1) (hby : i.bytes = bytes) (hzs : z.cells.size = 1)
    (v : Value) (n : Nat) (xs : List Value) (hs : a.eval s = v) (hown : W.ownsRow 0 e 1 v n xs) (u : Value) (H : Nat) (hH : W.heap.size = H) (hx : a.eval x = .slice (some ⟨H, 0, none⟩) 1 1) (hu : u.oneCell' = true)
    (hn : n ≤ 1000000000) (hbytes : bytes ≤ 1000)
    (h : ∀ g c w', w'.ownsRow 0 e 1 (.slice (some ⟨g, 0, none⟩) (n + 1) c) (n + 1) (xs ++ [u]) → W.grownBy w' v.ownBlock → (v.ownBlock = some g ∨ W.heap.size ≤ g) → wpList P ops Q rest (a.put o.dst (.slice (some ⟨g, 0, none⟩) (n + 1) c)) w') :
    wpList P ops Q (o :: rest) a (W.alloc (.cells #[u] e)) := by
  subst hH
  refine wpList_append_lies (w := W.alloc (.cells #[u] e)) hgd s x t ho 0 e i z 1 bytes ht hi hz hsize hby hzs (by omega) v n xs hs (hown.alloc _) ⟨W.heap.size, 0, none⟩ 1 1 [u] hx rfl ?_ ?_ (by omega) (by unfold maxLen; omega) ?_ (Nat.zero_le _) (W.heap.size + 1) (by simp) ?_
  · intro j y hj
    match j, hj with
    | 0, hj => simp at hj; subst hj; simp [Addr.add, go_sem]
  · intro y hy
    simp at hy
    subst hy
    exact hu
  · have : (n + 1) * bytes ≤ 1000000001 * 1000 := Nat.mul_le_mul (by omega) hbytes
    omega
  · intro g c w' h1 h2 h3 _
    exact h g c w' h1 (grown_alloc h2) (h3.imp id (fun e => by omega))
theorem wholeL_one (x : Int) : wholeL (litL [x]) 1 = decide (x = 1 ∨ x = 2) := by
  simp [wholeL, litL]
  rfl
theorem catchKnown (w : World) (x : Int) : Calls Try.prog 77 #[.int .u8 x] w fun e w' => e = .returned (.int .u8 (knownI x)) ∧ Below w.heap.size w w' := by
  have C := Lib.hid (fun W : World => bitsWhole (W.alloc (.cells #[.int .u8 x] 77)) (some ⟨W.heap.size, 0, none⟩) 1 1 (litL [x]) (rdLit .u8 77 W [x]) (by omega))
  go_enter Try.func77, Try.ntmps77
  go_wp2_with fail
  refine (C.out _).mono ?_
  rintro e w1 ⟨rfl, rfl⟩
  rw [wholeL_one]
  by_cases h : x = 1 ∨ x = 2
  · rw [decide_eq_true h]
    have e1 : Hid (knownI x = x) := by show knownI x = x; simp [knownI, h]
    clear h
    go_wp2
    go_ret
    exact ⟨by rw [e1.out]; rfl, below_alloc _ _⟩
  · rw [decide_eq_false h]
    have e1 : Hid (knownI x = 0) := by show knownI x = 0; simp [knownI, h]
    clear h
    go_wp2
    go_ret
    exact ⟨by rw [e1.out]; rfl, below_alloc _ _⟩
theorem catchOf (w : World) (b : Bool) : Calls Try.prog 103 #[.bool b] w fun e w' => e = .returned (.int .u8 (if b then 2 else 1)) ∧ w = w' := by
  cases b
  all_goals
    go_enter Try.func103, Try.ntmps103
    go_wp2
    go_ret
    exact ⟨rfl, rfl⟩
theorem catchNew (w : World) (o : Int) (ho : 0 ≤ o ∧ o < 8) : Calls Try.prog 42 #[.int .i64 o] w fun e w' => ∃ b, e = .returned (.tuple #[.pointer (some ⟨b, 0, none⟩), .int .i64 0]) ∧ Ct w' b o (firstF b) (.slice none 0 0) 0 (-1) false false false ∧ w.heap.size ≤ b ∧ Below w.heap.size w w' := by
  have h1 : (o < 0) = False := by simp; omega
  have h2 : (8 ≤ o) = False := by simp; omega
  go_enter Try.func42, Try.ntmps42
  go_wp2
  go_ret2
  exact ⟨_, rfl, Blk.new _ _ _, Nat.le_refl _, below_alloc _ _⟩
theorem catchNewNo (w : World) (o : Int) (ho : ¬ (0 ≤ o ∧ o < 8)) : Calls Try.prog 42 #[.int .i64 o] w fun e w' => e = .returned (.tuple #[.pointer none, .int .i64 1]) ∧ w = w' := by
  by_cases h : o < 0
  · go_enter Try.func42, Try.ntmps42
    go_wp2
    go_ret2
    exact ⟨rfl, rfl⟩
  · have h2 : (8 ≤ o) := by omega
    go_enter Try.func42, Try.ntmps42
    go_wp2
    go_ret2
    exact ⟨rfl, rfl⟩
theorem catchHad (w : World) (b : Nat) (o : Int) (nx v : Value) (had un : Int) (cut wh hi : Bool) (h : Ct w b o nx v had un cut wh hi) :
    Calls Try.prog 47 #[.pointer (some ⟨b, 0, none⟩)] w fun e w' => e = .returned (.int .i64 had) ∧ w = w' := by
  obtain ⟨⟨c0, c1, c2, c3, c4, c5, c6, c7⟩, _, hlt⟩ := h.cells
  clear h
  go_enter Try.func47, Try.ntmps47
  go_wp2
  go_ret
  exact ⟨rfl, rfl⟩
theorem eql_func (f : Fn) (c k : Array Value) : ∀ W, (binOp .eql 92 (.func f c k) .nilFunc).run Try.prog W = .ok (.bool false) W := fun _ => by kernel_rfl
theorem eql_nilFunc : ∀ W, (binOp .eql 92 .nilFunc .nilFunc).run Try.prog W = .ok (.bool true) W := fun _ => by kernel_rfl
theorem catchUnlike (w : World) (b : Nat) (o : Int) (nx v : Value) (had un : Int) (cut wh hi : Bool) (hv : (∃ f c, nx = .func f c #[]) ∨ nx = .nilFunc) (hz : nx = .nilFunc → had = 0 → un = -1) (h : Ct w b o nx v had un cut wh hi) :
    Calls Try.prog 50 #[.pointer (some ⟨b, 0, none⟩)] w fun e w' => e = .returned (.int .i64 un) ∧ w = w' := by
  obtain ⟨⟨c0, c1, c2, c3, c4, c5, c6, c7⟩, _, hlt⟩ := h.cells
  clear h
  have q1 := eql_func
  have q2 := eql_nilFunc
  by_cases h0 : o = 0
  · have e0 : (o == 0) = true := by simp [h0]
    rcases hv with ⟨f, c, rfl⟩ | rfl
    · clear hz
      go_enter Try.func50, Try.ntmps50
      go_wp2
      go_ret
      exact ⟨rfl, rfl⟩
    · by_cases h1 : had = 0
      · obtain rfl := hz rfl h1
        subst h1
        clear hz
        go_enter Try.func50, Try.ntmps50
        go_wp2
        go_ret
        exact ⟨rfl, rfl⟩
      · have e1 : (had == 0) = false := by simp [h1]
        clear hz
        go_enter Try.func50, Try.ntmps50
        go_wp2
        go_ret
        exact ⟨rfl, rfl⟩
  · have e0 : (o == 0) = false := by simp [h0]
    clear hz hv
    go_enter Try.func50, Try.ntmps50
    go_wp2
    go_ret
    exact ⟨rfl, rfl⟩
end Go.Proofs.Ytbfbpagfmhdblaa
