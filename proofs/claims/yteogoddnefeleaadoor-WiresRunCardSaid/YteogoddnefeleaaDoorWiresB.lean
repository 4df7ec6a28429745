/- Wires: what wires are; there, may, Ticks, Given, Give, Take. -/
import Derived.Test.YteogoddnefeleaaDoorWiresA
namespace Go.Proofs.YteogoddnefeleaaDoor
open Go.RowKit Go.Maps
set_option linter.unusedSimpArgs false
set_option linter.unusedVariables false
set_option maxRecDepth 100000
/-- What was sent, as a line's cells have it. -/
def sentV (s : Option Int) : List Value := [.int .i64 (s.getD 0), .bool s.isSome]
/-- A link's way: of a neighbour what was sent in the last tick, of a skip in the last two. -/
def wayV (p1 p2 : Int → Option Int) (k : Nat) : List Value := if k % 2 = 0 then sentV (p1 k) else sentV (p2 k) ++ sentV (p1 k)
/-- The links' lines. -/
def lineF (n : Nat) (lb : Nat → Nat) (k : Int) : Option Nat := if 0 ≤ k ∧ k < 4 * n then some (lb k.toNat) else none
/-- Wires of n nodes: what was sent in the last tick, in the one before, what is given in this one; how many have ended. All lies from block B on. -/
structure WiresAt (B : Nat) (w : World) (pw bl bg n ng : Nat) (lb lw : Nat → Nat) (p1 p2 g : Int → Option Int) (t : Int) : Prop where
  blk : Blk w pw #[.map (some bl), .int .i64 n, .map (some bg), .int .i64 t] 80
  hn : 4 ≤ n ∧ n ≤ 16
  lines : MapP w bl (4 * n) (lineF n lb)
  given : MapI w bg ng g
  ne : bl ≠ bg
  line : ∀ k, k < 4 * n → LineInt w (lb k) (lw k) (k % 2 + 1) (wayV p1 p2 k) t
  inj : ∀ j k, j < 4 * n → k < 4 * n → j ≠ k → lb j ≠ lb k ∧ lw j ≠ lw k
  ge : B ≤ pw ∧ B ≤ bl ∧ B ≤ bg ∧ ∀ k, k < 4 * n → B ≤ lb k ∧ B ≤ lw k
theorem MapOf.ne_blk {w : World} {R : Value → Option (DataW Unit × List MemPlace)} {b n c : Nat} {f : Int → Option (DataW Unit)} {cs : Array Value} {t : TypeId} (h : MapOf w R b n f) (hb : Blk w c cs t) : b ≠ c := by
  obtain ⟨D, ⟨es, clock, h1, _⟩, _⟩ := h
  intro e
  subst e
  have h2 : w.heap[b]? = some (.cells cs t (0, 0)) := hb
  rw [h1] at h2
  simp at h2
theorem WiresAt.cells {B : Nat} {w : World} {pw bl bg n ng : Nat} {lb lw : Nat → Nat} {p1 p2 g : Int → Option Int} {t : Int} (h : WiresAt B w pw bl bg n ng lb lw p1 p2 g t) :
    (w.cell? ⟨pw, 0, none⟩ = some (.map (some bl)) ∧ w.cell? ⟨pw, 1, none⟩ = some (.int .i64 n) ∧ w.cell? ⟨pw, 2, none⟩ = some (.map (some bg)) ∧ w.cell? ⟨pw, 3, none⟩ = some (.int .i64 t)) ∧ w.frozen? ⟨pw, 3, none⟩ = false ∧ pw < w.heap.size :=
  ⟨⟨h.blk.cell (i := 0) rfl, h.blk.cell (i := 1) rfl, h.blk.cell (i := 2) rfl, h.blk.cell (i := 3) rfl⟩, h.blk.free 3, h.blk.lt⟩
theorem wThere {B : Nat} {w : World} {pw bl bg n ng : Nat} {lb lw : Nat → Nat} {p1 p2 g : Int → Option Int} {t : Int} (h : WiresAt B w pw bl bg n ng lb lw p1 p2 g t) :
    Calls Tryd.prog 60 #[.pointer (some ⟨pw, 0, none⟩)] w fun e w' => e = .returned (.bool true) ∧ w = w' := by
  obtain ⟨⟨c0, c1, c2, c3⟩, _, hlt⟩ := h.cells
  have hn := h.hn
  have g1 : decide ((0 : Int) < (n : Int)) = true := by simp; omega
  have g2 : (0 : Int) < (n : Int) := by omega
  have g3 : decide (0 < n) = true := by simp; omega
  clear h
  go_enter Tryd.func60, Tryd.ntmps60
  go_wp2
  go_ret
  exact ⟨rfl, rfl⟩
/-- May a link be told? -/
def mayE (n : Nat) (k : Int) : Int := if 0 ≤ k ∧ k < 4 * n then 0 else 1
theorem wMay {B : Nat} {w : World} {pw bl bg n ng : Nat} {lb lw : Nat → Nat} {p1 p2 g : Int → Option Int} {t : Int} (h : WiresAt B w pw bl bg n ng lb lw p1 p2 g t) (k : Int) (hk : (Lit.int .i64 k).wf = true) :
    Calls Tryd.prog 59 #[.pointer (some ⟨pw, 0, none⟩), .int .i64 k] w fun e w' => e = .returned (.int .i64 (mayE n k)) ∧ w = w' := by
  obtain ⟨⟨c0, c1, c2, c3⟩, _, hlt⟩ := h.cells
  have T := Lib.hid (wThere h)
  have hl := h.lines.look_ok hk
  have hE : (lineF n lb k).isSome = true ∧ mayE n k = 0 ∨ (lineF n lb k).isSome = false ∧ mayE n k = 1 := by
    unfold lineF mayE
    split <;> simp
  generalize ptrV (lineF n lb k) = pv at *
  generalize (lineF n lb k).isSome = q at *
  generalize mayE n k = E at *
  clear h
  rcases hE with ⟨rfl, rfl⟩ | ⟨rfl, rfl⟩
  all_goals
    go_enter Tryd.func59, Tryd.ntmps59
    go_wp2_with fail
    refine T.out.mono ?_
    rintro e _ ⟨rfl, rfl⟩
    go_wp2_with fail
    go_ret
    exact ⟨rfl, rfl⟩
theorem wTicks {B : Nat} {w : World} {pw bl bg n ng : Nat} {lb lw : Nat → Nat} {p1 p2 g : Int → Option Int} {t : Int} (h : WiresAt B w pw bl bg n ng lb lw p1 p2 g t) :
    Calls Tryd.prog 46 #[.pointer (some ⟨pw, 0, none⟩)] w fun e w' => e = .returned (.int .i64 t) ∧ w = w' := by
  obtain ⟨⟨c0, c1, c2, c3⟩, _, hlt⟩ := h.cells
  have T := Lib.hid (wThere h)
  clear h
  go_enter Tryd.func46, Tryd.ntmps46
  go_wp2_with fail
  refine T.out.mono ?_
  rintro e _ ⟨rfl, rfl⟩
  go_wp2_with fail
  go_ret
  exact ⟨rfl, rfl⟩
/-- What a link was given. -/
def givenO (n : Nat) (g : Int → Option Int) (k : Int) : Option Int := if 0 ≤ k ∧ k < 4 * n then g k else none
theorem wGiven {B : Nat} {w : World} {pw bl bg n ng : Nat} {lb lw : Nat → Nat} {p1 p2 g : Int → Option Int} {t : Int} (h : WiresAt B w pw bl bg n ng lb lw p1 p2 g t) (k : Int) (hk : (Lit.int .i64 k).wf = true) :
    Calls Tryd.prog 39 #[.pointer (some ⟨pw, 0, none⟩), .int .i64 k] w fun e w' => e = .returned (.tuple #[.int .i64 ((givenO n g k).getD 0), .bool (givenO n g k).isSome]) ∧ w = w' := by
  obtain ⟨⟨c0, c1, c2, c3⟩, _, hlt⟩ := h.cells
  have M := Lib.hid (wMay h k hk)
  have hl := h.given.look_ok hk
  have hE : givenO n g k = g k ∧ mayE n k = 0 ∨ givenO n g k = none ∧ mayE n k = 1 := by
    unfold givenO mayE
    split <;> simp
  generalize givenO n g k = go at *
  generalize mayE n k = E at *
  generalize g k = gk at *
  clear h
  rcases hE with ⟨rfl, rfl⟩ | ⟨rfl, rfl⟩
  · generalize go.getD 0 = v at *
    generalize go.isSome = q at *
    go_enter Tryd.func39, Tryd.ntmps39
    go_wp2_with fail
    refine M.out.mono ?_
    rintro e _ ⟨rfl, rfl⟩
    go_wp2_with fail
    go_ret2
    exact ⟨rfl, rfl⟩
  · clear hl
    go_enter Tryd.func39, Tryd.ntmps39
    go_wp2_with fail
    refine M.out.mono ?_
    rintro e _ ⟨rfl, rfl⟩
    go_wp2_with fail
    go_ret2
    exact ⟨rfl, rfl⟩
theorem WiresAt.touchG {B : Nat} {w w' : World} {pw bl bg n ng ng' : Nat} {lb lw : Nat → Nat} {p1 p2 g g' : Int → Option Int} {t : Int} (h : WiresAt B w pw bl bg n ng lb lw p1 p2 g t) (ht : Touch [bg] w w') (hg : MapI w' bg ng' g') : WiresAt B w' pw bl bg n ng' lb lw p1 p2 g' t :=
  ⟨h.blk.touch ht (by simpa using (MapOf.ne_blk h.given h.blk).symm), h.hn, MapOf.touch h.lines ht (by simpa using h.ne), hg, h.ne,
    fun k hk => (h.line k hk).touch ht (by simpa using (MapOf.ne_blk h.given (h.line k hk).1).symm) (by simpa using (MapOf.ne_blk h.given (h.line k hk).2).symm), h.inj, h.ge⟩
/-- What a link is given. -/
def giveG (n : Nat) (g : Int → Option Int) (k v x : Int) : Option Int := if 0 ≤ k ∧ k < 4 * n then (if x = k then some v else g x) else g x
theorem wGive {B : Nat} {w : World} {pw bl bg n ng : Nat} {lb lw : Nat → Nat} {p1 p2 g : Int → Option Int} {t : Int} (h : WiresAt B w pw bl bg n ng lb lw p1 p2 g t) (hng : ng < 1000000000) (k v : Int) (hk : (Lit.int .i64 k).wf = true) (hv : (Lit.int .i64 v).wf = true) :
    Calls Tryd.prog 35 #[.pointer (some ⟨pw, 0, none⟩), .int .i64 k, .int .i64 v] w fun e w' => e = .returned (.int .i64 (mayE n k)) ∧ (∃ ng', ng' ≤ ng + 1 ∧ WiresAt B w' pw bl bg n ng' lb lw p1 p2 (giveG n g k v) t) ∧ Touch [bg] w w' := by
  obtain ⟨⟨c0, c1, c2, c3⟩, _, hlt⟩ := h.cells
  have M := Lib.hid (wMay h k hk)
  obtain ⟨w1, hr, hg1, ht1⟩ := h.given.store hng hk hv
  have hE : (giveG n g k v = fun x => if x = k then some v else g x) ∧ mayE n k = 0 ∨ giveG n g k v = g ∧ mayE n k = 1 := by
    unfold mayE
    split
    · left; exact ⟨by funext x; simp [giveG, *], rfl⟩
    · right; exact ⟨by funext x; simp [giveG, *], rfl⟩
  have h1 := h.touchG ht1 hg1
  generalize giveG n g k v = g' at *
  generalize mayE n k = E at *
  replace h := Lib.hid h
  replace h1 := Lib.hid h1
  clear hg1
  rcases hE with ⟨rfl, rfl⟩ | ⟨rfl, rfl⟩
  · go_enter Tryd.func35, Tryd.ntmps35
    go_wp2_with fail
    refine M.out.mono ?_
    rintro e _ ⟨rfl, rfl⟩
    go_wp2_with fail
    go_ret
    exact ⟨rfl, ⟨ng + 1, Nat.le_refl _, h1.out⟩, ht1⟩
  · clear hr
    go_enter Tryd.func35, Tryd.ntmps35
    go_wp2_with fail
    refine M.out.mono ?_
    rintro e _ ⟨rfl, rfl⟩
    go_wp2_with fail
    go_ret
    exact ⟨rfl, ⟨ng, Nat.le_succ _, h.out⟩, Touch.refl _ _⟩
def takeG (n : Nat) (g : Int → Option Int) (k x : Int) : Option Int := if 0 ≤ k ∧ k < 4 * n then (if x = k then none else g x) else g x
theorem wTake {B : Nat} {w : World} {pw bl bg n ng : Nat} {lb lw : Nat → Nat} {p1 p2 g : Int → Option Int} {t : Int} (h : WiresAt B w pw bl bg n ng lb lw p1 p2 g t) (k : Int) (hk : (Lit.int .i64 k).wf = true) :
    Calls Tryd.prog 40 #[.pointer (some ⟨pw, 0, none⟩), .int .i64 k] w fun e w' => e = .returned (.int .i64 (mayE n k)) ∧ WiresAt B w' pw bl bg n ng lb lw p1 p2 (takeG n g k) t ∧ Touch [bg] w w' := by
  obtain ⟨⟨c0, c1, c2, c3⟩, _, hlt⟩ := h.cells
  have M := Lib.hid (wMay h k hk)
  obtain ⟨w1, hr, hg1, ht1⟩ := h.given.drop hk 0
  have hE : (takeG n g k = fun x => if x = k then none else g x) ∧ mayE n k = 0 ∨ takeG n g k = g ∧ mayE n k = 1 := by
    unfold mayE
    split
    · left; exact ⟨by funext x; simp [takeG, *], rfl⟩
    · right; exact ⟨by funext x; simp [takeG, *], rfl⟩
  have h1 := h.touchG ht1 hg1
  generalize takeG n g k = g' at *
  generalize mayE n k = E at *
  replace h := Lib.hid h
  replace h1 := Lib.hid h1
  clear hg1
  rcases hE with ⟨rfl, rfl⟩ | ⟨rfl, rfl⟩
  · go_enter Tryd.func40, Tryd.ntmps40
    go_wp2_with fail
    refine M.out.mono ?_
    rintro e _ ⟨rfl, rfl⟩
    go_wp2_with fail
    go_ret
    exact ⟨rfl, h1.out, ht1⟩
  · clear hr
    go_enter Tryd.func40, Tryd.ntmps40
    go_wp2_with fail
    refine M.out.mono ?_
    rintro e _ ⟨rfl, rfl⟩
    go_wp2_with fail
    go_ret
    exact ⟨rfl, h.out, Touch.refl _ _⟩
end Go.Proofs.YteogoddnefeleaaDoor
