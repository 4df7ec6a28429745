/- The program's wires and the document's ones beside one another. -/
import Derived.Test.YteogoddnefeleaaDoorRef08D
import Derived.Test.YteogoddnefeleaaDoorLawKit8
namespace Go.Proofs.YteogoddnefeleaaDoor
open Go.RowKit Go.Maps
set_option linter.unusedSimpArgs false
set_option linter.unusedVariables false
set_option maxRecDepth 100000
theorem WiresAt.mono {B B' : Nat} {w : World} {pw bl bg n ng : Nat} {lb lw : Nat → Nat} {p1 p2 g : Int → Option Int} {t : Int} (h : WiresAt B w pw bl bg n ng lb lw p1 p2 g t) (hB : B' ≤ B) : WiresAt B' w pw bl bg n ng lb lw p1 p2 g t :=
  ⟨h.blk, h.hn, h.lines, h.given, h.ne, h.line, h.inj, ⟨Nat.le_trans hB h.ge.1, Nat.le_trans hB h.ge.2.1, Nat.le_trans hB h.ge.2.2.1, fun k hk => ⟨Nat.le_trans hB (h.ge.2.2.2 k hk).1, Nat.le_trans hB (h.ge.2.2.2 k hk).2⟩⟩⟩
theorem WA.low {B B' : Nat} {w : World} {pw n c : Nat} {p1 p2 g : Int → Option Int} {t : Int} (h : WA B w pw n c p1 p2 g t) (hB : B' ≤ B) : WA B' w pw n c p1 p2 g t := by
  obtain ⟨bl, bg, ng, lb, lw, h1, h2⟩ := h
  exact ⟨bl, bg, ng, lb, lw, h1, h2.mono hB⟩
theorem WA.keep {B : Nat} {w w' : World} {pw n c : Nat} {p1 p2 g : Int → Option Int} {t : Int} {Ts : List TypeId} (h : WA B w pw n c p1 p2 g t) (k : Keep Ts w w')
    (h1 : 80 ∉ Ts) (h2 : 102 ∉ Ts) (h3 : 105 ∉ Ts) : WA B w' pw n c p1 p2 g t := by
  obtain ⟨bl, bg, ng, lb, lw, h4, h5⟩ := h
  exact ⟨bl, bg, ng, lb, lw, h4, h5.keep k h1 h2 h3⟩
/-- The document's wires by what they hold. -/
def RA (B : Nat) (w : World) (mw n L : Nat) (F : Nat → Int → Option Int) : Prop := ∃ v rb, Ref8 B w mw n v L rb F
theorem Ref8.low {B B' : Nat} {w : World} {mw n : Nat} {v : Value} {L : Nat} {rb : Nat → Nat} {F : Nat → Int → Option Int} (h : Ref8 B w mw n v L rb F) (hB : B' ≤ B) : Ref8 B' w mw n v L rb F := by
  refine ⟨h.blk, ⟨h.own.1, ?_⟩, h.row, h.inj, ⟨Nat.le_trans hB h.ge.1, fun i hi => Nat.le_trans hB (h.ge.2 i hi)⟩, h.hn, h.pos⟩
  rcases h.own.2 with h0 | ⟨g, cap, cur, rfl, h4, r⟩
  · exact .inl h0
  · exact .inr ⟨g, cap, cur, rfl, Nat.le_trans hB h4, r⟩
/-- Both. -/
def PB (B : Nat) (w : World) (pw mw n c : Nat) (p1 p2 g : Int → Option Int) (t : Int) (L : Nat) (F : Nat → Int → Option Int) : Prop := WA B w pw n c p1 p2 g t ∧ RA B w mw n L F
theorem PB.below {B : Nat} {w w' : World} {pw mw n c : Nat} {p1 p2 g : Int → Option Int} {t : Int} {L : Nat} {F : Nat → Int → Option Int} (h : PB B w pw mw n c p1 p2 g t L F) (hb : Below w.heap.size w w') : PB B w' pw mw n c p1 p2 g t L F := by
  obtain ⟨h1, v, rb, h2⟩ := h
  exact ⟨h1.keep (Ts := []) (Keep.below hb) (by simp) (by simp) (by simp), v, rb, h2.below hb⟩
theorem PB.drewN {B : Nat} {w : World} {pw mw n c : Nat} {p1 p2 g : Int → Option Int} {t : Int} {L : Nat} {F : Nat → Int → Option Int} (h : PB B w pw mw n c p1 p2 g t L F) (q : Nat) : PB B (w.drewN q) pw mw n c p1 p2 g t L F :=
  h.below (below_drewN w q)
theorem touch_keep {w w' : World} {bg ng : Nat} {g : Int → Option Int} (h : MapI w bg ng g) (ht : Touch [bg] w w') : KeepB [] w w' :=
  ⟨ht.size, fun b c T hb _ => (ht.block b hb.lt (by simp; exact fun e => MapOf.ne_blk h hb e.symm)).trans hb⟩
/-- Acts are kept. -/
def KA (w w' : World) : Prop := ∀ b cs, Blk w b cs 66 → Blk w' b cs 66
theorem ka_below {w w' : World} (h : Below w.heap.size w w') : KA w w' := fun b cs hb => hb.below h hb.lt
section
variable {B : Nat} {w : World} {pw mw n c : Nat} {p1 p2 g : Int → Option Int} {t : Int} {L : Nat} {F : Nat → Int → Option Int}
theorem cGive (h : PB B w pw mw n c p1 p2 g t L F) (hc : c < 1000000000) (k v : Int) (hk : (Lit.int .i64 k).wf = true) (hv : (Lit.int .i64 v).wf = true) :
    Calls Tryd.prog 35 #[.pointer (some ⟨pw, 0, none⟩), .int .i64 k, .int .i64 v] w fun e w' => e = .returned (.int .i64 (mayE n k)) ∧ PB B w' pw mw n (c + 1) p1 p2 (setO n g k (some v)) t L F ∧ Below B w w' ∧ KA w w' := by
  obtain ⟨⟨bl, bg, ng, lb, lw, h1, h2⟩, vv, rb, hr⟩ := h
  refine (wGive h2 (by omega) k v hk hv).mono ?_
  rintro e w' ⟨rfl, ⟨ng', h3, h4⟩, ht⟩
  have hB : ∀ k ∈ [bg], B ≤ k := by simpa using h2.ge.2.2.1
  have hlt : B ≤ w.heap.size := by have := h2.ge.1; have := h2.blk.lt; omega
  exact ⟨rfl, ⟨⟨bl, bg, ng', lb, lw, by omega, h4⟩, vv, rb, hr.keep (touch_keep h2.given ht) (by simp) (by simp) (by simp)⟩, ht.below (Below.refl _ _) hlt hB, fun b cs hb => (touch_keep h2.given ht).2 _ _ _ hb (by simp)⟩
theorem cTake (h : PB B w pw mw n c p1 p2 g t L F) (k : Int) (hk : (Lit.int .i64 k).wf = true) :
    Calls Tryd.prog 40 #[.pointer (some ⟨pw, 0, none⟩), .int .i64 k] w fun e w' => e = .returned (.int .i64 (mayE n k)) ∧ PB B w' pw mw n (c + 1) p1 p2 (setO n g k none) t L F ∧ Below B w w' ∧ KA w w' := by
  obtain ⟨⟨bl, bg, ng, lb, lw, h1, h2⟩, vv, rb, hr⟩ := h
  refine (wTake h2 k hk).mono ?_
  rintro e w' ⟨rfl, h4, ht⟩
  have hB : ∀ k ∈ [bg], B ≤ k := by simpa using h2.ge.2.2.1
  have hlt : B ≤ w.heap.size := by have := h2.ge.1; have := h2.blk.lt; omega
  exact ⟨rfl, ⟨⟨bl, bg, ng, lb, lw, by omega, h4⟩, vv, rb, hr.keep (touch_keep h2.given ht) (by simp) (by simp) (by simp)⟩, ht.below (Below.refl _ _) hlt hB, fun b cs hb => (touch_keep h2.given ht).2 _ _ _ hb (by simp)⟩
theorem cEnd (h : PB B w pw mw n c p1 p2 g t L F) (ht : 0 ≤ t ∧ t < 9223372036854775800) :
    Calls Tryd.prog 36 #[.pointer (some ⟨pw, 0, none⟩)] w fun e w' => e = .returned (.int .i64 0) ∧ PB B w' pw mw n (c + 1) g p1 noneG (t + 1) L F ∧ Below B w w' ∧ KA w w' := by
  obtain ⟨⟨bl, bg, ng, lb, lw, h1, h2⟩, vv, rb, hr⟩ := h
  refine (wEnd h2 ht).mono ?_
  rintro e w' ⟨rfl, h3, hb, hz, hk⟩
  have hK : KeepB [102, 105, 80] w w' := ⟨hz, fun b c T hb hT => by
    simp at hT
    exact hk b c T hb hT.1 hT.2.1 hT.2.2⟩
  exact ⟨rfl, ⟨⟨bl, bg, 0, lb, lw, by omega, h3⟩, vv, rb, hr.keep hK (by decide) (by decide) (by decide)⟩, hb, fun b cs hb => hK.2 _ _ _ hb (by decide)⟩
theorem cSet (h : PB B w pw mw n c p1 p2 g t L F) (hL : L ≤ 1000) (k : Int) (o : Option Int) :
    Calls Tryd.prog 42 #[.pointer (some ⟨mw, 0, none⟩), .int .i64 k, .agg #[.int .i64 (o.getD 0), .bool o.isSome]] w fun e w' => e = .returned (.int .i64 (mayE n k)) ∧ PB B w' pw mw n c p1 p2 g t L (setF n F L k o) ∧ Below B w w' ∧ KA w w' := by
  obtain ⟨h1, vv, rb, hr⟩ := h
  refine (rSet hr hL k o).mono ?_
  rintro e w' ⟨rfl, h3, hk, hb⟩
  exact ⟨rfl, ⟨h1.keep hk (by decide) (by decide) (by decide), vv, rb, h3⟩, hb, fun b cs hb => hk.blocks.2 _ _ _ hb (by decide)⟩
theorem cREnd (h : PB B w pw mw n c p1 p2 g t L F) (hL : L ≤ 1000) :
    Calls Tryd.prog 43 #[.pointer (some ⟨mw, 0, none⟩)] w fun e w' => e = .returned (.tuple #[]) ∧ PB B w' pw mw n c p1 p2 g t (L + 1) (nextF F L) ∧ Below B w w' ∧ KA w w' := by
  obtain ⟨h1, vv, rb, hr⟩ := h
  refine (rEnd hr hL).mono ?_
  rintro e w' ⟨rfl, ⟨v', rb', h3⟩, hk, hb⟩
  exact ⟨rfl, ⟨h1.keep hk (by decide) (by decide) (by decide), v', rb', h3⟩, hb, fun b cs hb => hk.blocks.2 _ _ _ hb (by decide)⟩
theorem cHere (h : PB B w pw mw n c p1 p2 g t L F) (hs : Signs w) (d node hop : Int) (hd : 0 ≤ d) (o : Option Int) (ho : hereO n p1 p2 (linkOf n d node hop) = o) :
    Calls Tryd.prog 37 #[.pointer (some ⟨pw, 0, none⟩), .int .u8 d, .int .i64 node, .int .i64 hop] w fun e w' => e = .returned (.tuple #[.int .i64 (o.getD 0), .bool o.isSome]) ∧ PB B w' pw mw n c p1 p2 g t L F ∧ Below w.heap.size w w' := by
  refine (aHere h.1 hs d node hop hd o ho).mono ?_
  rintro e w' ⟨rfl, q, rfl⟩
  exact ⟨rfl, h.drewN q, below_drewN w q⟩
theorem cRHere (h : PB B w pw mw n c p1 p2 g t L F) (hL : L ≤ 1000) (d node hop : Int) (hd : 0 ≤ d) (o : Option Int) (ho : hereO n (back F L 1) (back F L 2) (linkOf n d node hop) = o) :
    Calls Tryd.prog 44 #[.pointer (some ⟨mw, 0, none⟩), .int .u8 d, .int .i64 node, .int .i64 hop] w fun e w' => e = .returned (.tuple #[.int .i64 (o.getD 0), .bool o.isSome]) ∧ PB B w' pw mw n c p1 p2 g t L F ∧ Below w.heap.size w w' := by
  subst ho
  obtain ⟨h1, vv, rb, hr⟩ := h
  refine (rHere hr hL d node hop hd).mono ?_
  rintro e w' ⟨rfl, q, rfl⟩
  exact ⟨rfl, PB.drewN ⟨h1, vv, rb, hr⟩ q, below_drewN w q⟩
theorem cGiven (h : PB B w pw mw n c p1 p2 g t L F) (k : Int) (hk : (Lit.int .i64 k).wf = true) (o : Option Int) (ho : givenO n g k = o) :
    Calls Tryd.prog 39 #[.pointer (some ⟨pw, 0, none⟩), .int .i64 k] w fun e w' => e = .returned (.tuple #[.int .i64 (o.getD 0), .bool o.isSome]) ∧ w = w' := by
  subst ho
  exact aGiven h.1 k hk
theorem cRGiven (h : PB B w pw mw n c p1 p2 g t L F) (hL : L ≤ 1000) (k : Int) (o : Option Int) (ho : givenO n (F (L - 1)) k = o) :
    Calls Tryd.prog 45 #[.pointer (some ⟨mw, 0, none⟩), .int .i64 k] w fun e w' => e = .returned (.tuple #[.int .i64 (o.getD 0), .bool o.isSome]) ∧ PB B w' pw mw n c p1 p2 g t L F ∧ Below w.heap.size w w' := by
  subst ho
  have h' := h
  obtain ⟨h1, vv, rb, hr⟩ := h
  refine (rGiven hr hL k).mono ?_
  rintro e w' ⟨rfl, hb⟩
  exact ⟨rfl, h'.below hb, hb⟩
end
/-- Both by what the document's ones hold. -/
def PA (B : Nat) (w : World) (pw mw n c L : Nat) (F : Nat → Int → Option Int) : Prop := PB B w pw mw n c (back F L 1) (back F L 2) (F (L - 1)) ((L : Int) - 1) L F
theorem back_set {n : Nat} {F : Nat → Int → Option Int} {L : Nat} {k : Int} {o : Option Int} (hL : 0 < L) : back (setF n F L k o) L 1 = back F L 1 ∧ back (setF n F L k o) L 2 = back F L 2 ∧ setF n F L k o (L - 1) = setO n (F (L - 1)) k o := by
  refine ⟨?_, ?_, ?_⟩
  · unfold back setF
    by_cases h : 1 < L
    · rw [if_pos h, if_pos h]
      funext x
      rw [if_neg (by omega)]
    · rw [if_neg h, if_neg h]
  · unfold back setF
    by_cases h : 2 < L
    · rw [if_pos h, if_pos h]
      funext x
      rw [if_neg (by omega)]
    · rw [if_neg h, if_neg h]
  · funext x
    simp [setF]
theorem back_next {F : Nat → Int → Option Int} {L : Nat} (hL : 0 < L) : back (nextF F L) (L + 1) 1 = F (L - 1) ∧ back (nextF F L) (L + 1) 2 = back F L 1 ∧ nextF F L (L + 1 - 1) = noneG := by
  refine ⟨?_, ?_, ?_⟩
  · unfold back nextF
    rw [if_pos (by omega), if_pos (by omega)]
    rfl
  · unfold back nextF
    by_cases h : 1 < L
    · rw [if_pos (by omega), if_pos h, if_pos (by omega)]
      congr 1
    · rw [if_neg (by omega), if_neg h]
  · unfold nextF
    rw [if_neg (by omega)]
theorem PA.set {B : Nat} {w : World} {pw mw n c L : Nat} {F : Nat → Int → Option Int} {k : Int} {o : Option Int} (hL : 0 < L) (h : PB B w pw mw n c (back F L 1) (back F L 2) (setO n (F (L - 1)) k o) ((L : Int) - 1) L (setF n F L k o)) : PA B w pw mw n c L (setF n F L k o) := by
  obtain ⟨e1, e2, e3⟩ := back_set (n := n) (F := F) (k := k) (o := o) hL
  unfold PA
  rw [e1, e2, e3]
  exact h
theorem PA.next {B : Nat} {w : World} {pw mw n c L : Nat} {F : Nat → Int → Option Int} (hL : 0 < L) (h : PB B w pw mw n c (F (L - 1)) (back F L 1) noneG ((L : Int) - 1 + 1) (L + 1) (nextF F L)) : PA B w pw mw n c (L + 1) (nextF F L) := by
  obtain ⟨e1, e2, e3⟩ := back_next (F := F) hL
  unfold PA
  rw [e1, e2, e3]
  have : ((L + 1 : Nat) : Int) - 1 = (L : Int) - 1 + 1 := by omega
  rw [this]
  exact h
/-- The run's state, with the act at hand. -/
def RunS (w : World) (pw mw n c : Nat) (p1 p2 g : Int → Option Int) (t : Int) (L : Nat) (F : Nat → Int → Option Int) (xb : Nat) (cs : Array Value) (W : World) : Prop := Below w.heap.size w W ∧ PB w.heap.size W pw mw n c p1 p2 g t L F ∧ Blk W xb cs 66
theorem RunS.then {w : World} {pw mw n c c' : Nat} {p1 p2 g p1' p2' g' : Int → Option Int} {t t' : Int} {L L' : Nat} {F F' : Nat → Int → Option Int} {xb : Nat} {cs : Array Value} {W W' : World} (h : RunS w pw mw n c p1 p2 g t L F xb cs W) (h2 : PB w.heap.size W' pw mw n c' p1' p2' g' t' L' F') (hb : Below w.heap.size W W') (hk : KA W W') : RunS w pw mw n c' p1' p2' g' t' L' F' xb cs W' :=
  ⟨h.1.trans hb, h2, hk _ _ h.2.2⟩
theorem RunS.drew {w : World} {pw mw n c : Nat} {p1 p2 g : Int → Option Int} {t : Int} {L : Nat} {F : Nat → Int → Option Int} {xb : Nat} {cs : Array Value} {W : World} (h : RunS w pw mw n c p1 p2 g t L F xb cs W) : RunS w pw mw n c p1 p2 g t L F xb cs W.drew :=
  ⟨h.1.trans ((below_drewN W 1).mono h.1.size), h.2.1.below (below_drewN W 1), h.2.2.drew⟩
theorem RunS.after {w : World} {pw mw n c : Nat} {p1 p2 g : Int → Option Int} {t : Int} {L : Nat} {F : Nat → Int → Option Int} {xb : Nat} {cs : Array Value} {W W' : World} (h : RunS w pw mw n c p1 p2 g t L F xb cs W) (hb : Below W.heap.size W W') : RunS w pw mw n c p1 p2 g t L F xb cs W' :=
  ⟨bthen h.1 hb, h.2.1.below hb, h.2.2.below hb h.2.2.lt⟩
section
variable {w : World} {pw mw n c : Nat} {p1 p2 g : Int → Option Int} {t : Int} {L : Nat} {F : Nat → Int → Option Int} {xb : Nat} {cs : Array Value}
theorem sGive (hc : c < 1000000000) (k v : Int) (hk : (Lit.int .i64 k).wf = true) (hv : (Lit.int .i64 v).wf = true) (W : World) (h : RunS w pw mw n c p1 p2 g t L F xb cs W) :
    Calls Tryd.prog 35 #[.pointer (some ⟨pw, 0, none⟩), .int .i64 k, .int .i64 v] W fun e w' => e = .returned (.int .i64 (mayE n k)) ∧ RunS w pw mw n (c + 1) p1 p2 (setO n g k (some v)) t L F xb cs w' :=
  (cGive h.2.1 hc k v hk hv).mono fun e w' ⟨h1, h2, h3, h4⟩ => ⟨h1, h.then h2 h3 h4⟩
theorem sTake (k : Int) (hk : (Lit.int .i64 k).wf = true) (W : World) (h : RunS w pw mw n c p1 p2 g t L F xb cs W) :
    Calls Tryd.prog 40 #[.pointer (some ⟨pw, 0, none⟩), .int .i64 k] W fun e w' => e = .returned (.int .i64 (mayE n k)) ∧ RunS w pw mw n (c + 1) p1 p2 (setO n g k none) t L F xb cs w' :=
  (cTake h.2.1 k hk).mono fun e w' ⟨h1, h2, h3, h4⟩ => ⟨h1, h.then h2 h3 h4⟩
theorem sSet (hL : L ≤ 1000) (k : Int) (o : Option Int) (W : World) (h : RunS w pw mw n c p1 p2 g t L F xb cs W) :
    Calls Tryd.prog 42 #[.pointer (some ⟨mw, 0, none⟩), .int .i64 k, .agg #[.int .i64 (o.getD 0), .bool o.isSome]] W fun e w' => e = .returned (.int .i64 (mayE n k)) ∧ RunS w pw mw n c p1 p2 g t L (setF n F L k o) xb cs w' :=
  (cSet h.2.1 hL k o).mono fun e w' ⟨h1, h2, h3, h4⟩ => ⟨h1, h.then h2 h3 h4⟩
theorem sSet1 (hL : L ≤ 1000) (k x : Int) (W : World) (h : RunS w pw mw n c p1 p2 g t L F xb cs W) :
    Calls Tryd.prog 42 #[.pointer (some ⟨mw, 0, none⟩), .int .i64 k, .agg #[.int .i64 x, .bool true]] W fun e w' => e = .returned (.int .i64 (mayE n k)) ∧ RunS w pw mw n c p1 p2 g t L (setF n F L k (some x)) xb cs w' :=
  sSet hL k (some x) W h
theorem sSet0 (hL : L ≤ 1000) (k : Int) (W : World) (h : RunS w pw mw n c p1 p2 g t L F xb cs W) :
    Calls Tryd.prog 42 #[.pointer (some ⟨mw, 0, none⟩), .int .i64 k, .agg #[.int .i64 0, .bool false]] W fun e w' => e = .returned (.int .i64 (mayE n k)) ∧ RunS w pw mw n c p1 p2 g t L (setF n F L k none) xb cs w' :=
  sSet hL k none W h
theorem sEnd (ht : 0 ≤ t ∧ t < 9223372036854775800) (W : World) (h : RunS w pw mw n c p1 p2 g t L F xb cs W) :
    Calls Tryd.prog 36 #[.pointer (some ⟨pw, 0, none⟩)] W fun e w' => e = .returned (.int .i64 0) ∧ RunS w pw mw n (c + 1) g p1 noneG (t + 1) L F xb cs w' :=
  (cEnd h.2.1 ht).mono fun e w' ⟨h1, h2, h3, h4⟩ => ⟨h1, h.then h2 h3 h4⟩
theorem sREnd (hL : L ≤ 1000) (W : World) (h : RunS w pw mw n c p1 p2 g t L F xb cs W) :
    Calls Tryd.prog 43 #[.pointer (some ⟨mw, 0, none⟩)] W fun e w' => e = .returned (.tuple #[]) ∧ RunS w pw mw n c p1 p2 g t (L + 1) (nextF F L) xb cs w' :=
  (cREnd h.2.1 hL).mono fun e w' ⟨h1, h2, h3, h4⟩ => ⟨h1, h.then h2 h3 h4⟩
end
/-- The run's state by what the document's wires hold. -/
def RunT (w : World) (pw mw n c L : Nat) (F : Nat → Int → Option Int) (xb : Nat) (cs : Array Value) (W : World) : Prop := RunS w pw mw n c (back F L 1) (back F L 2) (F (L - 1)) ((L : Int) - 1) L F xb cs W
section
variable {w : World} {pw mw n c : Nat} {L : Nat} {F : Nat → Int → Option Int} {xb : Nat} {cs : Array Value} {W : World}
theorem RunT.set {k : Int} {o : Option Int} (hL : 0 < L) (h : RunS w pw mw n c (back F L 1) (back F L 2) (setO n (F (L - 1)) k o) ((L : Int) - 1) L (setF n F L k o) xb cs W) : RunT w pw mw n c L (setF n F L k o) xb cs W :=
  ⟨h.1, PA.set hL h.2.1, h.2.2⟩
theorem RunT.next (hL : 0 < L) (h : RunS w pw mw n c (F (L - 1)) (back F L 1) noneG ((L : Int) - 1 + 1) (L + 1) (nextF F L) xb cs W) : RunT w pw mw n c (L + 1) (nextF F L) xb cs W :=
  ⟨h.1, PA.next hL h.2.1, h.2.2⟩
end
/-- Act number i of a slice. -/
def ActAt (w : World) (a : Addr) (kd lk x dr nd hp : Int) : Prop :=
  w.cell? a = some (.int .u8 kd) ∧ w.cell? ⟨a.block, a.off + 1, none⟩ = some (.int .i64 lk) ∧ w.cell? ⟨a.block, a.off + 2, none⟩ = some (.int .i64 x) ∧ w.cell? ⟨a.block, a.off + 3, none⟩ = some (.int .u8 dr) ∧ w.cell? ⟨a.block, a.off + 4, none⟩ = some (.int .i64 nd) ∧ w.cell? ⟨a.block, a.off + 5, none⟩ = some (.int .i64 hp)
def ActsAt (w : World) (ao : Option Addr) (n : Nat) : Prop := n = 0 ∨ ∃ a, ao = some a ∧ ∀ i, i < n → ∃ kd lk x dr nd hp, ActAt w (a.add (i * 6)) kd lk x dr nd hp ∧ ActOk kd lk x dr nd hp
end Go.Proofs.YteogoddnefeleaaDoor
