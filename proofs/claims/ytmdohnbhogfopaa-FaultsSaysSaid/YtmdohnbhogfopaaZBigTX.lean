/- Several texts, one behind the other: BigT BigU BigV BigW BigX. -/
import Derived.Test.YtmdohnbhogfopaaZBigNS
/- What a mouth keeps: the plain law, and what it is in memory. -/
namespace Go.Proofs.Ytmdohnbhogfopaa
open Go.RowKit Go.Maps
set_option linter.unusedSimpArgs false
set_option linter.unusedVariables false
set_option maxRecDepth 100000
/-- The greatest tick of a link, one tick later. -/
def newG (G : Int → Option Int) (t l : Int) : Int := match G l with
  | none => t
  | some g => if g < t then t else g
def keepG (G : Int → Option Int) (t l : Int) : Int → Option Int := fun k => if k = l then some (newG G t l) else G k
def keepT (T : Int × Int → Option PostC) (G : Int → Option Int) (t l : Int) (p : PostC) : Int × Int → Option PostC := fun x =>
  if x.1 = l ∧ x.2 ≤ newG G t l - 64 then none else if x = (l, t) then some p else T x
/-- What is too old is not there. -/
def OldOut (T : Int × Int → Option PostC) (G : Int → Option Int) : Prop := ∀ x g, G x.1 = some g → x.2 ≤ g - 64 → T x = none
theorem OldOut.keep {T : Int × Int → Option PostC} {G : Int → Option Int} (h : OldOut T G) (t l : Int) (p : PostC) : OldOut (keepT T G t l p) (keepG G t l) := by
  intro x g hg hx
  unfold keepG at hg
  unfold keepT
  by_cases h1 : x.1 = l
  · rw [if_pos h1] at hg
    simp only [Option.some.injEq] at hg
    subst hg
    rw [if_pos ⟨h1, hx⟩]
  · rw [if_neg h1] at hg
    rw [if_neg (by simp [h1]), if_neg (fun e => h1 (by rw [e]))]
    exact h x g hg hx
section
variable {K : TypeId} {κ : Type} {E : KeyEnc K κ} {w w' : World} {R : Value → Option (DataW Unit × List MemPlace)} {b n : Nat}
theorem MapK.lookI {E : KeyEnc 3 Int} {G : Int → Option Int} (h : MapK E w (plainElem Try.prog 2) b n (fun l => (G l).map fun g => .lit (.int .i64 g))) {k : Int} (hk : E.ok k) :
    (Instr.lookup 102 (.map (some b)) (E.kv k) true).run Try.prog w = .ok (.tuple #[.int .i64 ((G k).getD 0), .bool (G k).isSome]) w := by
  obtain ⟨D, h1, h2⟩ := h
  obtain ⟨v, ps, hr, hv⟩ := h1.look_ok E.law Try.underlying102 (show (zeroValue 2).run Try.prog w = .ok (.int .i64 0) w by kernel_rfl) (plainElem_int Try.underlying2 (by decide)) (E.of k hk)
  rw [h2 k hk] at hv
  dsimp only at hv
  have hh := MapK.hasD h2 hk
  rw [hr, hh]
  have e1 : ((G k).map fun g => (DataW.lit (.int .i64 g) : DataW Unit)).isSome = (G k).isSome := by cases G k <;> rfl
  obtain ⟨a, rfl, e, _⟩ := plainElem_int_inv Try.underlying2 hv
  have e2 : a = (G k).getD 0 := by
    cases hg : G k with
    | none => rw [hg] at e; simp at e; simp [e]
    | some q => rw [hg] at e; simp at e; simp [e]
  rw [e1, e2]
theorem zeroPost (w : World) : (zeroValue 40).run Try.prog w = .ok (postV (0, none)) w := by kernel_rfl
theorem MapK.lookP {E : KeyEnc 152 κ} {f : κ → Option (Int × Option (Nat × Nat × Nat))} (h : MapK E w postE b n (fun x => (f x).map postD)) {x : κ} (hx : E.ok x) :
    (Instr.lookup 101 (.map (some b)) (E.kv x) false).run Try.prog w = .ok (postV ((f x).getD (0, none))) w := by
  obtain ⟨D, h1, h2⟩ := h
  obtain ⟨v, ps, hr, hv⟩ := h1.lookup E.law Try.underlying101 (zeroPost w) (postE_of (0, none)) (E.of x hx)
  rw [h2 x hx] at hv
  dsimp only at hv
  rw [hr]
  obtain ⟨q, rfl, e⟩ := postE_inv hv
  have e2 : (f x).getD (0, none) = q := by
    cases hf : f x with
    | none => rw [hf] at e; exact postD_inj e
    | some y => rw [hf] at e; exact postD_inj e
  rw [e2]
end
theorem OwnWord.onM {T E : TypeId} {lo : Nat} {w : World} {v : Value} {R : List RowC} (h : OwnWord T E lo w v R) : OnM (fun k => lo ≤ k ∧ k < w.heap.size) w (fun W => OwnWord T E lo W v R) := by
  intro W hW
  have hB : ∀ g c U, lo ≤ g → Blk w g c U → Blk W g c U := fun g c U hg hb => (hW g ⟨hg, hb.lt⟩).trans hb
  rcases h with h | ⟨g, cap, cur, tvs, h1, h2, h3, h4, h5, h6, h7, h8, h9⟩
  · exact .inl h
  · exact .inr ⟨g, cap, cur, tvs, h1, h2, h3, h4, hB _ _ _ h4 h5, h6, h7, h8, fun i r tv hi ht => (h9 i r tv hi ht).blk (fun g c hg hb => hB _ _ _ hg hb)⟩
theorem OwnWord.slV {T E : TypeId} {lo : Nat} {w : World} {v : Value} {R : List RowC} (h : OwnWord T E lo w v R) : ∃ o, v = slV o := by
  rcases h with ⟨h, _⟩ | ⟨g, cap, cur, tvs, h1, _⟩
  · exact ⟨none, h⟩
  · exact ⟨some (g, _, cap), h1⟩
section
variable {M : Nat → Prop} {w w' : World} {pm bt bl c : Nat} {f : Int × Int → Option (Int × Option (Nat × Nat × Nat))} {F : FaultC} {T : Int × Int → Option PostC} {G : Int → Option Int}
/-- A mouth that was told something more. -/
theorem MouthIs.next (h : MouthIs M w pm bt bl c f F T G) (hT : Touch [bt, bl] w w') {c' : Nat} {f' : Int × Int → Option (Int × Option (Nat × Nat × Nat))} {T' : Int × Int → Option PostC} {G' : Int → Option Int} {p : PostC} {o : Option (Nat × Nat × Nat)}
    (hp : PostOk p) (hO : OwnWord 97 163 w.heap.size w' (slV o) p.R) (ht : MapK placeE w' postE bt c' (fun x => (f' x).map postD))
    (hl : MapK intE w' (plainElem Try.prog 2) bl c' (fun l => (G' l).map fun g => .lit (.int .i64 g))) (hn : ∀ x, plOk x → T' x = Option.none → f' x = Option.none) (hs : ∀ x q, plOk x → T' x = some q → (q = p ∧ f' x = some (p.s, o)) ∨ (T x = some q ∧ f' x = f x))
    (hG : ∀ l g, G' l = some g → 0 ≤ g ∧ g ≤ 1099511627776) : MouthIs (fun k => M k ∨ (w.heap.size ≤ k ∧ k < w'.heap.size)) w' pm bt bl c' f' F T' G' := by
  obtain ⟨sv, h1, h2⟩ := h.blk
  have hlt := h.lts
  have eM : ∀ k, M k → w'.heap[k]? = w.heap[k]? := fun k hk => hT.block k (h.lt k hk) (by
    have h3 := h.mem.1
    have h4 := h.mem.2.1
    simp only [List.mem_cons, List.not_mem_nil, or_false, not_or]
    exact ⟨fun e => h3 (e ▸ hk), fun e => h4 (e ▸ hk)⟩)
  have hbt := hlt bt (by simp)
  have hbl := hlt bl (by simp)
  have hpm := hlt pm (by simp)
  refine ⟨⟨sv, h.blks h1 hT, h2.to (fun k hk => .inl hk) eM⟩, ht, hl, hn, fun x q hx hq => ?_, h.ne, ⟨?_, ?_, ?_⟩, fun k hk => ?_, hG⟩
  · rcases hs x q hx hq with ⟨rfl, h3⟩ | ⟨h3, h4⟩
    · refine ⟨hp, o, h3, fun W hW => ?_⟩
      exact ((hO.onM W (fun k hk => hW k (.inr hk))).word hp.R).mono (Nat.zero_le _)
    · obtain ⟨h5, o', h6, h7⟩ := h.word x q hx h3
      exact ⟨h5, o', by rw [h4, h6], h7.to (fun k hk => .inl hk) eM⟩
  · rintro (h3 | h3)
    · exact h.mem.1 h3
    · omega
  · rintro (h3 | h3)
    · exact h.mem.2.1 h3
    · omega
  · rintro (h3 | h3)
    · exact h.mem.2.2 h3
    · omega
  · rcases hk with hk | hk
    · exact Nat.lt_of_lt_of_le (h.lt k hk) hT.size
    · exact hk.2
/-- A mouth that was told nothing new. -/
theorem MouthIs.wider (h : MouthIs M w pm bt bl c f F T G) (hb : Below w.heap.size w w') : MouthIs (fun k => M k ∨ (w.heap.size ≤ k ∧ k < w'.heap.size)) w' pm bt bl c f F T G := by
  have h' := h.below hb
  obtain ⟨sv, h1, h2⟩ := h'.blk
  have hlt := h.lts
  have hbt := hlt bt (by simp)
  have hbl := hlt bl (by simp)
  have hpm := hlt pm (by simp)
  refine ⟨⟨sv, h1, h2.to (fun k hk => .inl hk) fun _ _ => rfl⟩, h'.told, h'.last, h'.none, fun x q hx hq => ?_, h.ne, ⟨?_, ?_, ?_⟩, fun k hk => ?_, h.G⟩
  · obtain ⟨h5, o', h6, h7⟩ := h'.word x q hx hq
    exact ⟨h5, o', h6, h7.to (fun k hk => .inl hk) fun _ _ => rfl⟩
  · rintro (h3 | h3)
    · exact h.mem.1 h3
    · omega
  · rintro (h3 | h3)
    · exact h.mem.2.1 h3
    · omega
  · rintro (h3 | h3)
    · exact h.mem.2.2 h3
    · omega
  · rcases hk with hk | hk
    · exact h'.lt k hk
    · exact hk.2
end
end Go.Proofs.Ytmdohnbhogfopaa
/- keep. -/
namespace Go.Proofs.Ytmdohnbhogfopaa
open Go.RowKit Go.Maps
set_option linter.unusedSimpArgs false
set_option linter.unusedVariables false
set_option maxRecDepth 100000
/-- The boxes of keep's arguments. -/
structure KeepAt (w : World) (l t s : Int) (v : Value) (W : World) : Prop where
  bel : Below w.heap.size w W
  at' : Blk W w.heap.size #[.int .i64 l, .int .i64 t] 152
  post : Blk W (w.heap.size + 1) #[.int .u8 s, v] 40
theorem KeepAt.make (w : World) (l t s : Int) (v : Value) : KeepAt w l t s v ((w.alloc (.cells #[.int .i64 l, .int .i64 t] 152)).alloc (.cells #[.int .u8 s, v] 40)) :=
  ⟨blk_alloc2 _ _, (Blk.new w _ _).alloc _, by
    have := Blk.new (w.alloc (.cells #[.int .i64 l, .int .i64 t] 152)) #[.int .u8 s, v] 40
    simpa using this⟩
set_option maxHeartbeats 4000000 in
theorem keepOld {M : Nat → Prop} {w : World} {pm bt bl c : Nat} {f : Int × Int → Option (Int × Option (Nat × Nat × Nat))} {F : FaultC} {T : Int × Int → Option PostC} {G : Int → Option Int} (h : MouthIs M w pm bt bl c f F T G) (l t s : Int) (v : Value)
    (hl : 0 ≤ l ∧ l < 64) (ht : 0 ≤ t ∧ t ≤ 1099511627776) (g : Int) (hg : G l = some g) (htg : t ≤ g - 64) :
    Calls Try.prog 64 #[.pointer (some ⟨pm, 0, none⟩), plV (l, t), .agg #[.int .u8 s, v]] w fun e w' => e = .returned (.tuple #[]) ∧ Below w.heap.size w w' := by
  obtain ⟨sv, hb, -⟩ := h.blk
  have hgr := h.G l g hg
  have hlw : intE.ok l := by
    show (Lit.int .i64 l).wf = true
    have h1 : IntKind.i64.min = -9223372036854775808 := by decide
    have h2 : IntKind.i64.max = 9223372036854775807 := by decide
    simp [Lit.wf, h1, h2]
    omega
  have hk := KeepAt.make w l t s v
  have hcl : Hid (∀ W, Below w.heap.size w W → W.cell? ⟨pm, 5, none⟩ = some (.map (some bl)) ∧ pm < W.heap.size ∧ (Instr.lookup 102 (.map (some bl)) (.int .i64 l) true).run Try.prog W = .ok (.tuple #[.int .i64 g, .bool true]) W) := fun W hW => by
    have h1 := hb.below hW hb.lt
    refine ⟨h1.cell (i := 5) rfl, h1.lt, ?_⟩
    have h2 := MapK.lookI (h.below hW).last hlw
    rw [hg] at h2
    exact h2
  unfold plV
  clear h hb
  have w1' : IntKind.i64.wrap (g - 64) = g - 64 := wrapI _ (by omega) (by omega)
  have t1 : decide (t ≤ g - 64) = true := by simp [htg]
  clear hlw hg
  go_enter Try.func64, Try.ntmps64
  go_upto_region 1 with fail
  generalize (w.alloc (.cells #[.int .i64 l, .int .i64 t] 152)).alloc (.cells #[.int .u8 s, v] 40) = w1 at *
  obtain ⟨c5, lt5, lk⟩ := hcl.out _ hk.bel
  obtain ⟨d5, dt5, dk⟩ := hcl.out _ (bdrewN hk.bel 1)
  have a0 : w1.cell? ⟨w.heap.size, 0, none⟩ = some (.int .i64 l) := hk.at'.cell (i := 0) rfl
  have a1 : w1.cell? ⟨w.heap.size, 1, none⟩ = some (.int .i64 t) := hk.at'.cell (i := 1) rfl
  have hb1 := Lib.hid hk.bel
  clear hk hcl
  go_region_held3 (fun W => W.cell? ⟨w.heap.size, 0, none⟩ = some (.int .i64 l) ∧ W.cell? ⟨pm, 5, none⟩ = some (.map (some bl)) ∧ pm < W.heap.size ∧ (Instr.lookup 102 (.map (some bl)) (.int .i64 l) true).run Try.prog W = .ok (.tuple #[.int .i64 g, .bool true]) W)
    (exact ⟨a0, d5, dt5, dk⟩)
    (fail)
  go_wp2_with fail
  exact bodyPost_ret (results_none rfl _ _ _) rfl ⟨rfl, bdrewN hb1.out 1⟩
theorem RngK.ne_map {K K' : TypeId} {κ κ' : Type} {E : KeyEnc K κ} {E' : KeyEnc K' κ'} {w : World} {R R' : Value → Option (DataW Unit × List MemPlace)} {b r n cnt b' n' : Nat} {f : κ → Option (DataW Unit)} {f' : κ' → Option (DataW Unit)} {todo : κ → Bool}
    (h : RngK E w R b r n f todo cnt) (h' : MapK E' w R' b' n' f') : r ≠ b' := by
  obtain ⟨D, left, ⟨es, clock, since, seen, c0, _, _, _, _, h1, _⟩, _⟩ := h
  obtain ⟨D', ⟨es', clock', h2, _⟩, _⟩ := h'
  intro e
  subst e
  have := h1.symm.trans h2
  cases this
/-- In the midst of keep. -/
structure KeepSt (w : World) (pm bt bl c cl : Nat) (F : FaultC) (sv : Value) (l t : Int) (p : PostC) (o : Option (Nat × Nat × Nat)) (W : World) (f : Int × Int → Option (Int × Option (Nat × Nat × Nat))) (G : Int → Option Int) : Prop where
  touch : Touch [bt, bl] w W
  own : OwnWord 97 163 w.heap.size W (slV o) p.R
  told : MapK placeE W postE bt (c + 1) (fun x => (f x).map postD)
  last : MapK intE W (plainElem Try.prog 2) bl cl (fun l => (G l).map fun g => .lit (.int .i64 g))
  at' : Blk W w.heap.size #[.int .i64 l, .int .i64 t] 152
  mouth : Blk W pm #[.int .i64 F.m, .int .i64 F.nd, .int .i64 F.lk, sv, .map (some bt), .map (some bl)] 104
  ne : bt ≠ bl
section
variable {w W W' : World} {pm bt bl c cl cl' : Nat} {F : FaultC} {sv : Value} {l t : Int} {p : PostC} {o : Option (Nat × Nat × Nat)} {f f' : Int × Int → Option (Int × Option (Nat × Nat × Nat))} {G G' : Int → Option Int}
theorem KeepSt.below (h : KeepSt w pm bt bl c cl F sv l t p o W f G) (hb : Below W.heap.size W W') : KeepSt w pm bt bl c cl F sv l t p o W' f G :=
  ⟨h.touch.trans (Touch.of_below hb (Nat.le_refl _) _), h.own.keep hb (Nat.le_refl _), h.told.block (hb.block _ h.told.lt), h.last.block (hb.block _ h.last.lt), h.at'.below hb h.at'.lt, h.mouth.below hb h.mouth.lt, h.ne⟩
theorem KeepSt.setTold (h : KeepSt w pm bt bl c cl F sv l t p o W f G) (hT : Touch [bt] W W') (k : MapK placeE W' postE bt (c + 1) (fun x => (f' x).map postD)) : KeepSt w pm bt bl c cl F sv l t p o W' f' G := by
  have hB : ∀ g cs U, Blk W g cs U → Blk W' g cs U := fun g cs U hg => hg.touch hT (by simpa using (h.told.ne_blk hg).symm)
  exact ⟨h.touch.trans (hT.mono (by simp)), h.own.blk (fun g cs U _ hg => hB _ _ _ hg), k, h.last.block (hT.block _ h.last.lt (by simpa using h.ne.symm)), hB _ _ _ h.at', hB _ _ _ h.mouth, h.ne⟩
theorem KeepSt.setLast (h : KeepSt w pm bt bl c cl F sv l t p o W f G) (hT : Touch [bl] W W') (k : MapK intE W' (plainElem Try.prog 2) bl cl' (fun l => (G' l).map fun g => .lit (.int .i64 g))) : KeepSt w pm bt bl c cl' F sv l t p o W' f G' := by
  have hB : ∀ g cs U, Blk W g cs U → Blk W' g cs U := fun g cs U hg => hg.touch hT (by simpa using (h.last.ne_blk hg).symm)
  exact ⟨h.touch.trans (hT.mono (by simp)), h.own.blk (fun g cs U _ hg => hB _ _ _ hg), h.told.block (hT.block _ h.told.lt (by simpa using h.ne)), k, hB _ _ _ h.at', hB _ _ _ h.mouth, h.ne⟩
theorem KeepSt.setIter (h : KeepSt w pm bt bl c cl F sv l t p o W f G) {r : Nat} (hT : Touch [r] W W') (hr : w.heap.size ≤ r) (h1 : r ≠ bt) (h2 : r ≠ bl) (h3 : ∀ g cs U, Blk W g cs U → r ≠ g) : KeepSt w pm bt bl c cl F sv l t p o W' f G := by
  have hB : ∀ g cs U, Blk W g cs U → Blk W' g cs U := fun g cs U hg => hg.touch hT (by simpa using (h3 g cs U hg).symm)
  refine ⟨⟨hT.os.trans h.touch.os, hT.tape.trans h.touch.tape, hT.output.trans h.touch.output, Nat.le_trans h.touch.size hT.size, fun k hk hn => ?_⟩, h.own.blk (fun g cs U _ hg => hB _ _ _ hg), h.told.block (hT.block _ h.told.lt (by simpa using h1.symm)), h.last.block (hT.block _ h.last.lt (by simpa using h2.symm)), hB _ _ _ h.at', hB _ _ _ h.mouth, h.ne⟩
  rw [hT.block k (Nat.lt_of_lt_of_le hk h.touch.size) (by simp; omega)]
  exact h.touch.block k hk hn
theorem KeepSt.cells (h : KeepSt w pm bt bl c cl F sv l t p o W f G) : W.cell? ⟨w.heap.size, 0, none⟩ = some (.int .i64 l) ∧ W.cell? ⟨w.heap.size, 1, none⟩ = some (.int .i64 t) ∧ W.cell? ⟨pm, 4, none⟩ = some (.map (some bt)) ∧ W.cell? ⟨pm, 5, none⟩ = some (.map (some bl)) ∧ pm < W.heap.size ∧ w.heap.size < W.heap.size :=
  ⟨h.at'.cell (i := 0) rfl, h.at'.cell (i := 1) rfl, h.mouth.cell (i := 4) rfl, h.mouth.cell (i := 5) rfl, h.mouth.lt, h.at'.lt⟩
end
end Go.Proofs.Ytmdohnbhogfopaa
/- keep: what is told is kept. -/
namespace Go.Proofs.Ytmdohnbhogfopaa
open Go.RowKit Go.Maps
set_option linter.unusedSimpArgs false
set_option linter.unusedVariables false
set_option maxRecDepth 100000
theorem wfI (x : Int) (h1 : -1000000000000000000 ≤ x) (h2 : x ≤ 1000000000000000000) : (Lit.int .i64 x).wf = true := by
  have e1 : IntKind.i64.min = -9223372036854775808 := by decide
  have e2 : IntKind.i64.max = 9223372036854775807 := by decide
  simp [Lit.wf, e1, e2]
  omega
theorem OwnWord.mono {T E : TypeId} {lo lo' : Nat} {w : World} {v : Value} {R : List RowC} (h : OwnWord T E lo w v R) (hl : lo' ≤ lo) : OwnWord T E lo' w v R := by
  rcases h with h | ⟨g, cap, cur, tvs, h1, h2, h3, h4, h5, h6, h7, h8, h9⟩
  · exact .inl h
  · exact .inr ⟨g, cap, cur, tvs, h1, h2, h3, by omega, h5, h6, h7, h8, fun i r tv hi ht => (h9 i r tv hi ht).mono hl⟩
set_option maxHeartbeats 4000000 in
theorem keepB {M : Nat → Prop} {w : World} {pm bt bl c : Nat} {f : Int × Int → Option (Int × Option (Nat × Nat × Nat))} {F : FaultC} {T : Int × Int → Option PostC} {G : Int → Option Int} (h : MouthIs M w pm bt bl c f F T G) (hc : c < 900000000) (l t : Int) (p : PostC) (hp : PostOk p) (v : Value) (hw : WordAt 0 w v p.R)
    (hl : 0 ≤ l ∧ l < 64) (ht : 0 ≤ t ∧ t ≤ 1099511627776) (g : Int) (hg : G l = some g) (htg : g - 64 < t) (htg2 : t ≤ g) :
    Calls Try.prog 64 #[.pointer (some ⟨pm, 0, none⟩), plV (l, t), .agg #[.int .u8 p.s, v]] w fun e w' => e = .returned (.tuple #[]) ∧ ∃ sv o, KeepSt w pm bt bl c c F sv l t p o w' (fun x => if x = (l, t) then some (p.s, o) else f x) G := by
  have hgr := h.G l g hg
  obtain ⟨sv, hb, -⟩ := h.blk
  have hlw : intE.ok l := wfI l (by omega) (by omega)
  have hpl : plOk (l, t) := ⟨wfI l (by omega) (by omega), wfI t (by omega) (by omega)⟩
  have hv : ∃ a n k, v = .slice a n k := by obtain ⟨a, n, k, _, rfl, _⟩ := hw.len; exact ⟨a, n, k, rfl⟩
  obtain ⟨va, vn, vk, rfl⟩ := hv
  have hk := KeepAt.make w l t p.s (.slice va vn vk)
  have hcl : Hid (∀ W, Below w.heap.size w W → W.cell? ⟨pm, 4, none⟩ = some (.map (some bt)) ∧ W.cell? ⟨pm, 5, none⟩ = some (.map (some bl)) ∧ pm < W.heap.size ∧ (Instr.lookup 102 (.map (some bl)) (.int .i64 l) true).run Try.prog W = .ok (.tuple #[.int .i64 ((G l).getD 0), .bool (G l).isSome]) W) := fun W hW => by
    have h1 := hb.below hW hb.lt
    exact ⟨h1.cell (i := 4) rfl, h1.cell (i := 5) rfl, h1.lt, MapK.lookI (h.below hW).last hlw⟩
  have P1 : Hid (∀ W, Below w.heap.size w W → Calls Try.prog 63 #[.agg #[.int .u8 p.s, .slice va vn vk]] W fun e w' => ∃ v', e = .returned (.agg #[.int .u8 p.s, v']) ∧ OwnWord 97 163 W.heap.size w' v' p.R ∧ Below W.heap.size W w') := fun W hW =>
    ownP W p.s _ p.R (hw.below hW) hp.R (by have := hp.n; omega) (fun r hr => by have := hp.t r hr; omega)
  -- what stands behind the own call
  have hst : Hid (∀ w1 W v', KeepAt w l t p.s (.slice va vn vk) w1 → Below w1.heap.size w1 W → OwnWord 97 163 w.heap.size W v' p.R → ∃ o, v' = slV o ∧ ∃ W', (Instr.mapUpdate 101 (.map (some bt)) (.agg #[.int .i64 l, .int .i64 t]) (.agg #[.int .u8 p.s, v'])).run Try.prog W = .ok () W' ∧
      KeepSt w pm bt bl c c F sv l t p o W' (fun x => if x = (l, t) then some (p.s, o) else f x) G ∧ Blk W' (w.heap.size + 1) #[.int .u8 p.s, .slice va vn vk] 40) := by
    intro w1 W v' hk hW hO
    obtain ⟨o, rfl⟩ := hO.slV
    have hbW := bthen hk.bel hW
    have hM := h.below hbW
    obtain ⟨W', hr, hm, hT, -⟩ := hM.told.store Try.underlying101 (by omega) hpl (postE_of (p.s, o))
    have hB : ∀ g cs U, Blk W g cs U → Blk W' g cs U := fun g cs U hg => hg.touch hT (by simpa using (hM.told.ne_blk hg).symm)
    refine ⟨o, rfl, W', hr, ⟨(Touch.of_below hbW (Nat.le_refl _) _).trans (hT.mono (by simp)), hO.blk (fun g cs U _ hg => hB _ _ _ hg), hm.congr (fun x _ => by
      split <;> rfl), hM.last.block (hT.block _ hM.last.lt (by simpa using hM.ne.symm)), hB _ _ _ (hk.at'.below hW hk.at'.lt), hB _ _ _ (hb.below hbW hb.lt), hM.ne⟩, hB _ _ _ (hk.post.below hW hk.post.lt)⟩
  unfold plV
  clear h hb hw hlw hpl
  generalize hGl : (G l).getD 0 = last at *
  generalize hGs : (G l).isSome = is at *
  replace hGl := Lib.hid hGl
  replace hGs := Lib.hid hGs
  have eis : is = true := by rw [← hGs.out, hg]; rfl
  have ela : last = g := by rw [← hGl.out, hg]; rfl
  subst eis ela
  have w1' : IntKind.i64.wrap (last - 64) = last - 64 := wrapI _ (by omega) (by omega)
  have t1 : decide (t ≤ last - 64) = false := by simp; omega
  have t2 : decide (t ≤ last) = true := by simp [htg2]
  clear hg htg htg2
  go_enter Try.func64, Try.ntmps64
  go_upto_region 1 with fail
  generalize (w.alloc (.cells #[.int .i64 l, .int .i64 t] 152)).alloc (.cells #[.int .u8 p.s, .slice va vn vk] 40) = w1 at *
  obtain ⟨c4, c5, lt5, lk⟩ := hcl.out _ hk.bel
  obtain ⟨d4, d5, dt5, dk⟩ := hcl.out _ (bdrewN hk.bel 1)
  have a0 : w1.cell? ⟨w.heap.size, 0, none⟩ = some (.int .i64 l) := hk.at'.cell (i := 0) rfl
  have a1 : w1.cell? ⟨w.heap.size, 1, none⟩ = some (.int .i64 t) := hk.at'.cell (i := 1) rfl
  have b0 : w1.cell? ⟨w.heap.size + 1, 0, none⟩ = some (.int .u8 p.s) := hk.post.cell (i := 0) rfl
  have b1 : w1.cell? ⟨w.heap.size + 1, 1, none⟩ = some (.slice va vn vk) := hk.post.cell (i := 1) rfl
  have hb1 := Lib.hid hk.bel
  replace hk := Lib.hid hk
  go_region_held3 (fun W => W.cell? ⟨w.heap.size, 0, none⟩ = some (.int .i64 l) ∧ W.cell? ⟨pm, 5, none⟩ = some (.map (some bl)) ∧ pm < W.heap.size ∧ (Instr.lookup 102 (.map (some bl)) (.int .i64 l) true).run Try.prog W = .ok (.tuple #[.int .i64 last,   .bool true]) W)
    (exact ⟨a0, d5, dt5, dk⟩)
    (fail)
  clear d4 d5 dt5 dk lk c5
  go_upto_region 3 with fail
  have hk2 : KeepAt w l t p.s (.slice va vn vk) w1.drew := ⟨bdrewN hk.out.bel 1, hk.out.at', hk.out.post⟩
  clear a0 a1 b0 b1 c4 lt5 hb1
  replace hk2 := Lib.hid hk2
  clear hk
  generalize w1.drew = w2 at *
  have hS : Hid (∀ W, Below w2.heap.size w2 W → W.cell? ⟨w.heap.size, 0, none⟩ = some (.int .i64 l) ∧ W.cell? ⟨w.heap.size, 1, none⟩ = some (.int .i64 t) ∧ W.cell? ⟨w.heap.size + 1, 0, none⟩ = some (.int .u8 p.s) ∧ W.cell? ⟨w.heap.size + 1, 1, none⟩ = some (.slice va vn vk) ∧ W.cell? ⟨pm, 4, none⟩ = some (.map (some bt)) ∧ pm < W.heap.size) := fun W hW => by
    have h1 := hcl.out W (bthen hk2.out.bel hW)
    have h2 := hk2.out.at'.below hW hk2.out.at'.lt
    have h3 := hk2.out.post.below hW hk2.out.post.lt
    exact ⟨h2.cell (i := 0) rfl, h2.cell (i := 1) rfl, h3.cell (i := 0) rfl, h3.cell (i := 1) rfl, h1.1, h1.2.2.1⟩
  have hd2 : Below w2.heap.size w2 w2.drew := below_drewN w2 1
  go_region_held3 (fun W => W.cell? ⟨w.heap.size, 0, none⟩ = some (.int .i64 l) ∧ W.cell? ⟨w.heap.size, 1, none⟩ = some (.int .i64 t) ∧ W.cell? ⟨w.heap.size + 1, 0, none⟩ = some (.int .u8 p.s) ∧ W.cell? ⟨w.heap.size + 1, 1, none⟩ = some (.slice va vn vk) ∧ W.cell? ⟨pm, 4, none⟩ = some (.map (some bt)) ∧ pm < W.heap.size)
    (first | exact hS.out _ hd2 | exact hS.out _ hb27.out | exact ⟨hS8.out.1.cells.1, hS8.out.1.cells.2.1, hS8.out.2.cell (i := 0) rfl, hS8.out.2.cell (i := 1) rfl, hS8.out.1.cells.2.2.1, hS8.out.1.cells.2.2.2.2.1⟩)
    (first
      | (go_at_call 63
         (with_reducible refine (P1.out _ (bthen hk2.out.bel hd2)).mono ?_)
         rintro e w7 ⟨v7, rfl, hO7, hb7⟩
         have hb27 := Lib.hid (bthen hd2 hb7)
         obtain ⟨o, rfl, w8, hr8, hS8⟩ := hst.out w2 w7 v7 hk2.out hb27.out (hO7.mono (hk2.out.bel.size))
         replace hS8 := Lib.hid hS8
         clear hO7 hb7)
      | fail)
  have hK8 := Lib.hid hS8.out.1
  clear hS8 hr8 hb27 hd2 hS P1 hst hcl hk2
  obtain ⟨a0, a1, c4, c5, lt8, ltw⟩ := hK8.out.cells
  go_wp2_with fail
  exact bodyPost_ret (results_none rfl _ _ _) rfl ⟨rfl, _, _, hK8.out⟩
section
variable {w W : World} {pm bt bl c cl : Nat} {F : FaultC} {sv : Value} {l t : Int} {p : PostC} {o : Option (Nat × Nat × Nat)} {f : Int × Int → Option (Int × Option (Nat × Nat × Nat))} {G : Int → Option Int}
theorem KeepSt.storeLast (h : KeepSt w pm bt bl c cl F sv l t p o W f G) (hc : cl < 1000000000) (hl : 0 ≤ l ∧ l < 64) (ht : 0 ≤ t ∧ t ≤ 1099511627776) : ∃ W', (Instr.mapUpdate 102 (.map (some bl)) (.int .i64 l) (.int .i64 t)).run Try.prog W = .ok () W' ∧
    KeepSt w pm bt bl c (cl + 1) F sv l t p o W' f (fun k => if k = l then some t else G k) := by
  obtain ⟨W', hr, hm, hT, -⟩ := h.last.store (k := l) (val := .int .i64 t) Try.underlying102 hc (wfI l (by omega) (by omega)) (plainElem_int Try.underlying2 (wfI t (by omega) (by omega)))
  exact ⟨W', hr, h.setLast hT (hm.congr (fun x _ => by split <;> rfl))⟩
theorem KeepSt.dropTold (h : KeepSt w pm bt bl c cl F sv l t p o W f G) (x : Int × Int) (hx : plOk x) : ∃ W', (Builtin.delete_ #[101, 152] 0 #[.map (some bt), .agg #[.int .i64 x.1, .int .i64 x.2]]).run Try.prog W = .ok (.tuple #[]) W' ∧
    KeepSt w pm bt bl c cl F sv l t p o W' (fun y => if y = x then none else f y) G := by
  obtain ⟨W', hr, hm, hT, -⟩ := h.told.drop Try.underlying101 hx 0
  exact ⟨W', hr, h.setTold hT (hm.congr (fun x _ => by split <;> rfl))⟩
end
set_option maxHeartbeats 4000000 in
theorem keepC {M : Nat → Prop} {w : World} {pm bt bl c : Nat} {f : Int × Int → Option (Int × Option (Nat × Nat × Nat))} {F : FaultC} {T : Int × Int → Option PostC} {G : Int → Option Int} (h : MouthIs M w pm bt bl c f F T G) (hc : c < 900000000) (l t : Int) (p : PostC) (hp : PostOk p) (v : Value) (hw : WordAt 0 w v p.R)
    (hl : 0 ≤ l ∧ l < 64) (ht : 0 ≤ t ∧ t ≤ 1099511627776) (g : Int) (hg : G l = some g) (htg : t = g + 1) :
    Calls Try.prog 64 #[.pointer (some ⟨pm, 0, none⟩), plV (l, t), .agg #[.int .u8 p.s, v]] w fun e w' => e = .returned (.tuple #[]) ∧ ∃ sv o, KeepSt w pm bt bl c (c + 1) F sv l t p o w' (fun y => if y = (l, t - 64) then none else if y = (l, t) then some (p.s, o) else f y) (fun k => if k = l then some t else G k) := by
  have hgr := h.G l g hg
  obtain ⟨sv, hb, -⟩ := h.blk
  have hlw : intE.ok l := wfI l (by omega) (by omega)
  have hpl : plOk (l, t) := ⟨wfI l (by omega) (by omega), wfI t (by omega) (by omega)⟩
  have hv : ∃ a n k, v = .slice a n k := by obtain ⟨a, n, k, _, rfl, _⟩ := hw.len; exact ⟨a, n, k, rfl⟩
  obtain ⟨va, vn, vk, rfl⟩ := hv
  have hk := KeepAt.make w l t p.s (.slice va vn vk)
  have hcl : Hid (∀ W, Below w.heap.size w W → W.cell? ⟨pm, 4, none⟩ = some (.map (some bt)) ∧ W.cell? ⟨pm, 5, none⟩ = some (.map (some bl)) ∧ pm < W.heap.size ∧ (Instr.lookup 102 (.map (some bl)) (.int .i64 l) true).run Try.prog W = .ok (.tuple #[.int .i64 ((G l).getD 0), .bool (G l).isSome]) W) := fun W hW => by
    have h1 := hb.below hW hb.lt
    exact ⟨h1.cell (i := 4) rfl, h1.cell (i := 5) rfl, h1.lt, MapK.lookI (h.below hW).last hlw⟩
  have P1 : Hid (∀ W, Below w.heap.size w W → Calls Try.prog 63 #[.agg #[.int .u8 p.s, .slice va vn vk]] W fun e w' => ∃ v', e = .returned (.agg #[.int .u8 p.s, v']) ∧ OwnWord 97 163 W.heap.size w' v' p.R ∧ Below W.heap.size W w') := fun W hW =>
    ownP W p.s _ p.R (hw.below hW) hp.R (by have := hp.n; omega) (fun r hr => by have := hp.t r hr; omega)
  -- what stands behind the own call
  have hst : Hid (∀ w1 W v', KeepAt w l t p.s (.slice va vn vk) w1 → Below w1.heap.size w1 W → OwnWord 97 163 w.heap.size W v' p.R → ∃ o, v' = slV o ∧ ∃ W', (Instr.mapUpdate 101 (.map (some bt)) (.agg #[.int .i64 l, .int .i64 t]) (.agg #[.int .u8 p.s, v'])).run Try.prog W = .ok () W' ∧
      KeepSt w pm bt bl c c F sv l t p o W' (fun x => if x = (l, t) then some (p.s, o) else f x) G ∧ Blk W' (w.heap.size + 1) #[.int .u8 p.s, .slice va vn vk] 40) := by
    intro w1 W v' hk hW hO
    obtain ⟨o, rfl⟩ := hO.slV
    have hbW := bthen hk.bel hW
    have hM := h.below hbW
    obtain ⟨W', hr, hm, hT, -⟩ := hM.told.store Try.underlying101 (by omega) hpl (postE_of (p.s, o))
    have hB : ∀ g cs U, Blk W g cs U → Blk W' g cs U := fun g cs U hg => hg.touch hT (by simpa using (hM.told.ne_blk hg).symm)
    refine ⟨o, rfl, W', hr, ⟨(Touch.of_below hbW (Nat.le_refl _) _).trans (hT.mono (by simp)), hO.blk (fun g cs U _ hg => hB _ _ _ hg), hm.congr (fun x _ => by
      split <;> rfl), hM.last.block (hT.block _ hM.last.lt (by simpa using hM.ne.symm)), hB _ _ _ (hk.at'.below hW hk.at'.lt), hB _ _ _ (hb.below hbW hb.lt), hM.ne⟩, hB _ _ _ (hk.post.below hW hk.post.lt)⟩
  unfold plV
  clear h hb hw hlw hpl
  generalize hGl : (G l).getD 0 = last at *
  generalize hGs : (G l).isSome = is at *
  replace hGl := Lib.hid hGl
  replace hGs := Lib.hid hGs
  have eis : is = true := by rw [← hGs.out, hg]; rfl
  have ela : last = g := by rw [← hGl.out, hg]; rfl
  subst eis ela
  have w1' : IntKind.i64.wrap (last - 64) = last - 64 := wrapI _ (by omega) (by omega)
  have w2' : IntKind.i64.wrap (last + 1) = last + 1 := wrapI _ (by omega) (by omega)
  have w3' : IntKind.i64.wrap (t - 64) = t - 64 := wrapI _ (by omega) (by omega)
  have t1 : decide (t ≤ last - 64) = false := by simp; omega
  have t2 : decide (t ≤ last) = false := by simp; omega
  have t3 : (t == last + 1) = true := by simp [htg]
  replace htg := Lib.hid htg
  clear hg
  go_enter Try.func64, Try.ntmps64
  go_upto_region 1 with fail
  generalize (w.alloc (.cells #[.int .i64 l, .int .i64 t] 152)).alloc (.cells #[.int .u8 p.s, .slice va vn vk] 40) = w1 at *
  obtain ⟨c4, c5, lt5, lk⟩ := hcl.out _ hk.bel
  obtain ⟨d4, d5, dt5, dk⟩ := hcl.out _ (bdrewN hk.bel 1)
  have a0 : w1.cell? ⟨w.heap.size, 0, none⟩ = some (.int .i64 l) := hk.at'.cell (i := 0) rfl
  have a1 : w1.cell? ⟨w.heap.size, 1, none⟩ = some (.int .i64 t) := hk.at'.cell (i := 1) rfl
  have b0 : w1.cell? ⟨w.heap.size + 1, 0, none⟩ = some (.int .u8 p.s) := hk.post.cell (i := 0) rfl
  have b1 : w1.cell? ⟨w.heap.size + 1, 1, none⟩ = some (.slice va vn vk) := hk.post.cell (i := 1) rfl
  have hb1 := Lib.hid hk.bel
  replace hk := Lib.hid hk
  go_region_held3 (fun W => W.cell? ⟨w.heap.size, 0, none⟩ = some (.int .i64 l) ∧ W.cell? ⟨pm, 5, none⟩ = some (.map (some bl)) ∧ pm < W.heap.size ∧ (Instr.lookup 102 (.map (some bl)) (.int .i64 l) true).run Try.prog W = .ok (.tuple #[.int .i64 last,   .bool true]) W)
    (exact ⟨a0, d5, dt5, dk⟩)
    (fail)
  clear d4 d5 dt5 dk lk c5
  go_upto_region 3 with fail
  have hk2 : KeepAt w l t p.s (.slice va vn vk) w1.drew := ⟨bdrewN hk.out.bel 1, hk.out.at', hk.out.post⟩
  clear a0 a1 b0 b1 c4 lt5 hb1
  replace hk2 := Lib.hid hk2
  clear hk
  generalize w1.drew = w2 at *
  have hS : Hid (∀ W, Below w2.heap.size w2 W → W.cell? ⟨w.heap.size, 0, none⟩ = some (.int .i64 l) ∧ W.cell? ⟨w.heap.size, 1, none⟩ = some (.int .i64 t) ∧ W.cell? ⟨w.heap.size + 1, 0, none⟩ = some (.int .u8 p.s) ∧ W.cell? ⟨w.heap.size + 1, 1, none⟩ = some (.slice va vn vk) ∧ W.cell? ⟨pm, 4, none⟩ = some (.map (some bt)) ∧ pm < W.heap.size) := fun W hW => by
    have h1 := hcl.out W (bthen hk2.out.bel hW)
    have h2 := hk2.out.at'.below hW hk2.out.at'.lt
    have h3 := hk2.out.post.below hW hk2.out.post.lt
    exact ⟨h2.cell (i := 0) rfl, h2.cell (i := 1) rfl, h3.cell (i := 0) rfl, h3.cell (i := 1) rfl, h1.1, h1.2.2.1⟩
  have hd2 : Below w2.heap.size w2 w2.drew := below_drewN w2 1
  go_region_held3 (fun W => W.cell? ⟨w.heap.size, 0, none⟩ = some (.int .i64 l) ∧ W.cell? ⟨w.heap.size, 1, none⟩ = some (.int .i64 t) ∧ W.cell? ⟨w.heap.size + 1, 0, none⟩ = some (.int .u8 p.s) ∧ W.cell? ⟨w.heap.size + 1, 1, none⟩ = some (.slice va vn vk) ∧ W.cell? ⟨pm, 4, none⟩ = some (.map (some bt)) ∧ pm < W.heap.size)
    (first | exact hS.out _ hd2 | exact hS.out _ hb27.out | exact ⟨hS8.out.1.cells.1, hS8.out.1.cells.2.1, hS8.out.2.cell (i := 0) rfl, hS8.out.2.cell (i := 1) rfl, hS8.out.1.cells.2.2.1, hS8.out.1.cells.2.2.2.2.1⟩)
    (first
      | (go_at_call 63
         (with_reducible refine (P1.out _ (bthen hk2.out.bel hd2)).mono ?_)
         rintro e w7 ⟨v7, rfl, hO7, hb7⟩
         have hb27 := Lib.hid (bthen hd2 hb7)
         obtain ⟨o, rfl, w8, hr8, hS8⟩ := hst.out w2 w7 v7 hk2.out hb27.out (hO7.mono (hk2.out.bel.size))
         replace hS8 := Lib.hid hS8
         clear hO7 hb7)
      | fail)
  have hK8 := Lib.hid hS8.out.1
  clear hS8 hr8 hb27 hd2 hS P1 hst hcl hk2
  obtain ⟨a0, a1, c4, c5, lt8, ltw⟩ := hK8.out.cells
  go_upto_region 5 with fail
  obtain ⟨w9, hr9, hK9⟩ := (hK8.out.below (W' := w8.drew) (below_drewN w8 1)).storeLast (by omega) hl ht
  obtain ⟨e0, e1, e4, e5, elt, ewt⟩ := (hK8.out.below (W' := w8.drew) (below_drewN w8 1)).cells
  obtain ⟨f0, f1, f4, f5, flt, fwt⟩ := hK9.cells
  replace hK9 := Lib.hid hK9
  go_region_held3 (fun W => W.cell? ⟨w.heap.size, 0, none⟩ = some (.int .i64 l) ∧ W.cell? ⟨w.heap.size, 1, none⟩ = some (.int .i64 t) ∧ W.cell? ⟨pm, 5, none⟩ = some (.map (some bl)) ∧ pm < W.heap.size)
    (first | exact ⟨e0, e1, e5, elt⟩ | exact ⟨f0, f1, f5, flt⟩)
    (fail)
  clear a0 a1 c4 c5 lt8 ltw e0 e1 e4 e5 elt ewt hK8
  go_upto_region 7 with fail
  obtain ⟨w10, hr10, hK10⟩ := (hK9.out.below (W' := w9.drew) (below_drewN w9 1)).dropTold (l, t - 64) ⟨wfI l (by omega) (by omega), wfI (t - 64) (by omega) (by omega)⟩
  obtain ⟨e0, e1, e4, e5, elt, ewt⟩ := (hK9.out.below (W' := w9.drew) (below_drewN w9 1)).cells
  obtain ⟨g0, g1, g4, g5, glt, gwt⟩ := hK10.cells
  replace hK10 := Lib.hid hK10
  go_region_held3 (fun W => W.cell? ⟨w.heap.size, 0, none⟩ = some (.int .i64 l) ∧ W.cell? ⟨w.heap.size, 1, none⟩ = some (.int .i64 t) ∧ W.cell? ⟨pm, 4, none⟩ = some (.map (some bt)) ∧ pm < W.heap.size)
    (first | exact ⟨e0, e1, e4, elt⟩ | exact ⟨g0, g1, g4, glt⟩)
    (fail)
  go_wp2_with fail
  exact bodyPost_ret (results_none rfl _ _ _) rfl ⟨rfl, _, _, hK10.out⟩
end Go.Proofs.Ytmdohnbhogfopaa
/- keep: with the loop over all that was told. -/
namespace Go.Proofs.Ytmdohnbhogfopaa
open Go.RowKit Go.Maps
set_option linter.unusedSimpArgs false
set_option linter.unusedVariables false
set_option maxRecDepth 100000
theorem RngK.congr {K : TypeId} {κ : Type} {E : KeyEnc K κ} {w : World} {R : Value → Option (DataW Unit × List MemPlace)} {b r n cnt : Nat} {f f' : κ → Option (DataW Unit)} {todo : κ → Bool} (h : RngK E w R b r n f todo cnt) (e : ∀ x, E.ok x → f x = f' x) : RngK E w R b r n f' todo cnt := by
  obtain ⟨D, left, h1, h2, h3⟩ := h
  exact ⟨D, left, h1, fun x hx z => by rw [h2 x hx, e x hx], h3⟩
/-- In the loop. -/
structure KeepLp (w : World) (pm bt bl c cl : Nat) (F : FaultC) (sv : Value) (l t : Int) (p : PostC) (o : Option (Nat × Nat × Nat)) (f1 : Int × Int → Option (Int × Option (Nat × Nat × Nat))) (G : Int → Option Int) (r cnt : Nat) (W : World) (f : Int × Int → Option (Int × Option (Nat × Nat × Nat))) (todo : Int × Int → Bool) : Prop where
  st : KeepSt w pm bt bl c cl F sv l t p o W f G
  rng : RngK placeE W postE bt r (c + 1) (fun x => (f x).map postD) todo cnt
  old : ∀ x, plOk x → x.1 = l ∧ x.2 ≤ t - 64 → todo x = false → f x = none
  new : ∀ x, plOk x → ¬ (x.1 = l ∧ x.2 ≤ t - 64 ∧ todo x = false) → f x = f1 x
  ge : w.heap.size ≤ r
section
variable {w W W' : World} {pm bt bl c cl r cnt : Nat} {F : FaultC} {sv : Value} {l t : Int} {p : PostC} {o : Option (Nat × Nat × Nat)} {f1 f : Int × Int → Option (Int × Option (Nat × Nat × Nat))} {G : Int → Option Int} {todo : Int × Int → Bool}
theorem KeepLp.below (h : KeepLp w pm bt bl c cl F sv l t p o f1 G r cnt W f todo) (hb : Below W.heap.size W W') : KeepLp w pm bt bl c cl F sv l t p o f1 G r cnt W' f todo :=
  ⟨h.st.below hb, h.rng.block (hb.block _ h.rng.map.lt) (hb.block _ h.rng.lt), h.old, h.new, h.ge⟩
theorem KeepLp.fin (h : KeepLp w pm bt bl c cl F sv l t p o f1 G r cnt W f todo) (h0 : ∀ x, plOk x → todo x = false) : KeepSt w pm bt bl c cl F sv l t p o W (fun y => if y.1 = l ∧ y.2 ≤ t - 64 then none else f1 y) G := by
  have e : ∀ x, plOk x → f x = if x.1 = l ∧ x.2 ≤ t - 64 then none else f1 x := fun x hx => by
    by_cases hq : x.1 = l ∧ x.2 ≤ t - 64
    · rw [if_pos hq]
      exact h.old x hx hq (h0 x hx)
    · rw [if_neg hq]
      exact h.new x hx (fun h1 => hq ⟨h1.1, h1.2.1⟩)
  exact ⟨h.st.touch, h.st.own, h.st.told.congr (fun x hx => by rw [e x hx]), h.st.last, h.st.at', h.st.mouth, h.st.ne⟩
/-- A key comes that is kept. -/
theorem KeepLp.pass {cnt' : Nat} (h : KeepLp w pm bt bl c cl F sv l t p o f1 G r cnt W f todo) (x : Int × Int) (hx : plOk x) (hT : Touch [r] W W') (hr : RngK placeE W' postE bt r (c + 1) (fun x => (f x).map postD) (fun y => todo y && !decide (y = x)) cnt')
    (hq : ¬ (x.1 = l ∧ x.2 ≤ t - 64)) : KeepLp w pm bt bl c cl F sv l t p o f1 G r cnt' W' f (fun y => todo y && !decide (y = x)) := by
  refine ⟨h.st.setIter hT h.ge h.rng.ne (h.rng.ne_map h.st.last) (fun g cs U hg => h.rng.ne_blk hg), hr, fun y hy h1 h2 => ?_, fun y hy h1 => ?_, h.ge⟩
  · by_cases e : y = x
    · subst e
      exact absurd h1 hq
    · exact h.old y hy h1 (by simpa [e] using h2)
  · by_cases e : y = x
    · subst e
      exact h.new y hy (fun h2 => hq ⟨h2.1, h2.2.1⟩)
    · exact h.new y hy (fun h2 => h1 ⟨h2.1, h2.2.1, by simp [h2.2.2]⟩)
/-- A key comes that is too old. -/
theorem KeepLp.come {cnt' : Nat} (h : KeepLp w pm bt bl c cl F sv l t p o f1 G r cnt W f todo) (x : Int × Int) (hx : plOk x) (hT : Touch [r] W W') (hr : RngK placeE W' postE bt r (c + 1) (fun x => (f x).map postD) (fun y => todo y && !decide (y = x)) cnt') :
    KeepSt w pm bt bl c cl F sv l t p o W' f G := h.st.setIter hT h.ge h.rng.ne (h.rng.ne_map h.st.last) (fun g cs U hg => h.rng.ne_blk hg)
theorem KeepLp.drop {cnt' : Nat} (h : KeepLp w pm bt bl c cl F sv l t p o f1 G r cnt W f todo) (x : Int × Int) (hx : plOk x) {W1 : World} (hS : KeepSt w pm bt bl c cl F sv l t p o W1 f G) (hr : RngK placeE W1 postE bt r (c + 1) (fun x => (f x).map postD) (fun y => todo y && !decide (y = x)) cnt')
    (hq : x.1 = l ∧ x.2 ≤ t - 64) : ∃ W2 cnt2, (Builtin.delete_ #[101, 152] 0 #[.map (some bt), .agg #[.int .i64 x.1, .int .i64 x.2]]).run Try.prog W1 = .ok (.tuple #[]) W2 ∧ cnt2 ≤ cnt' ∧ (∀ g cs U, Blk W1 g cs U → Blk W2 g cs U) ∧
      KeepLp w pm bt bl c cl F sv l t p o f1 G r cnt2 W2 (fun y => if y = x then none else f y) (fun y => todo y && !decide (y = x)) := by
  obtain ⟨W2, cnt2, hd, hr2, hle, hT2, -⟩ := hr.drop Try.underlying101 hx 0
  have e1 : (fun y => (todo y && !decide (y = x)) && !decide (y = x)) = fun y => todo y && !decide (y = x) := by
    funext y
    cases todo y <;> cases decide (y = x) <;> rfl
  rw [e1] at hr2
  have hr3 := hr2.congr (f' := fun y => (if y = x then none else f y).map postD) (fun y _ => by split <;> rfl)
  refine ⟨W2, cnt2, hd, hle, fun g cs U hg => hg.touch hT2 (by simpa using (hr.map.ne_blk hg).symm), hS.setTold hT2 hr3.map, hr3, fun y hy h1 h2 => ?_, fun y hy h1 => ?_, h.ge⟩
  · by_cases e : y = x
    · simp [e]
    · simp only [e, if_false]
      exact h.old y hy h1 (by simpa [e] using h2)
  · by_cases e : y = x
    · subst e
      exact absurd ⟨hq.1, hq.2, by simp⟩ h1
    · simp only [e, if_false]
      exact h.new y hy (fun h2 => h1 ⟨h2.1, h2.2.1, by simp [h2.2.2]⟩)
theorem KeepSt.range (h : KeepSt w pm bt bl c cl F sv l t p o W f G) : ∃ W' cnt, (Instr.range 101 (.map (some bt))).run Try.prog W = .ok (.pointer (some ⟨W.heap.size, 0, none⟩)) W' ∧ KeepLp w pm bt bl c cl F sv l t p o f G W.heap.size cnt W' f (fun x => (f x).isSome) := by
  obtain ⟨W', cnt, hr, hg, hb, hs⟩ := h.told.range Try.underlying101
  refine ⟨W', cnt, hr, h.below hb, ?_, fun x hx h1 h2 => ?_, fun x hx _ => rfl, h.touch.size⟩
  · have e : (fun x => ((f x).map postD).isSome) = fun x => (f x).isSome := by
      funext x
      cases f x <;> rfl
    rw [e] at hg
    exact hg
  · cases hf : f x with
    | none => rfl
    | some y => rw [hf] at h2; cases h2
end
def InvK (w : World) (pm bt bl c cl : Nat) (F : FaultC) (sv : Value) (l t : Int) (p : PostC) (o : Option (Nat × Nat × Nat)) (f1 : Int × Int → Option (Int × Option (Nat × Nat × Nat))) (G : Int → Option Int) (r : Nat) (k : Nat) (a : Act) (wr : World) : Prop :=
  ∃ f todo, Hid (KeepLp w pm bt bl c cl F sv l t p o f1 G r k wr f todo) ∧ a.tmps.size = 94 ∧ a.defers = [] ∧ slot a 0 = .pointer (some ⟨pm, 0, none⟩) ∧ slot a 4 = .pointer (some ⟨w.heap.size, 0, none⟩) ∧ slot a 71 = .pointer (some ⟨r, 0, none⟩)
set_option maxHeartbeats 8000000 in
theorem keepD {M : Nat → Prop} {w : World} {pm bt bl c : Nat} {f : Int × Int → Option (Int × Option (Nat × Nat × Nat))} {F : FaultC} {T : Int × Int → Option PostC} {G : Int → Option Int} (h : MouthIs M w pm bt bl c f F T G) (hc : c < 900000000) (l t : Int) (p : PostC) (hp : PostOk p) (v : Value) (hw : WordAt 0 w v p.R)
    (hl : 0 ≤ l ∧ l < 64) (ht : 0 ≤ t ∧ t ≤ 1099511627776) (g : Int) (hg : G l = some g) (htg : g + 1 < t) :
    Calls Try.prog 64 #[.pointer (some ⟨pm, 0, none⟩), plV (l, t), .agg #[.int .u8 p.s, v]] w fun e w' => e = .returned (.tuple #[]) ∧ ∃ sv o, KeepSt w pm bt bl c (c + 1) F sv l t p o w' (fun y => if y.1 = l ∧ y.2 ≤ t - 64 then none else if y = (l, t) then some (p.s, o) else f y) (fun k => if k = l then some t else G k) := by
  have hgr := h.G l g hg
  obtain ⟨sv, hb, -⟩ := h.blk
  have hlw : intE.ok l := wfI l (by omega) (by omega)
  have hpl : plOk (l, t) := ⟨wfI l (by omega) (by omega), wfI t (by omega) (by omega)⟩
  have hv : ∃ a n k, v = .slice a n k := by obtain ⟨a, n, k, _, rfl, _⟩ := hw.len; exact ⟨a, n, k, rfl⟩
  obtain ⟨va, vn, vk, rfl⟩ := hv
  have hk := KeepAt.make w l t p.s (.slice va vn vk)
  have hcl : Hid (∀ W, Below w.heap.size w W → W.cell? ⟨pm, 4, none⟩ = some (.map (some bt)) ∧ W.cell? ⟨pm, 5, none⟩ = some (.map (some bl)) ∧ pm < W.heap.size ∧ (Instr.lookup 102 (.map (some bl)) (.int .i64 l) true).run Try.prog W = .ok (.tuple #[.int .i64 ((G l).getD 0), .bool (G l).isSome]) W) := fun W hW => by
    have h1 := hb.below hW hb.lt
    exact ⟨h1.cell (i := 4) rfl, h1.cell (i := 5) rfl, h1.lt, MapK.lookI (h.below hW).last hlw⟩
  have P1 : Hid (∀ W, Below w.heap.size w W → Calls Try.prog 63 #[.agg #[.int .u8 p.s, .slice va vn vk]] W fun e w' => ∃ v', e = .returned (.agg #[.int .u8 p.s, v']) ∧ OwnWord 97 163 W.heap.size w' v' p.R ∧ Below W.heap.size W w') := fun W hW =>
    ownP W p.s _ p.R (hw.below hW) hp.R (by have := hp.n; omega) (fun r hr => by have := hp.t r hr; omega)
  -- what stands behind the own call
  have hst : Hid (∀ w1 W v', KeepAt w l t p.s (.slice va vn vk) w1 → Below w1.heap.size w1 W → OwnWord 97 163 w.heap.size W v' p.R → ∃ o, v' = slV o ∧ ∃ W', (Instr.mapUpdate 101 (.map (some bt)) (.agg #[.int .i64 l, .int .i64 t]) (.agg #[.int .u8 p.s, v'])).run Try.prog W = .ok () W' ∧
      KeepSt w pm bt bl c c F sv l t p o W' (fun x => if x = (l, t) then some (p.s, o) else f x) G ∧ Blk W' (w.heap.size + 1) #[.int .u8 p.s, .slice va vn vk] 40) := by
    intro w1 W v' hk hW hO
    obtain ⟨o, rfl⟩ := hO.slV
    have hbW := bthen hk.bel hW
    have hM := h.below hbW
    obtain ⟨W', hr, hm, hT, -⟩ := hM.told.store Try.underlying101 (by omega) hpl (postE_of (p.s, o))
    have hB : ∀ g cs U, Blk W g cs U → Blk W' g cs U := fun g cs U hg => hg.touch hT (by simpa using (hM.told.ne_blk hg).symm)
    refine ⟨o, rfl, W', hr, ⟨(Touch.of_below hbW (Nat.le_refl _) _).trans (hT.mono (by simp)), hO.blk (fun g cs U _ hg => hB _ _ _ hg), hm.congr (fun x _ => by
      split <;> rfl), hM.last.block (hT.block _ hM.last.lt (by simpa using hM.ne.symm)), hB _ _ _ (hk.at'.below hW hk.at'.lt), hB _ _ _ (hb.below hbW hb.lt), hM.ne⟩, hB _ _ _ (hk.post.below hW hk.post.lt)⟩
  unfold plV
  clear h hb hw hlw hpl
  generalize hGl : (G l).getD 0 = last at *
  generalize hGs : (G l).isSome = is at *
  replace hGl := Lib.hid hGl
  replace hGs := Lib.hid hGs
  have eis : is = true := by rw [← hGs.out, hg]; rfl
  have ela : last = g := by rw [← hGl.out, hg]; rfl
  subst eis ela
  have w1' : IntKind.i64.wrap (last - 64) = last - 64 := wrapI _ (by omega) (by omega)
  have w2' : IntKind.i64.wrap (last + 1) = last + 1 := wrapI _ (by omega) (by omega)
  have w3' : IntKind.i64.wrap (t - 64) = t - 64 := wrapI _ (by omega) (by omega)
  have t1 : decide (t ≤ last - 64) = false := by simp; omega
  have t2 : decide (t ≤ last) = false := by simp; omega
  have t3 : (t == last + 1) = false := by simp; omega
  replace htg := Lib.hid htg
  clear hg
  go_enter Try.func64, Try.ntmps64
  go_upto_region 1 with fail
  generalize (w.alloc (.cells #[.int .i64 l, .int .i64 t] 152)).alloc (.cells #[.int .u8 p.s, .slice va vn vk] 40) = w1 at *
  obtain ⟨c4, c5, lt5, lk⟩ := hcl.out _ hk.bel
  obtain ⟨d4, d5, dt5, dk⟩ := hcl.out _ (bdrewN hk.bel 1)
  have a0 : w1.cell? ⟨w.heap.size, 0, none⟩ = some (.int .i64 l) := hk.at'.cell (i := 0) rfl
  have a1 : w1.cell? ⟨w.heap.size, 1, none⟩ = some (.int .i64 t) := hk.at'.cell (i := 1) rfl
  have b0 : w1.cell? ⟨w.heap.size + 1, 0, none⟩ = some (.int .u8 p.s) := hk.post.cell (i := 0) rfl
  have b1 : w1.cell? ⟨w.heap.size + 1, 1, none⟩ = some (.slice va vn vk) := hk.post.cell (i := 1) rfl
  have hb1 := Lib.hid hk.bel
  replace hk := Lib.hid hk
  go_region_held3 (fun W => W.cell? ⟨w.heap.size, 0, none⟩ = some (.int .i64 l) ∧ W.cell? ⟨pm, 5, none⟩ = some (.map (some bl)) ∧ pm < W.heap.size ∧ (Instr.lookup 102 (.map (some bl)) (.int .i64 l) true).run Try.prog W = .ok (.tuple #[.int .i64 last,   .bool true]) W)
    (exact ⟨a0, d5, dt5, dk⟩)
    (fail)
  clear d4 d5 dt5 dk lk c5
  go_upto_region 3 with fail
  have hk2 : KeepAt w l t p.s (.slice va vn vk) w1.drew := ⟨bdrewN hk.out.bel 1, hk.out.at', hk.out.post⟩
  clear a0 a1 b0 b1 c4 lt5 hb1
  replace hk2 := Lib.hid hk2
  clear hk
  generalize w1.drew = w2 at *
  have hS : Hid (∀ W, Below w2.heap.size w2 W → W.cell? ⟨w.heap.size, 0, none⟩ = some (.int .i64 l) ∧ W.cell? ⟨w.heap.size, 1, none⟩ = some (.int .i64 t) ∧ W.cell? ⟨w.heap.size + 1, 0, none⟩ = some (.int .u8 p.s) ∧ W.cell? ⟨w.heap.size + 1, 1, none⟩ = some (.slice va vn vk) ∧ W.cell? ⟨pm, 4, none⟩ = some (.map (some bt)) ∧ pm < W.heap.size) := fun W hW => by
    have h1 := hcl.out W (bthen hk2.out.bel hW)
    have h2 := hk2.out.at'.below hW hk2.out.at'.lt
    have h3 := hk2.out.post.below hW hk2.out.post.lt
    exact ⟨h2.cell (i := 0) rfl, h2.cell (i := 1) rfl, h3.cell (i := 0) rfl, h3.cell (i := 1) rfl, h1.1, h1.2.2.1⟩
  have hd2 : Below w2.heap.size w2 w2.drew := below_drewN w2 1
  go_region_held3 (fun W => W.cell? ⟨w.heap.size, 0, none⟩ = some (.int .i64 l) ∧ W.cell? ⟨w.heap.size, 1, none⟩ = some (.int .i64 t) ∧ W.cell? ⟨w.heap.size + 1, 0, none⟩ = some (.int .u8 p.s) ∧ W.cell? ⟨w.heap.size + 1, 1, none⟩ = some (.slice va vn vk) ∧ W.cell? ⟨pm, 4, none⟩ = some (.map (some bt)) ∧ pm < W.heap.size)
    (first | exact hS.out _ hd2 | exact hS.out _ hb27.out | exact ⟨hS8.out.1.cells.1, hS8.out.1.cells.2.1, hS8.out.2.cell (i := 0) rfl, hS8.out.2.cell (i := 1) rfl, hS8.out.1.cells.2.2.1, hS8.out.1.cells.2.2.2.2.1⟩)
    (first
      | (go_at_call 63
         (with_reducible refine (P1.out _ (bthen hk2.out.bel hd2)).mono ?_)
         rintro e w7 ⟨v7, rfl, hO7, hb7⟩
         have hb27 := Lib.hid (bthen hd2 hb7)
         obtain ⟨o, rfl, w8, hr8, hS8⟩ := hst.out w2 w7 v7 hk2.out hb27.out (hO7.mono (hk2.out.bel.size))
         replace hS8 := Lib.hid hS8
         clear hO7 hb7)
      | fail)
  have hK8 := Lib.hid hS8.out.1
  clear hS8 hr8 hb27 hd2 hS P1 hst hcl hk2
  obtain ⟨a0, a1, c4, c5, lt8, ltw⟩ := hK8.out.cells
  go_upto_region 5 with fail
  obtain ⟨w9, hr9, hK9⟩ := (hK8.out.below (W' := w8.drew) (below_drewN w8 1)).storeLast (by omega) hl ht
  obtain ⟨e0, e1, e4, e5, elt, ewt⟩ := (hK8.out.below (W' := w8.drew) (below_drewN w8 1)).cells
  obtain ⟨f0, f1, f4, f5, flt, fwt⟩ := hK9.cells
  replace hK9 := Lib.hid hK9
  go_region_held3 (fun W => W.cell? ⟨w.heap.size, 0, none⟩ = some (.int .i64 l) ∧ W.cell? ⟨w.heap.size, 1, none⟩ = some (.int .i64 t) ∧ W.cell? ⟨pm, 5, none⟩ = some (.map (some bl)) ∧ pm < W.heap.size)
    (first | exact ⟨e0, e1, e5, elt⟩ | exact ⟨f0, f1, f5, flt⟩)
    (fail)
  clear a0 a1 c4 c5 lt8 ltw e0 e1 e4 e5 elt ewt hK8
  obtain ⟨w10, cnt, hr10, hL10⟩ := hK9.out.range
  replace hL10 := Lib.hid hL10
  go_wp2_with fail
  refine wp_loop_k (InvK w pm bt bl c (c + 1) F sv l t p o (fun x => if x = (l, t) then some (p.s, o) else f x) (fun k => if k = l then some t else G k) w9.heap.size) cnt ?_ ?_
  · exact ⟨_, _, hL10, by kernel_rfl, rfl, by kernel_rfl, by kernel_rfl, by kernel_rfl⟩
  clear hL10 hr10 f0 f1 f4 f5 flt fwt hr9
  intro gk a wr hI K hK
  obtain ⟨fc, todo, hL, hs', hd', k0', k4', k71'⟩ := hI
  rw [fr94 a hs' hd']; simp only [k0', k4', k71']; clear hs' hd' k0' k4' k71'
  rcases hL.out.rng.next 0 with ⟨h0, hl0, hrun⟩ | ⟨x, v, w11, cnt', hx, htd, hrun, hrg, hlt', hT, hsz, hen⟩
  · have hF := Lib.hid (hL.out.fin hl0)
    clear hL hl0
    go_wp2_with fail
    go_end0
    exact ⟨rfl, _, _, hF.out⟩
  · have hr1 : (Instr.next (.pointer (some ⟨w9.heap.size, 0, none⟩)) false 0).run Try.prog wr = .ok (.tuple #[.bool true, .agg #[.int .i64 x.1, .int .i64 x.2], v]) w11 := hrun
    have he1 : (Instr.entry (.pointer (some ⟨w9.heap.size, 0, none⟩))).run Try.prog w11 = .ok (.tuple #[.agg #[.int .i64 x.1, .int .i64 x.2], v]) w11 := hen
    clear hrun hen hsz
    have hS := Lib.hid (hL.out.come x hx hT hrg)
    obtain ⟨a0, a1, c4, c5, lt11, ltw⟩ := hS.out.cells
    replace hT := Lib.hid hT
    replace hrg := Lib.hid hrg
    by_cases hq : x.1 = l ∧ x.2 ≤ t - 64
    · have q1 : (x.1 == l) = true := by simp [hq.1]
      have q2 : decide (x.2 ≤ t - 64) = true := by simp [hq.2]
      replace hq := Lib.hid hq
      go_upto_region 12 with fail
      have hb12 : Below w11.heap.size w11 (w11.alloc (.cells #[.int .i64 x.1, .int .i64 x.2] 152)).drew := bdrewN (below_alloc _ _) 1
      have hr12 := hrg.out.block (hb12.block _ hrg.out.map.lt) (hb12.block _ hrg.out.lt)
      have hS12 := hS.out.below hb12
      have hp12 : Blk (w11.alloc (.cells #[.int .i64 x.1, .int .i64 x.2] 152)).drew w11.heap.size #[.int .i64 x.1, .int .i64 x.2] 152 := Blk.new _ _ _
      obtain ⟨w13, cnt2, hd, hle, hB, hL13⟩ := hL.out.drop x hx hS12 hr12 hq.out
      have hp13 := hB _ _ _ hp12
      have c12 := hS12.cells.2.2.1
      have l12 := hS12.cells.2.2.2.2.1
      have c13 := hL13.st.cells.2.2.1
      have l13 := hL13.st.cells.2.2.2.2.1
      have y0 := hp12.cell (i := 0) rfl
      have y1 := hp12.cell (i := 1) rfl
      have z0 := hp13.cell (i := 0) rfl
      have z1 := hp13.cell (i := 1) rfl
      replace hL13 := Lib.hid hL13
      clear hL hS hT hrg hr12 hS12 hp12 hp13 hB hb12 a0 a1 c4 c5 lt11 ltw
      generalize w11.alloc (.cells #[.int .i64 x.1, .int .i64 x.2] 152) = w12 at *
      go_region_held3 (fun W => W.cell? ⟨w11.heap.size, 0, none⟩ = some (.int .i64 x.1) ∧ W.cell? ⟨w11.heap.size, 1, none⟩ = some (.int .i64 x.2) ∧ W.cell? ⟨pm, 4, none⟩ = some (.map (some bt)) ∧ pm < W.heap.size)
        (first | exact ⟨y0, y1, c12, l12⟩ | exact ⟨z0, z1, c13, l13⟩)
        (fail)
      go_wp2_with fail
      exact hK cnt2 _ _ (by omega) ⟨_, _, hL13, by kernel_rfl, rfl, by kernel_rfl, by kernel_rfl, by kernel_rfl⟩
    · have hP := Lib.hid (hL.out.pass x hx hT.out hrg.out hq)
      have hP2 := Lib.hid (hP.out.below (below_alloc w11 (.cells #[.int .i64 x.1, .int .i64 x.2] 152)))
      clear hL hT hrg hP hS
      by_cases hq1 : x.1 = l
      · have q1 : (x.1 == l) = true := by simp [hq1]
        have q2 : decide (x.2 ≤ t - 64) = false := by simp; omega
        replace hq := Lib.hid hq
        replace hq1 := Lib.hid hq1
        go_wp2_with fail
        exact hK cnt' _ _ hlt' ⟨_, _, hP2, by kernel_rfl, rfl, by kernel_rfl, by kernel_rfl, by kernel_rfl⟩
      · have q1 : (x.1 == l) = false := by simp [hq1]
        replace hq := Lib.hid hq
        replace hq1 := Lib.hid hq1
        go_wp2_with fail
        exact hK cnt' _ _ hlt' ⟨_, _, hP2, by kernel_rfl, rfl, by kernel_rfl, by kernel_rfl, by kernel_rfl⟩
set_option maxHeartbeats 8000000 in
theorem keepE {M : Nat → Prop} {w : World} {pm bt bl c : Nat} {f : Int × Int → Option (Int × Option (Nat × Nat × Nat))} {F : FaultC} {T : Int × Int → Option PostC} {G : Int → Option Int} (h : MouthIs M w pm bt bl c f F T G) (hc : c < 900000000) (l t : Int) (p : PostC) (hp : PostOk p) (v : Value) (hw : WordAt 0 w v p.R)
    (hl : 0 ≤ l ∧ l < 64) (ht : 0 ≤ t ∧ t ≤ 1099511627776) (hg : G l = none) :
    Calls Try.prog 64 #[.pointer (some ⟨pm, 0, none⟩), plV (l, t), .agg #[.int .u8 p.s, v]] w fun e w' => e = .returned (.tuple #[]) ∧ ∃ sv o, KeepSt w pm bt bl c (c + 1) F sv l t p o w' (fun y => if y.1 = l ∧ y.2 ≤ t - 64 then none else if y = (l, t) then some (p.s, o) else f y) (fun k => if k = l then some t else G k) := by
  obtain ⟨sv, hb, -⟩ := h.blk
  have hlw : intE.ok l := wfI l (by omega) (by omega)
  have hpl : plOk (l, t) := ⟨wfI l (by omega) (by omega), wfI t (by omega) (by omega)⟩
  have hv : ∃ a n k, v = .slice a n k := by obtain ⟨a, n, k, _, rfl, _⟩ := hw.len; exact ⟨a, n, k, rfl⟩
  obtain ⟨va, vn, vk, rfl⟩ := hv
  have hk := KeepAt.make w l t p.s (.slice va vn vk)
  have hcl : Hid (∀ W, Below w.heap.size w W → W.cell? ⟨pm, 4, none⟩ = some (.map (some bt)) ∧ W.cell? ⟨pm, 5, none⟩ = some (.map (some bl)) ∧ pm < W.heap.size ∧ (Instr.lookup 102 (.map (some bl)) (.int .i64 l) true).run Try.prog W = .ok (.tuple #[.int .i64 ((G l).getD 0), .bool (G l).isSome]) W) := fun W hW => by
    have h1 := hb.below hW hb.lt
    exact ⟨h1.cell (i := 4) rfl, h1.cell (i := 5) rfl, h1.lt, MapK.lookI (h.below hW).last hlw⟩
  have P1 : Hid (∀ W, Below w.heap.size w W → Calls Try.prog 63 #[.agg #[.int .u8 p.s, .slice va vn vk]] W fun e w' => ∃ v', e = .returned (.agg #[.int .u8 p.s, v']) ∧ OwnWord 97 163 W.heap.size w' v' p.R ∧ Below W.heap.size W w') := fun W hW =>
    ownP W p.s _ p.R (hw.below hW) hp.R (by have := hp.n; omega) (fun r hr => by have := hp.t r hr; omega)
  -- what stands behind the own call
  have hst : Hid (∀ w1 W v', KeepAt w l t p.s (.slice va vn vk) w1 → Below w1.heap.size w1 W → OwnWord 97 163 w.heap.size W v' p.R → ∃ o, v' = slV o ∧ ∃ W', (Instr.mapUpdate 101 (.map (some bt)) (.agg #[.int .i64 l, .int .i64 t]) (.agg #[.int .u8 p.s, v'])).run Try.prog W = .ok () W' ∧
      KeepSt w pm bt bl c c F sv l t p o W' (fun x => if x = (l, t) then some (p.s, o) else f x) G ∧ Blk W' (w.heap.size + 1) #[.int .u8 p.s, .slice va vn vk] 40) := by
    intro w1 W v' hk hW hO
    obtain ⟨o, rfl⟩ := hO.slV
    have hbW := bthen hk.bel hW
    have hM := h.below hbW
    obtain ⟨W', hr, hm, hT, -⟩ := hM.told.store Try.underlying101 (by omega) hpl (postE_of (p.s, o))
    have hB : ∀ g cs U, Blk W g cs U → Blk W' g cs U := fun g cs U hg => hg.touch hT (by simpa using (hM.told.ne_blk hg).symm)
    refine ⟨o, rfl, W', hr, ⟨(Touch.of_below hbW (Nat.le_refl _) _).trans (hT.mono (by simp)), hO.blk (fun g cs U _ hg => hB _ _ _ hg), hm.congr (fun x _ => by
      split <;> rfl), hM.last.block (hT.block _ hM.last.lt (by simpa using hM.ne.symm)), hB _ _ _ (hk.at'.below hW hk.at'.lt), hB _ _ _ (hb.below hbW hb.lt), hM.ne⟩, hB _ _ _ (hk.post.below hW hk.post.lt)⟩
  unfold plV
  clear h hb hw hlw hpl
  generalize hGl : (G l).getD 0 = last at *
  generalize hGs : (G l).isSome = is at *
  replace hGl := Lib.hid hGl
  replace hGs := Lib.hid hGs
  have eis : is = false := by rw [← hGs.out, hg]; rfl
  have ela : last = 0 := by rw [← hGl.out, hg]; rfl
  subst eis ela
  have w3' : IntKind.i64.wrap (t - 64) = t - 64 := wrapI _ (by omega) (by omega)
  clear hg
  go_enter Try.func64, Try.ntmps64
  go_upto_region 1 with fail
  generalize (w.alloc (.cells #[.int .i64 l, .int .i64 t] 152)).alloc (.cells #[.int .u8 p.s, .slice va vn vk] 40) = w1 at *
  obtain ⟨c4, c5, lt5, lk⟩ := hcl.out _ hk.bel
  obtain ⟨d4, d5, dt5, dk⟩ := hcl.out _ (bdrewN hk.bel 1)
  have a0 : w1.cell? ⟨w.heap.size, 0, none⟩ = some (.int .i64 l) := hk.at'.cell (i := 0) rfl
  have a1 : w1.cell? ⟨w.heap.size, 1, none⟩ = some (.int .i64 t) := hk.at'.cell (i := 1) rfl
  have b0 : w1.cell? ⟨w.heap.size + 1, 0, none⟩ = some (.int .u8 p.s) := hk.post.cell (i := 0) rfl
  have b1 : w1.cell? ⟨w.heap.size + 1, 1, none⟩ = some (.slice va vn vk) := hk.post.cell (i := 1) rfl
  have hb1 := Lib.hid hk.bel
  replace hk := Lib.hid hk
  go_region_held3 (fun W => W.cell? ⟨w.heap.size, 0, none⟩ = some (.int .i64 l) ∧ W.cell? ⟨pm, 5, none⟩ = some (.map (some bl)) ∧ pm < W.heap.size ∧ (Instr.lookup 102 (.map (some bl)) (.int .i64 l) true).run Try.prog W = .ok (.tuple #[Value.int .i64 0, .bool false]) W)
    (exact ⟨a0, d5, dt5, dk⟩)
    (fail)
  clear d4 d5 dt5 dk lk c5
  go_upto_region 3 with fail
  have hk2 : KeepAt w l t p.s (.slice va vn vk) w1.drew := ⟨bdrewN hk.out.bel 1, hk.out.at', hk.out.post⟩
  clear a0 a1 b0 b1 c4 lt5 hb1
  replace hk2 := Lib.hid hk2
  clear hk
  generalize w1.drew = w2 at *
  have hS : Hid (∀ W, Below w2.heap.size w2 W → W.cell? ⟨w.heap.size, 0, none⟩ = some (.int .i64 l) ∧ W.cell? ⟨w.heap.size, 1, none⟩ = some (.int .i64 t) ∧ W.cell? ⟨w.heap.size + 1, 0, none⟩ = some (.int .u8 p.s) ∧ W.cell? ⟨w.heap.size + 1, 1, none⟩ = some (.slice va vn vk) ∧ W.cell? ⟨pm, 4, none⟩ = some (.map (some bt)) ∧ pm < W.heap.size) := fun W hW => by
    have h1 := hcl.out W (bthen hk2.out.bel hW)
    have h2 := hk2.out.at'.below hW hk2.out.at'.lt
    have h3 := hk2.out.post.below hW hk2.out.post.lt
    exact ⟨h2.cell (i := 0) rfl, h2.cell (i := 1) rfl, h3.cell (i := 0) rfl, h3.cell (i := 1) rfl, h1.1, h1.2.2.1⟩
  have hd2 : Below w2.heap.size w2 w2.drew := below_drewN w2 1
  go_region_held3 (fun W => W.cell? ⟨w.heap.size, 0, none⟩ = some (.int .i64 l) ∧ W.cell? ⟨w.heap.size, 1, none⟩ = some (.int .i64 t) ∧ W.cell? ⟨w.heap.size + 1, 0, none⟩ = some (.int .u8 p.s) ∧ W.cell? ⟨w.heap.size + 1, 1, none⟩ = some (.slice va vn vk) ∧ W.cell? ⟨pm, 4, none⟩ = some (.map (some bt)) ∧ pm < W.heap.size)
    (first | exact hS.out _ hd2 | exact hS.out _ hb27.out | exact ⟨hS8.out.1.cells.1, hS8.out.1.cells.2.1, hS8.out.2.cell (i := 0) rfl, hS8.out.2.cell (i := 1) rfl, hS8.out.1.cells.2.2.1, hS8.out.1.cells.2.2.2.2.1⟩)
    (first
      | (go_at_call 63
         (with_reducible refine (P1.out _ (bthen hk2.out.bel hd2)).mono ?_)
         rintro e w7 ⟨v7, rfl, hO7, hb7⟩
         have hb27 := Lib.hid (bthen hd2 hb7)
         obtain ⟨o, rfl, w8, hr8, hS8⟩ := hst.out w2 w7 v7 hk2.out hb27.out (hO7.mono (hk2.out.bel.size))
         replace hS8 := Lib.hid hS8
         clear hO7 hb7)
      | fail)
  have hK8 := Lib.hid hS8.out.1
  clear hS8 hr8 hb27 hd2 hS P1 hst hcl hk2
  obtain ⟨a0, a1, c4, c5, lt8, ltw⟩ := hK8.out.cells
  go_upto_region 5 with fail
  obtain ⟨w9, hr9, hK9⟩ := (hK8.out.below (W' := w8.drew) (below_drewN w8 1)).storeLast (by omega) hl ht
  obtain ⟨e0, e1, e4, e5, elt, ewt⟩ := (hK8.out.below (W' := w8.drew) (below_drewN w8 1)).cells
  obtain ⟨f0, f1, f4, f5, flt, fwt⟩ := hK9.cells
  replace hK9 := Lib.hid hK9
  go_region_held3 (fun W => W.cell? ⟨w.heap.size, 0, none⟩ = some (.int .i64 l) ∧ W.cell? ⟨w.heap.size, 1, none⟩ = some (.int .i64 t) ∧ W.cell? ⟨pm, 5, none⟩ = some (.map (some bl)) ∧ pm < W.heap.size)
    (first | exact ⟨e0, e1, e5, elt⟩ | exact ⟨f0, f1, f5, flt⟩)
    (fail)
  clear a0 a1 c4 c5 lt8 ltw e0 e1 e4 e5 elt ewt hK8
  obtain ⟨w10, cnt, hr10, hL10⟩ := hK9.out.range
  replace hL10 := Lib.hid hL10
  go_wp2_with fail
  refine wp_loop_k (InvK w pm bt bl c (c + 1) F sv l t p o (fun x => if x = (l, t) then some (p.s, o) else f x) (fun k => if k = l then some t else G k) w9.heap.size) cnt ?_ ?_
  · exact ⟨_, _, hL10, by kernel_rfl, rfl, by kernel_rfl, by kernel_rfl, by kernel_rfl⟩
  clear hL10 hr10 f0 f1 f4 f5 flt fwt hr9
  intro gk a wr hI K hK
  obtain ⟨fc, todo, hL, hs', hd', k0', k4', k71'⟩ := hI
  rw [fr94 a hs' hd']; simp only [k0', k4', k71']; clear hs' hd' k0' k4' k71'
  rcases hL.out.rng.next 0 with ⟨h0, hl0, hrun⟩ | ⟨x, v, w11, cnt', hx, htd, hrun, hrg, hlt', hT, hsz, hen⟩
  · have hF := Lib.hid (hL.out.fin hl0)
    clear hL hl0
    go_wp2_with fail
    go_end0
    exact ⟨rfl, _, _, hF.out⟩
  · have hr1 : (Instr.next (.pointer (some ⟨w9.heap.size, 0, none⟩)) false 0).run Try.prog wr = .ok (.tuple #[.bool true, .agg #[.int .i64 x.1, .int .i64 x.2], v]) w11 := hrun
    have he1 : (Instr.entry (.pointer (some ⟨w9.heap.size, 0, none⟩))).run Try.prog w11 = .ok (.tuple #[.agg #[.int .i64 x.1, .int .i64 x.2], v]) w11 := hen
    clear hrun hen hsz
    have hS := Lib.hid (hL.out.come x hx hT hrg)
    obtain ⟨a0, a1, c4, c5, lt11, ltw⟩ := hS.out.cells
    replace hT := Lib.hid hT
    replace hrg := Lib.hid hrg
    by_cases hq : x.1 = l ∧ x.2 ≤ t - 64
    · have q1 : (x.1 == l) = true := by simp [hq.1]
      have q2 : decide (x.2 ≤ t - 64) = true := by simp [hq.2]
      replace hq := Lib.hid hq
      go_upto_region 12 with fail
      have hb12 : Below w11.heap.size w11 (w11.alloc (.cells #[.int .i64 x.1, .int .i64 x.2] 152)).drew := bdrewN (below_alloc _ _) 1
      have hr12 := hrg.out.block (hb12.block _ hrg.out.map.lt) (hb12.block _ hrg.out.lt)
      have hS12 := hS.out.below hb12
      have hp12 : Blk (w11.alloc (.cells #[.int .i64 x.1, .int .i64 x.2] 152)).drew w11.heap.size #[.int .i64 x.1, .int .i64 x.2] 152 := Blk.new _ _ _
      obtain ⟨w13, cnt2, hd, hle, hB, hL13⟩ := hL.out.drop x hx hS12 hr12 hq.out
      have hp13 := hB _ _ _ hp12
      have c12 := hS12.cells.2.2.1
      have l12 := hS12.cells.2.2.2.2.1
      have c13 := hL13.st.cells.2.2.1
      have l13 := hL13.st.cells.2.2.2.2.1
      have y0 := hp12.cell (i := 0) rfl
      have y1 := hp12.cell (i := 1) rfl
      have z0 := hp13.cell (i := 0) rfl
      have z1 := hp13.cell (i := 1) rfl
      replace hL13 := Lib.hid hL13
      clear hL hS hT hrg hr12 hS12 hp12 hp13 hB hb12 a0 a1 c4 c5 lt11 ltw
      generalize w11.alloc (.cells #[.int .i64 x.1, .int .i64 x.2] 152) = w12 at *
      go_region_held3 (fun W => W.cell? ⟨w11.heap.size, 0, none⟩ = some (.int .i64 x.1) ∧ W.cell? ⟨w11.heap.size, 1, none⟩ = some (.int .i64 x.2) ∧ W.cell? ⟨pm, 4, none⟩ = some (.map (some bt)) ∧ pm < W.heap.size)
        (first | exact ⟨y0, y1, c12, l12⟩ | exact ⟨z0, z1, c13, l13⟩)
        (fail)
      go_wp2_with fail
      exact hK cnt2 _ _ (by omega) ⟨_, _, hL13, by kernel_rfl, rfl, by kernel_rfl, by kernel_rfl, by kernel_rfl⟩
    · have hP := Lib.hid (hL.out.pass x hx hT.out hrg.out hq)
      have hP2 := Lib.hid (hP.out.below (below_alloc w11 (.cells #[.int .i64 x.1, .int .i64 x.2] 152)))
      clear hL hT hrg hP hS
      by_cases hq1 : x.1 = l
      · have q1 : (x.1 == l) = true := by simp [hq1]
        have q2 : decide (x.2 ≤ t - 64) = false := by simp; omega
        replace hq := Lib.hid hq
        replace hq1 := Lib.hid hq1
        go_wp2_with fail
        exact hK cnt' _ _ hlt' ⟨_, _, hP2, by kernel_rfl, rfl, by kernel_rfl, by kernel_rfl, by kernel_rfl⟩
      · have q1 : (x.1 == l) = false := by simp [hq1]
        replace hq := Lib.hid hq
        replace hq1 := Lib.hid hq1
        go_wp2_with fail
        exact hK cnt' _ _ hlt' ⟨_, _, hP2, by kernel_rfl, rfl, by kernel_rfl, by kernel_rfl, by kernel_rfl⟩
end Go.Proofs.Ytmdohnbhogfopaa
/- keep, in one. -/
namespace Go.Proofs.Ytmdohnbhogfopaa
open Go.RowKit Go.Maps
set_option linter.unusedSimpArgs false
set_option linter.unusedVariables false
set_option maxRecDepth 100000
section
variable {M : Nat → Prop} {w w' : World} {pm bt bl c cl : Nat} {f f' : Int × Int → Option (Int × Option (Nat × Nat × Nat))} {F : FaultC} {T : Int × Int → Option PostC} {G : Int → Option Int} {sv : Value} {l t : Int} {p : PostC} {o : Option (Nat × Nat × Nat)} {G' : Int → Option Int}
theorem KeepSt.mouthIs (h : MouthIs M w pm bt bl c f F T G) (hp : PostOk p) (hS : KeepSt w pm bt bl c cl F sv l t p o w' f' G') (hcl : cl ≤ c + 1) (hG : G' = keepG G t l) (ht : 0 ≤ t ∧ t ≤ 1099511627776)
    (hn : ∀ x, plOk x → keepT T G t l p x = none → f' x = none) (hs : ∀ x q, plOk x → keepT T G t l p x = some q → (q = p ∧ f' x = some (p.s, o)) ∨ (T x = some q ∧ f' x = f x)) :
    MouthIs (fun k => M k ∨ (w.heap.size ≤ k ∧ k < w'.heap.size)) w' pm bt bl (c + 1) f' F (keepT T G t l p) (keepG G t l) := by
  subst hG
  refine h.next hS.touch hp hS.own hS.told (hS.last.mono hcl) hn hs fun k g hg => ?_
  unfold keepG newG at hg
  split at hg
  · simp only [Option.some.injEq] at hg
    subst hg
    cases hGl : G l with
    | none => exact ht
    | some g =>
      have := h.G l g hGl
      simp only
      split <;> omega
  · exact h.G k g hg
end
theorem keepR {M : Nat → Prop} {w : World} {pm bt bl c : Nat} {f : Int × Int → Option (Int × Option (Nat × Nat × Nat))} {F : FaultC} {T : Int × Int → Option PostC} {G : Int → Option Int} (h : MouthIs M w pm bt bl c f F T G) (hO : OldOut T G) (hc : c < 900000000) (l t : Int) (p : PostC) (hp : PostOk p) (v : Value) (hw : WordAt 0 w v p.R)
    (hl : 0 ≤ l ∧ l < 64) (ht : 0 ≤ t ∧ t ≤ 1099511627776) :
    Calls Try.prog 64 #[.pointer (some ⟨pm, 0, none⟩), plV (l, t), .agg #[.int .u8 p.s, v]] w fun e w' => e = .returned (.tuple #[]) ∧ ∃ f', MouthIs (fun k => M k ∨ (w.heap.size ≤ k ∧ k < w'.heap.size)) w' pm bt bl (c + 1) f' F (keepT T G t l p) (keepG G t l) ∧ Touch [bt, bl] w w' := by
  have hnT : ∀ {g' : Int}, newG G t l = g' → ∀ {f' : Int × Int → Option (Int × Option (Nat × Nat × Nat))} {o : Option (Nat × Nat × Nat)}, (∀ x, x.1 = l ∧ x.2 ≤ g' - 64 → plOk x → f' x = none) → (∀ x, ¬ (x.1 = l ∧ x.2 ≤ g' - 64) → f' x = if x = (l, t) then some (p.s, o) else f x) →
      (∀ x, plOk x → keepT T G t l p x = none → f' x = none) ∧ (∀ x q, plOk x → keepT T G t l p x = some q → (q = p ∧ f' x = some (p.s, o)) ∨ (T x = some q ∧ f' x = f x)) := by
    intro g' hg' f' o h1 h2
    refine ⟨fun x hx hT => ?_, fun x q hx hT => ?_⟩
    · unfold keepT at hT
      rw [hg'] at hT
      by_cases hq : x.1 = l ∧ x.2 ≤ g' - 64
      · exact h1 x hq hx
      · rw [if_neg hq] at hT
        rw [h2 x hq]
        by_cases e : x = (l, t)
        · rw [if_pos e] at hT
          cases hT
        · rw [if_neg e] at hT ⊢
          exact h.none x hx hT
    · unfold keepT at hT
      rw [hg'] at hT
      by_cases hq : x.1 = l ∧ x.2 ≤ g' - 64
      · rw [if_pos hq] at hT
        cases hT
      · rw [if_neg hq] at hT
        rw [h2 x hq]
        by_cases e : x = (l, t)
        · rw [if_pos e] at hT ⊢
          simp only [Option.some.injEq] at hT
          exact .inl ⟨hT.symm, rfl⟩
        · rw [if_neg e] at hT ⊢
          exact .inr ⟨hT, rfl⟩
  cases hg : G l with
  | none =>
    have e1 : newG G t l = t := by simp [newG, hg]
    have e2 : (fun k => if k = l then some t else G k) = keepG G t l := by
      unfold keepG
      rw [e1]
    refine (keepE h hc l t p hp v hw hl ht hg).mono ?_
    rintro e w' ⟨rfl, sv, o, hS⟩
    obtain ⟨h1, h2⟩ := hnT e1 (f' := fun y => if y.1 = l ∧ y.2 ≤ t - 64 then none else if y = (l, t) then some (p.s, o) else f y) (o := o) (fun x hx _ => by simp only [hx, and_self, if_true]) (fun x hx => by simp only [hx, if_false])
    exact ⟨rfl, _, hS.mouthIs h hp (Nat.le_refl _) e2 ht h1 h2, hS.touch⟩
  | some g =>
    have hgr := h.G l g hg
    by_cases q1 : t ≤ g - 64
    · have e1 : newG G t l = g := by simp only [newG, hg]; rw [if_neg (by omega)]
      have e2 : keepG G t l = G := by
        funext k
        unfold keepG
        by_cases hk : k = l
        · rw [if_pos hk, e1, hk, hg]
        · rw [if_neg hk]
      have e3 : keepT T G t l p = T := by
        funext x
        unfold keepT
        rw [e1]
        by_cases hq : x.1 = l ∧ x.2 ≤ g - 64
        · rw [if_pos hq, hO x g (by rw [hq.1]; exact hg) hq.2]
        · rw [if_neg hq, if_neg (fun e => hq ⟨by rw [e], by rw [e]; exact q1⟩)]
      rw [e2, e3]
      refine (keepOld h l t p.s v hl ht g hg q1).mono ?_
      rintro e w' ⟨rfl, hb⟩
      exact ⟨rfl, _, (h.wider hb).mono (by omega), Touch.of_below hb (Nat.le_refl _) _⟩
    · by_cases q2 : t ≤ g
      · have e1 : newG G t l = g := by simp only [newG, hg]; rw [if_neg (by omega)]
        have e2 : G = keepG G t l := by
          funext k
          unfold keepG
          by_cases hk : k = l
          · rw [if_pos hk, e1, hk, hg]
          · rw [if_neg hk]
        refine (keepB h hc l t p hp v hw hl ht g hg (by omega) q2).mono ?_
        rintro e w' ⟨rfl, sv, o, hS⟩
        obtain ⟨h1, h2⟩ := hnT e1 (f' := fun y => if y = (l, t) then some (p.s, o) else f y) (o := o) (fun x hx hok => by
          rw [if_neg (fun e => q1 (by have := hx.2; rw [e] at this; exact this))]
          exact h.none x hok (hO x g (by rw [hx.1]; exact hg) hx.2)) (fun x hx => rfl)
        exact ⟨rfl, _, hS.mouthIs h hp (by omega) e2 ht h1 h2, hS.touch⟩
      · have e1 : newG G t l = t := by simp only [newG, hg]; rw [if_pos (by omega)]
        have e2 : (fun k => if k = l then some t else G k) = keepG G t l := by
          unfold keepG
          rw [e1]
        by_cases q3 : t = g + 1
        · refine (keepC h hc l t p hp v hw hl ht g hg q3).mono ?_
          rintro e w' ⟨rfl, sv, o, hS⟩
          obtain ⟨h1, h2⟩ := hnT e1 (f' := fun y => if y = (l, t - 64) then none else if y = (l, t) then some (p.s, o) else f y) (o := o) (fun x hx hok => by
            by_cases hx2 : x = (l, t - 64)
            · simp [hx2]
            · have hx3 : x.2 ≠ t - 64 := fun e => hx2 (Prod.ext hx.1 e)
              have hx4 : x ≠ (l, t) := fun e => by have := hx.2; rw [e] at this; simp at this; omega
              simp only [hx2, hx4, if_false]
              exact h.none x hok (hO x g (by rw [hx.1]; exact hg) (by have := hx.2; omega))) (fun x hx => by
            have hx2 : x ≠ (l, t - 64) := fun e => hx (by rw [e]; exact ⟨rfl, Int.le_refl _⟩)
            simp only [hx2, if_false])
          exact ⟨rfl, _, hS.mouthIs h hp (Nat.le_refl _) e2 ht h1 h2, hS.touch⟩
        · refine (keepD h hc l t p hp v hw hl ht g hg (by omega)).mono ?_
          rintro e w' ⟨rfl, sv, o, hS⟩
          obtain ⟨h1, h2⟩ := hnT e1 (f' := fun y => if y.1 = l ∧ y.2 ≤ t - 64 then none else if y = (l, t) then some (p.s, o) else f y) (o := o) (fun x hx _ => by simp only [hx, and_self, if_true]) (fun x hx => by simp only [hx, if_false])
          exact ⟨rfl, _, hS.mouthIs h hp (Nat.le_refl _) e2 ht h1 h2, hS.touch⟩
end Go.Proofs.Ytmdohnbhogfopaa
