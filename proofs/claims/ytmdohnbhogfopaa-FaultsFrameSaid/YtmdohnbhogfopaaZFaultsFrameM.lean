/- FaultsFrame: the mouth among the list that grows. -/
import Derived.Test.YtmdohnbhogfopaaZFaultsFrameL
namespace Go.Proofs.Ytmdohnbhogfopaa
open Go.RowKit Go.Maps
set_option linter.unusedSimpArgs false
set_option linter.unusedVariables false
set_option maxRecDepth 100000
/-- The frame's symbols. -/
def SL (sd : Int) : Nat → Int := frSL (sd % 8) 2 0 (IntKind.u32.wrap (sd / 256)) (IntKind.u32.wrap (sd / 65536)) true false
theorem SL_pos (sd : Int) (i : Nat) (hi : i < 114) : 1 ≤ SL sd i ∧ SL sd i ≤ 2 := by
  unfold SL
  rw [frSL, appL]
  split
  · unfold ofL bitN
    omega
  · obtain rfl | rfl : i = 112 ∨ i = 113 := by omega
    · simp [tailSL, at2, symI]
    · simp [tailSL, at2, symI]
theorem mayB_sd (sd : Int) : mayB (sd % 8) 2 = true := by
  unfold mayB
  have h1 : decide (0 ≤ sd % 8) = true := by simp; omega
  have h2 : decide (sd % 8 < 8) = true := by simp; omega
  rw [h1, h2]
  rfl
theorem frame_at (sd fr t : Int) (hf : 0 ≤ fr ∧ fr < 256) (ht : fr ≤ t ∧ t < 1000) : frameS sd fr t = if t - fr < 114 then SL sd (t - fr).toNat else 0 := by
  have hw : IntKind.i64.wrap (t - fr) = t - fr := wrapI _ (by omega) (by omega)
  have hl : lenS (sd % 8) 2 = 114 := by unfold lenS; rw [mayB_sd]; rfl
  unfold frameS
  rw [hw, hl]
  by_cases q : t - fr < 114
  · rw [if_pos ⟨by omega, by simpa using q⟩, if_pos q]
    rfl
  · rw [if_neg (by simp; omega), if_neg q]
theorem SL_read (sd : Int) (hs : 0 ≤ sd ∧ sd < 18446744073709551616) : readE (SL sd) 114 = 0 ∧ readV (SL sd) 114 = frV (sd % 8) 2 0 (IntKind.u32.wrap (sd / 256)) (IntKind.u32.wrap (sd / 65536)) ∧ readT (SL sd) 114 = tailV true false :=
  frSL_read (mayB_sd sd) (by omega) (by rw [IntKind.wrap_u32]; omega) (by rw [IntKind.wrap_u32]; omega)
/-- The blocks of a value of the call's own. -/
def ob (v : Value) : List Nat := v.ownBlock.toList
theorem Mo.app {F : FaultC} {T : Int × Int → Option PostC} {G : Int → Option Int} {w W : World} {pm bt bl c : Nat} {v v' : Value} (h : Mo w pm bt bl c F T G (ob v)) (hg : w.grownBy W v.ownBlock) (hat : v'.ownBlock = v.ownBlock ∨ v'.ownBlock = some w.heap.size) (hs : ∀ k ∈ ob v', k < W.heap.size) : Mo W pm bt bl c F T G (ob v') := by
  obtain ⟨M, f, h1, h2, h3⟩ := h
  have hl := h1.lts
  have hbl : ∀ k, M k ∨ k = pm ∨ k = bt ∨ k = bl → W.heap[k]? = w.heap[k]? := fun k hk => by
    refine hg.block k (hl k hk) fun e => ?_
    obtain ⟨_, q1, q2, q3, q4⟩ := h3 k (by unfold ob; rw [← e]; simp)
    rcases hk with hk | hk | hk | hk
    · exact q1 hk
    · exact q2 hk
    · exact q3 hk
    · exact q4 hk
  refine ⟨M, f, h1.agree hbl hg.size, h2, fun k hk => ?_⟩
  rcases hat with e | e
  · have hk' : k ∈ ob v := by unfold ob at hk ⊢; rwa [e] at hk
    exact ⟨hs k hk, (h3 k hk').2⟩
  · have hk' : k = w.heap.size := by unfold ob at hk; rw [e] at hk; simpa using hk
    subst hk'
    refine ⟨hs _ hk, fun q => ?_, fun q => ?_, fun q => ?_, fun q => ?_⟩
    · have := hl _ (.inl q); omega
    · have := hl pm (by simp); omega
    · have := hl bt (by simp); omega
    · have := hl bl (by simp); omega
/-- The list of kinds, the list that grows. -/
structure FrAt (w : World) (sd : Int) (kb : Nat) (v : Value) (n : Nat) (W : World) : Prop where
  bel : Below w.heap.size w W
  kin : Blk W kb #[.int .u8 8, .int .u8 2, .int .u8 5, .int .u8 6] 24
  own : W.ownsRow w.heap.size 35 1 v n (nums .u8 (SL sd) n)
theorem FrAt.below {w : World} {sd : Int} {kb : Nat} {v : Value} {n : Nat} {W W' : World} (h : FrAt w sd kb v n W) (hb : Below W.heap.size W W') : FrAt w sd kb v n W' :=
  ⟨bthen h.bel hb, h.kin.below hb h.kin.lt, ownsRow_keep h.own fun g c _ hg => hg.below hb hg.lt⟩
theorem FrAt.ob {w : World} {sd : Int} {kb : Nat} {v : Value} {n : Nat} {W : World} (h : FrAt w sd kb v n W) : ∀ k ∈ ob v, k < W.heap.size := fun k hk => by
  have e : v.ownBlock = some k := by
    unfold Go.Proofs.Ytmdohnbhogfopaa.ob at hk
    cases q : v.ownBlock with
    | none => rw [q] at hk; simp at hk
    | some j => rw [q] at hk; simp at hk; rw [hk]
  obtain ⟨cur, hc⟩ := ownsRow_blk h.own e
  exact hc.lt
structure FrM (w : World) (sd fr : Int) (kb : Nat) (kd : Int) (v : Value) (n : Nat) (pm bt bl c : Nat) (W : World) : Prop where
  at_ : FrAt w sd kb v n W
  ge : w.heap.size ≤ bt ∧ w.heap.size ≤ bl
  m : ∃ T G, Mo W pm bt bl c (FF sd fr kd) T G (ob v)
section
variable {w : World} {sd fr : Int} {kb : Nat} {kd : Int} {v : Value} {n pm bt bl c : Nat} {W W' : World}
theorem FrM.below (h : FrM w sd fr kb kd v n pm bt bl c W) (hb : Below W.heap.size W W') : FrM w sd fr kb kd v n pm bt bl c W' := by
  obtain ⟨T, G, h1⟩ := h.m
  exact ⟨h.at_.below hb, h.ge, T, G, h1.below hb⟩
theorem FrM.says (h : FrM w sd fr kb kd v n pm bt bl c W) (hs : 0 ≤ sd ∧ sd < 18446744073709551616) (hf : 0 ≤ fr ∧ fr < 256) (hk : 0 ≤ kd ∧ kd < 256) (hk4 : kd ≠ 4) (hc : c < 1000) (t : Int) (ht : 0 ≤ t ∧ t < 1000) (p : PostC) (hp : PostOk p) (u : Value) (hw : WordAt 0 W u p.R) :
    Calls Try.prog 17 #[.pointer (some ⟨pm, 0, none⟩), .int .i64 t, .int .i64 6, .agg #[.int .u8 p.s, u]] W fun e W' => ∃ (r : PostC) (a : Option Addr) (m k : Nat), e = .returned (.agg #[.int .u8 r.s, .slice a m k]) ∧ r = sayF sd fr kd t p ∧ WordAt 0 W' (.slice a m k) r.R ∧ FrM w sd fr kb kd v n pm bt bl (c + 1) W' ∧ KeepC W W' ∧ ∀ b cs U, Blk W b cs U → Blk W' b cs U := by
  obtain ⟨T, G, h1⟩ := h.m
  have hS := saysM h1 (FF_ok sd fr kd hs hf hk) (by omega) t 6 p hp u hw
  rw [FF_says sd fr kd t hf.1 ht hk4] at hS
  refine hS.mono ?_
  rintro e W' ⟨v', rfl, ⟨a, m, k, rfl⟩, h5, h6, hT⟩
  have hge := h.ge
  have hbl : ∀ b cs U, Blk W b cs U → Blk W' b cs U := fun b cs U hb => h1.blks hT hb
  exact ⟨_, a, m, k, rfl, rfl, h5, ⟨⟨hT.below h.at_.bel h.at_.bel.size (by simp; omega), hbl _ _ _ h.at_.kin, ownsRow_keep h.at_.own fun g c _ hg => hbl _ _ _ hg⟩, h.ge, _, _, h6⟩, h1.keepC hT, hbl⟩
/-- A symbol more. -/
theorem FrM.app {v' : Value} (h : FrM w sd fr kb kd v n pm bt bl c W) (hg : W.grownBy W' v.ownBlock) (hat : v'.ownBlock = v.ownBlock ∨ v'.ownBlock = some W.heap.size) (hown : W'.ownsRow w.heap.size 35 1 v' (n + 1) (nums .u8 (SL sd) (n + 1))) : FrM w sd fr kb kd v' (n + 1) pm bt bl c W' := by
  obtain ⟨T, G, h1⟩ := h.m
  have hbel : Below w.heap.size w W' := Below.grown h.at_.bel hg h.at_.bel.size (by
    cases q : v.ownBlock with
    | none => simp
    | some j =>
      intro k hk
      rcases h.at_.own.2 with ⟨e, _⟩ | ⟨g, cap, cur, e, h2, _⟩
      · rw [e] at q; cases q
      · rw [e] at q
        simp [Value.ownBlock] at q
        simp at hk
        omega)
  have hkin : Blk W' kb #[.int .u8 8, .int .u8 2, .int .u8 5, .int .u8 6] 24 := by
    have := h.at_.kin
    refine (hg.block kb this.lt fun e => ?_).trans this
    obtain ⟨cur, hc⟩ := ownsRow_blk h.at_.own e.symm
    exact hc.ne this (by decide) rfl
  have ha : FrAt w sd kb v' (n + 1) W' := ⟨hbel, hkin, hown⟩
  exact ⟨ha, h.ge, T, G, h1.app hg hat ha.ob⟩
end
theorem append_at {P : Program} {W : World} {ops : Array Oper} {rest : List Oper} {o : Oper} {a : Act} {Q : Exit → Act → World → Prop} (hgd : o.guard = none) (s x : Operand) (t : TypeId)
    (ho : o.op = .call { callee := .builtin .append, args := #[s, x], argTypes := #[t, t] })
    (base : Nat) (e : TypeId) (i : TypeInfo) (z : Value) (bytes : Nat) (ht : P.underlying t = some (.slice e)) (hi : P.info? e = some i) (hz : i.zero = some z)
    (hsize : i.size = 1) (hby : i.bytes = bytes) (hzs : z.cells.size = 1)
    (v : Value) (n : Nat) (xs : List Value) (hs : a.eval s = v) (hown : W.ownsRow base e 1 v n xs) (u : Value) (hx : a.eval x = .slice (some ⟨W.heap.size, 0, none⟩) 1 1) (hu : u.oneCell' = true)
    (hn : n ≤ 1000000000) (hbytes : bytes ≤ 1000) (hbase : base ≤ W.heap.size)
    (h : ∀ v' w', w'.ownsRow base e 1 v' (n + 1) (xs ++ [u]) → (W.alloc (.cells #[u] e)).grownBy w' v.ownBlock → (v'.ownBlock = v.ownBlock ∨ v'.ownBlock = some (W.alloc (.cells #[u] e)).heap.size) → wpList P ops Q rest (a.put o.dst v') w') :
    wpList P ops Q (o :: rest) a (W.alloc (.cells #[u] e)) := by
  refine wpList_append_own_at _ hgd s x t ho base e i z 1 bytes ht hi hz hsize hby hzs (by decide) v n xs hs (hown.alloc _) ⟨W.heap.size, 0, none⟩ 1 1 [u] hx rfl (cell_one_new _ _ _) (by simpa using hu) (by unfold maxLen; omega) ?_ (by simp; omega) fun v' w' h1 h2 _ h4 => h v' w' h1 h2 h4
  have : (n + 1) * bytes ≤ 1000000001 * 1000 := Nat.mul_le_mul (by omega) hbytes
  omega
end Go.Proofs.Ytmdohnbhogfopaa
