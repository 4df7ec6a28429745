/- FaultsLate: the law. -/
import Derived.Test.YtmdohnbhogfopaaZLivC
namespace Go.Proofs.Ytmdohnbhogfopaa
open Go.RowKit Go.Maps
set_option linter.unusedSimpArgs false
set_option linter.unusedVariables false
set_option maxRecDepth 100000
/-- A fault of node 2 among five, from the beginning on, on all its links. -/
def FK (kd by' : Int) : FaultC := ⟨5, 2, -1, [⟨0, 1000, 15, kd, by'⟩]⟩
theorem FK_ok (kd by' : Int) (hk : kd = 4 ∨ kd = 7) (hb : 0 ≤ by' ∧ by' < 64) : FaultOk (FK kd by') := ⟨by simp [FK], by simp [FK], by simp [FK], by simp [FK], fun s hs => by
  simp [FK] at hs
  subst hs
  refine ⟨rfl, rfl, rfl, ?_, ?_⟩
  · rcases hk with rfl | rfl <;> rfl
  · exact wfR .u64 _ 0 18446744073709551615 (by decide) (by decide) (by simp only; omega)⟩
theorem bit15 : bitB 15 8 = true ∧ bitB 15 9 = true ∧ bitB 15 10 = true ∧ bitB 15 11 = true := ⟨by kernel_rfl, by kernel_rfl, by kernel_rfl, by kernel_rfl⟩
theorem FK_spell (kd by' t l : Int) (ht : 0 ≤ t ∧ t < 1000) (hl : l = 8 ∨ l = 9 ∨ l = 10 ∨ l = 11) : isF (FK kd by') l = true ∧ toldB (FK kd by') t l = true ∧ spellF (FK kd by') t l = ⟨0, 1000, 15, kd, by'⟩ := by
  have h1 : isF (FK kd by') l = true := by
    unfold isF FK
    rcases hl with rfl | rfl | rfl | rfl <;> rfl
  have hb : bitB 15 l = true := by
    rcases hl with rfl | rfl | rfl | rfl
    · exact bit15.1
    · exact bit15.2.1
    · exact bit15.2.2.1
    · exact bit15.2.2.2
  have ht1 : decide (0 ≤ t ∧ t < 1000) = true := by simp; omega
  have ht2 : decide (0 ≤ t ∧ t ≤ 1099511627776) = true := by simp; omega
  refine ⟨h1, by unfold toldB; rw [h1, ht2]; rfl, ?_⟩
  unfold spellF FK
  simp only [List.find?_cons]
  have : inSp 2 l t ⟨0, 1000, 15, kd, by'⟩ = true := by
    unfold inSp
    simp only [ht1, hb, Bool.or_true, Bool.and_self]
  rw [this]
  rfl
theorem half_says (by' t l : Int) (ht : 0 ≤ t ∧ t < 1000) (hl : l = 8 ∨ l = 9 ∨ l = 10 ∨ l = 11) (T : Int × Int → Option PostC) (G : Int → Option Int) (p : PostC) : saysP (FK 7 by') T G t l p = if l % 2 = 0 then p else ⟨0, []⟩ := by
  obtain ⟨h1, h2, h3⟩ := FK_spell 7 by' t l ht hl
  unfold saysP kindP
  rw [h1, h2, h3]
  simp
/-- What a late mouth has been told on its link 9 up to a tick. -/
structure LateInv (L : Nat → Int) (T : Int × Int → Option PostC) (G : Int → Option Int) (i : Nat) : Prop where
  g : G 9 = if i = 0 then none else some ((i : Int) - 1)
  t : ∀ j : Int, T (9, j) = if 0 ≤ j ∧ j < i ∧ (i : Int) - 65 < j then some (postC (L j.toNat)) else none
theorem late_says (L : Nat → Int) (T : Int × Int → Option PostC) (G : Int → Option Int) (i : Nat) (h : LateInv L T G i) (by' : Int) (hb : 0 ≤ by' ∧ by' < 64) (hi : i < 120) (q : PostC) :
    saysP (FK 4 by') T G i 9 (postC (L i)) = (if (i : Int) < by' then ⟨0, []⟩ else postC (L (i - by'.toNat))) ∧
      LateInv L (saysT (FK 4 by') (saysT (FK 4 by') T G i 9 (postC (L i))) (saysG (FK 4 by') G i 9) i 10 q) (saysG (FK 4 by') (saysG (FK 4 by') G i 9) i 10) (i + 1) := by
  obtain ⟨h1, h2, h3⟩ := FK_spell 4 by' i 9 (by omega) (by omega)
  obtain ⟨h4, h5, h6⟩ := FK_spell 4 by' i 10 (by omega) (by omega)
  have eG : newG G i 9 = i := by
    unfold newG
    rw [h.g]
    by_cases h0 : i = 0
    · rw [if_pos h0]
    · rw [if_neg h0]
      simp only
      rw [if_pos (by omega)]
  have eT : ∀ j : Int, keepT T G i 9 (postC (L i)) (9, j) = if 0 ≤ j ∧ j < (i + 1 : Nat) ∧ ((i + 1 : Nat) : Int) - 65 < j then some (postC (L j.toNat)) else none := by
    intro j
    unfold keepT
    rw [eG, h.t]
    simp only [true_and, Prod.mk.injEq]
    by_cases q1 : j ≤ (i : Int) - 64
    · rw [if_pos q1, if_neg (by omega)]
    · rw [if_neg q1]
      by_cases q2 : j = i
      · rw [if_pos q2, if_pos (by omega), q2]
        rfl
      · rw [if_neg q2]
        by_cases q3 : 0 ≤ j ∧ j < i
        · rw [if_pos (by omega), if_pos (by omega)]
        · rw [if_neg (by omega), if_neg (by omega)]
  refine ⟨?_, ?_, fun j => ?_⟩
  · unfold saysP kindP
    rw [h1, h2, h3]
    simp only [Bool.true_eq_false, if_false, if_true]
    unfold lateC
    have hm : by' % 64 = by' := by omega
    rw [hm, eT]
    simp
    by_cases q1 : (i : Int) < by'
    · rw [if_pos q1, if_neg (by omega)]
      rfl
    · rw [if_neg q1, if_pos (by omega)]
      simp only [Option.getD_some]
      congr 2
      omega
  · unfold saysG
    rw [if_pos h5, if_pos h2]
    unfold keepG
    rw [if_neg (by omega), if_pos rfl, eG, if_neg (by omega)]
    congr 1
    omega
  · unfold saysT saysG
    rw [if_pos h5, if_pos h2, if_pos h2]
    have : keepT (keepT T G i 9 (postC (L i))) (keepG G i 9) i 10 q (9, j) = keepT T G i 9 (postC (L i)) (9, j) := by
      have e : ∀ (T' : Int × Int → Option PostC) (G' : Int → Option Int), keepT T' G' i 10 q (9, j) = T' (9, j) := fun T' G' => by
        unfold keepT
        rw [if_neg (by simp), if_neg (by simp)]
      exact e _ _
    rw [this, eT]
/-- Two mouths in a world: the late one, and the half. -/
structure LateAt (w : World) (L : Nat → Int) (by' : Int) (pm bt bl ph ht hl' bx i : Nat) (W : World) : Prop where
  bel : Below w.heap.size w W
  ge : w.heap.size ≤ bt ∧ w.heap.size ≤ bl ∧ w.heap.size ≤ ht ∧ w.heap.size ≤ hl'
  m : ∃ T G, Mo W pm bt bl (2 * i) (FK 4 by') T G [ht, hl'] ∧ LateInv L T G i
  h : ∃ T G, Mo W ph ht hl' (4 * i) (FK 7 by') T G [bt, bl]
theorem LateAt.below {w : World} {L : Nat → Int} {by' : Int} {pm bt bl ph ht hl' bx i : Nat} {W W' : World} (h : LateAt w L by' pm bt bl ph ht hl' bx i W) (hb : Below W.heap.size W W') : LateAt w L by' pm bt bl ph ht hl' bx i W' := by
  obtain ⟨T, G, h1, h2⟩ := h.m
  obtain ⟨T', G', h3⟩ := h.h
  exact ⟨bthen h.bel hb, h.ge, ⟨T, G, h1.below hb, h2⟩, ⟨T', G', h3.below hb⟩⟩
/-- In the midst of a round: the late mouth was told both, the half c times. -/
structure RoundAt (w : World) (L : Nat → Int) (by' : Int) (pm bt bl ph ht hl' i c : Nat) (W : World) : Prop where
  bel : Below w.heap.size w W
  ge : w.heap.size ≤ bt ∧ w.heap.size ≤ bl ∧ w.heap.size ≤ ht ∧ w.heap.size ≤ hl'
  m : ∃ T G, Mo W pm bt bl (2 * (i + 1)) (FK 4 by') T G [ht, hl'] ∧ LateInv L T G (i + 1)
  h : ∃ T G, Mo W ph ht hl' c (FK 7 by') T G [bt, bl]
theorem RoundAt.below {w : World} {L : Nat → Int} {by' : Int} {pm bt bl ph ht hl' i c : Nat} {W W' : World} (h : RoundAt w L by' pm bt bl ph ht hl' i c W) (hb : Below W.heap.size W W') : RoundAt w L by' pm bt bl ph ht hl' i c W' := by
  obtain ⟨T, G, h1, h2⟩ := h.m
  obtain ⟨T', G', h3⟩ := h.h
  exact ⟨bthen h.bel hb, h.ge, ⟨T, G, h1.below hb, h2⟩, ⟨T', G', h3.below hb⟩⟩
/-- The half mouth says something. -/
theorem RoundAt.say {w : World} {L : Nat → Int} {by' : Int} (hby : 0 ≤ by' ∧ by' < 64) {pm bt bl ph ht hl' i c : Nat} {W : World} (h : RoundAt w L by' pm bt bl ph ht hl' i c W) (hi : i < 120) (hc : c < 1000) (l : Int) (hl : l = 8 ∨ l = 9 ∨ l = 10 ∨ l = 11) (p : PostC) (hp : PostOk p) (v : Value) (hw : WordAt 0 W v p.R) :
    Calls Try.prog 17 #[.pointer (some ⟨ph, 0, none⟩), .int .i64 i, .int .i64 l, .agg #[.int .u8 p.s, v]] W fun e W' => ∃ v', e = .returned (.agg #[.int .u8 (if l % 2 = 0 then p else ⟨0, []⟩ : PostC).s, v']) ∧ (∃ a n k, v' = .slice a n k) ∧ WordAt 0 W' v' (if l % 2 = 0 then p else ⟨0, []⟩ : PostC).R ∧ RoundAt w L by' pm bt bl ph ht hl' i (c + 1) W' := by
  obtain ⟨T, G, h1, h2⟩ := h.m
  obtain ⟨T', G', h3⟩ := h.h
  have hS := saysM h3 (FK_ok 7 by' (.inr rfl) hby) (by omega) i l p hp v hw
  rw [half_says by' i l (by omega) hl] at hS
  refine hS.mono ?_
  rintro e W' ⟨v', rfl, h4, h5, h6, hT⟩
  have hge := h.ge
  exact ⟨v', rfl, h4, h5, hT.below h.bel h.bel.size (by simp; omega), h.ge, ⟨T, G, h1.other hT (fun k hk => hk), h2⟩, ⟨_, _, h6⟩⟩
/-- The late mouth is told both. -/
theorem LateAt.say9 {w : World} {L : Nat → Int} {by' : Int} (hby : 0 ≤ by' ∧ by' < 64) {pm bt bl ph ht hl' bx i : Nat} {W : World} (h : LateAt w L by' pm bt bl ph ht hl' bx i W) (hi : i < 120) (hL : 0 ≤ L i ∧ L i < 256) (v : Value) (hw : WordAt 0 W v (postC (L i)).R) :
    Calls Try.prog 17 #[.pointer (some ⟨pm, 0, none⟩), .int .i64 i, .int .i64 9, .agg #[.int .u8 (postC (L i)).s, v]] W fun e W' => ∃ v', e = .returned (.agg #[.int .u8 (if (i : Int) < by' then ⟨0, []⟩ else postC (L (i - by'.toNat)) : PostC).s, v']) ∧ (∃ a n k, v' = .slice a n k) ∧ WordAt 0 W' v' (if (i : Int) < by' then ⟨0, []⟩ else postC (L (i - by'.toNat)) : PostC).R ∧
      Below w.heap.size w W' ∧
      ∀ W6, Below W'.heap.size W' W6 → ∀ (q : PostC) (u : Value), PostOk q → WordAt 0 W6 u q.R → Calls Try.prog 17 #[.pointer (some ⟨pm, 0, none⟩), .int .i64 i, .int .i64 10, .agg #[.int .u8 q.s, u]] W6 fun e W7 => (∃ s u', e = .returned (.agg #[.int .u8 s, u']) ∧ ∃ a n k, u' = .slice a n k) ∧ RoundAt w L by' pm bt bl ph ht hl' i (4 * i) W7 ∧ KeepC W6 W7 ∧ ∀ b cs U, Blk W6 b cs U → Blk W7 b cs U := by
  obtain ⟨T, G, h1, h2⟩ := h.m
  obtain ⟨T', G', h3⟩ := h.h
  have hge := h.ge
  have hF := FK_ok 4 by' (.inl rfl) hby
  have hS := saysM h1 hF (by omega) i 9 _ (postC_ok _ hL) v hw
  have hls := fun q => late_says L T G i h2 by' hby hi q
  rw [(hls ⟨0, []⟩).1] at hS
  refine hS.mono ?_
  rintro e W' ⟨v', rfl, h4, h5, h6, hT⟩
  have hb := hT.below h.bel h.bel.size (by simp; omega)
  have h3' := h3.other hT (fun k hk => hk)
  refine ⟨v', rfl, h4, h5, hb, fun W6 hb6 q u hq hu => ?_⟩
  refine (saysM (h6.below hb6) hF (by omega) i 10 q hq u hu).mono ?_
  rintro e W7 ⟨u', rfl, g4, g5, g6, gT⟩
  have hbb := bthen hb hb6
  exact ⟨⟨_, u', rfl, g4⟩, ⟨gT.below hbb hbb.size (by simp; omega), h.ge, ⟨_, _, by simpa [Nat.mul_add] using g6, (hls q).2⟩, ⟨_, _, (h3'.below hb6).other gT (fun k hk => hk)⟩⟩, (h6.below hb6).keepC gT, fun b cs U hc => (h6.below hb6).blks gT hc⟩
theorem RoundAt.sayE {w : World} {L : Nat → Int} {by' : Int} (hby : 0 ≤ by' ∧ by' < 64) {pm bt bl ph ht hl' i c : Nat} {W : World} (h : RoundAt w L by' pm bt bl ph ht hl' i c W) (hi : i < 120) (hc : c < 1000) (l : Int) (hl : l = 8 ∨ l = 10) (p : PostC) (hp : PostOk p) (v : Value) (hw : WordAt 0 W v p.R) :
    Calls Try.prog 17 #[.pointer (some ⟨ph, 0, none⟩), .int .i64 i, .int .i64 l, .agg #[.int .u8 p.s, v]] W fun e W' => ∃ a n k, e = .returned (.agg #[.int .u8 p.s, .slice a n k]) ∧ WordAt 0 W' (.slice a n k) p.R ∧ RoundAt w L by' pm bt bl ph ht hl' i (c + 1) W' := by
  have hS := h.say hby hi hc l (by omega) p hp v hw
  rw [if_pos (by omega)] at hS
  refine hS.mono ?_
  rintro e W' ⟨v', rfl, ⟨a, n, k, rfl⟩, h5, h6⟩
  exact ⟨a, n, k, rfl, h5, h6⟩
theorem RoundAt.sayO {w : World} {L : Nat → Int} {by' : Int} (hby : 0 ≤ by' ∧ by' < 64) {pm bt bl ph ht hl' i c : Nat} {W : World} (h : RoundAt w L by' pm bt bl ph ht hl' i c W) (hi : i < 120) (hc : c < 1000) (l : Int) (hl : l = 9 ∨ l = 11) (p : PostC) (hp : PostOk p) (v : Value) (hw : WordAt 0 W v p.R) :
    Calls Try.prog 17 #[.pointer (some ⟨ph, 0, none⟩), .int .i64 i, .int .i64 l, .agg #[.int .u8 p.s, v]] W fun e W' => ∃ a k, e = .returned (.agg #[.int .u8 0, .slice a 0 k]) ∧ RoundAt w L by' pm bt bl ph ht hl' i (c + 1) W' := by
  have hS := h.say hby hi hc l (by omega) p hp v hw
  rw [if_neg (by omega)] at hS
  refine hS.mono ?_
  rintro e W' ⟨v', rfl, ⟨a, n, k, rfl⟩, h5, h6⟩
  obtain ⟨_, _, _, h2, h3, _⟩ := h5.len
  simp only [Value.slice.injEq] at h3
  have hn : n = 0 := by rw [h3.2.1, h2]; rfl
  subst hn
  exact ⟨a, k, rfl, h6⟩
theorem RoundAt.fin {w : World} {L : Nat → Int} {by' : Int} {pm bt bl ph ht hl' i : Nat} {W : World} (h : RoundAt w L by' pm bt bl ph ht hl' i (4 * i + 1 + 1 + 1 + 1) W) : LateAt w L by' pm bt bl ph ht hl' 0 (i + 1) W := ⟨h.bel, h.ge, h.m, by
  have := h.h
  have e : 4 * i + 1 + 1 + 1 + 1 = 4 * (i + 1) := by omega
  rw [e] at this
  exact this⟩
def InvLate (w : World) (L : Nat → Int) (by' : Int) (ao : Option Addr) (n c : Nat) (pm bt bl ph ht hl' : Nat) (k : Nat) (a : Act) (wr : World) : Prop :=
  ∃ i, i + k = n ∧ Hid (LateAt w L by' pm bt bl ph ht hl' 0 i wr) ∧ a.tmps.size = 149 ∧ a.defers = [] ∧ slot a 1 = .slice ao n c ∧ slot a 5 = .int .i64 by' ∧ slot a 7 = .pointer (some ⟨pm, 0, none⟩) ∧ slot a 9 = .pointer (some ⟨ph, 0, none⟩) ∧ slot a 11 = .int .i64 i
set_option maxHeartbeats 16000000 in
theorem faultsLate_any (w : World) (x : Int) (hx : 0 ≤ x ∧ x < 256) (ao : Option Addr) (n c : Nat) (L : Nat → Int) (ha : Rd .u8 w ao n L) (hL : ∀ i, i < n → 0 ≤ L i ∧ L i < 256) :
    Calls Try.prog 3 #[.int .u8 x, .slice ao n c] w fun e w' => e = .returned (.bool true) ∧ Below w.heap.size w w' := by
  have hlives := Lib.hid lives29
  by_cases hn : 120 < n
  · have t1 : decide ((120 : Int) < (n : Int)) = true := by simp; omega
    clear ha hL
    go_enter Try.func3, Try.ntmps3
    go_wp2_with fail
    refine (hlives.out _).mono ?_
    rintro e w2 ⟨rfl, hb⟩
    replace hb := Lib.hid hb
    go_wp2_with fail
    go_ret
    exact ⟨rfl, hb.out⟩
  have t1 : decide ((120 : Int) < (n : Int)) = false := by simp; omega
  have hby : Hid (0 ≤ x % 64 ∧ x % 64 < 64) := by
    have : 0 ≤ x % 64 ∧ x % 64 < 64 := by omega
    exact this
  have e1 : IntKind.i64.wrap x = x := wrapI _ (by omega) (by omega)
  have e2 : Int.tmod x 64 = x % 64 := Int.tmod_eq_emod_of_nonneg hx.1
  have e3 : IntKind.i64.wrap (x % 64) = x % 64 := wrapI _ (by omega) (by omega)
  have e4 : IntKind.u64.wrap (x % 64) = x % 64 := by rw [IntKind.wrap_u64]; omega
  have N1 : Hid (∀ (W : World) v, SpAt 0 W v (FK 4 (x % 64)).S → ∀ A : List Nat, (∀ k ∈ A, k < W.heap.size) → Calls Try.prog 16 #[.int .i64 5, .agg #[.int .i64 2, .int .i64 (-1), v]] W fun e w' => ∃ pm bt bl, e = .returned (.tuple #[.pointer (some ⟨pm, 0, none⟩), .int .i64 0]) ∧ Mo w' pm bt bl 0 (FK 4 (x % 64)) (fun _ => none) (fun _ => none) A ∧ Below W.heap.size W w' ∧ W.heap.size ≤ pm ∧ W.heap.size ≤ bt ∧ W.heap.size ≤ bl ∧ bt < w'.heap.size ∧ bl < w'.heap.size) := fun W v hs A hA => newM W (FK 4 (x % 64)) (FK_ok 4 _ (.inl rfl) hby.out) v hs A hA
  have N2 : Hid (∀ (W : World) v, SpAt 0 W v (FK 7 (x % 64)).S → ∀ A : List Nat, (∀ k ∈ A, k < W.heap.size) → Calls Try.prog 16 #[.int .i64 5, .agg #[.int .i64 2, .int .i64 (-1), v]] W fun e w' => ∃ pm bt bl, e = .returned (.tuple #[.pointer (some ⟨pm, 0, none⟩), .int .i64 0]) ∧ Mo w' pm bt bl 0 (FK 7 (x % 64)) (fun _ => none) (fun _ => none) A ∧ Below W.heap.size W w' ∧ W.heap.size ≤ pm ∧ W.heap.size ≤ bt ∧ W.heap.size ≤ bl ∧ bt < w'.heap.size ∧ bl < w'.heap.size) := fun W v hs A hA => newM W (FK 7 (x % 64)) (FK_ok 7 _ (.inr rfl) hby.out) v hs A hA
  have hS4 : (FK 4 (x % 64)).S = [⟨0, 1000, 15, 4, x % 64⟩] := rfl
  have hS7 : (FK 7 (x % 64)).S = [⟨0, 1000, 15, 7, x % 64⟩] := rfl
  rw [hS4] at N1
  rw [hS7] at N2
  clear hS4 hS7
  replace hL := Lib.hid hL
  replace ha := Lib.hid ha
  generalize x % 64 = by' at *
  clear hx
  have hb0 := Lib.hid ((below_alloc w (.cells #[.int .i64 0, .int .i64 1000, .int .u8 15, .int .u8 4, .int .u64 by'] 27)).trans ((below_alloc _ (.cells #[.int .i64 0, .int .i64 1000, .int .u8 15, .int .u8 4, .int .u64 by'] 27)).mono (by simp)))
  go_enter Try.func3, Try.ntmps3
  go_wp2_with fail
  have k0 : Hid (Blk ((w.alloc (.cells #[.int .i64 0, .int .i64 1000, .int .u8 15, .int .u8 4, .int .u64 by'] 27)).alloc (.cells #[.int .i64 0, .int .i64 1000, .int .u8 15, .int .u8 4, .int .u64 by'] 27)) w.heap.size #[.int .i64 0, .int .i64 1000, .int .u8 15, .int .u8 4, .int .u64 by'] 27) := (Blk.new w _ _).alloc _
  have k1 : Blk ((w.alloc (.cells #[.int .i64 0, .int .i64 1000, .int .u8 15, .int .u8 4, .int .u64 by'] 27)).alloc (.cells #[.int .i64 0, .int .i64 1000, .int .u8 15, .int .u8 4, .int .u64 by'] 27)) (w.heap.size + 1) #[.int .i64 0, .int .i64 1000, .int .u8 15, .int .u8 4, .int .u64 by'] 27 := by
    have := Blk.new (w.alloc (.cells #[.int .i64 0, .int .i64 1000, .int .u8 15, .int .u8 4, .int .u64 by'] 27)) #[.int .i64 0, .int .i64 1000, .int .u8 15, .int .u8 4, .int .u64 by'] 27
    simpa using this
  have s1 := SpAt.of_blk (S := [⟨0, 1000, 15, 4, by'⟩]) k1 rfl (by unfold maxLen; simp)
  have C1 := Lib.hid (N1.out _ _ s1 [w.heap.size] (fun k hk => by simp at hk; subst hk; exact k0.out.lt))
  clear k1 s1 N1
  generalize (w.alloc (.cells #[.int .i64 0, .int .i64 1000, .int .u8 15, .int .u8 4, .int .u64 by'] 27)).alloc (.cells #[.int .i64 0, .int .i64 1000, .int .u8 15, .int .u8 4, .int .u64 by'] 27) = w1 at *
  refine C1.out.mono ?_
  rintro e w2 ⟨pm, bt, bl, rfl, hM2, hb2, g1, g2, g3, g4, g5⟩
  have k02 := Lib.hid (k0.out.below hb2 k0.out.lt)
  have hbw2 := Lib.hid (hb0.out.trans (hb2.mono hb0.out.size))
  have gg : Hid (w.heap.size ≤ bt ∧ w.heap.size ≤ bl ∧ bt < w2.heap.size ∧ bl < w2.heap.size) := by
    have := hb0.out.size
    exact ⟨by omega, by omega, g4, g5⟩
  clear C1 hb2 g1 g2 g3 g4 g5 k0 hb0
  have d0 := k02.out.cell (i := 0) rfl
  have d1 := k02.out.cell (i := 1) rfl
  have d2 := k02.out.cell (i := 2) rfl
  have d3 := k02.out.cell (i := 3) rfl
  have d4 := k02.out.cell (i := 4) rfl
  have df := k02.out.free
  have dl := k02.out.lt
  have hM3 := Lib.hid (hM2.other (W := w2.setCell ⟨w.heap.size, 3, none⟩ (.int .u8 7)) ((Touch.refl [w.heap.size] w2).setCell (p := ⟨w.heap.size, 3, none⟩) (.inl (by simp)) _) (fun k hk => hk))
  have hb3 := Lib.hid (hbw2.out.setCell (p := ⟨w.heap.size, 3, none⟩) (Nat.le_refl _) (.int .u8 7))
  clear hM2
  go_wp2_with fail
  have hsz3 : (w2.setCell ⟨w.heap.size, 3, none⟩ (.int .u8 7)).heap.size = w2.heap.size := by simp
  have k4 : Blk ((w2.setCell ⟨w.heap.size, 3, none⟩ (.int .u8 7)).alloc (.cells #[.int .i64 0, .int .i64 1000, .int .u8 15, .int .u8 7, .int .u64 by'] 27)) w2.heap.size #[.int .i64 0, .int .i64 1000, .int .u8 15, .int .u8 7, .int .u64 by'] 27 := by
    have := Blk.new (w2.setCell ⟨w.heap.size, 3, none⟩ (.int .u8 7)) #[.int .i64 0, .int .i64 1000, .int .u8 15, .int .u8 7, .int .u64 by'] 27
    rw [hsz3] at this
    exact this
  have s4 := SpAt.of_blk (S := [⟨0, 1000, 15, 7, by'⟩]) k4 rfl (by unfold maxLen; simp)
  have hb4 := hb3.out.trans ((below_alloc _ (.cells #[.int .i64 0, .int .i64 1000, .int .u8 15, .int .u8 7, .int .u64 by'] 27)).mono hb3.out.size)
  have hM4 := hM3.out.below (below_alloc _ (.cells #[.int .i64 0, .int .i64 1000, .int .u8 15, .int .u8 7, .int .u64 by'] 27))
  have lk4 := k4.lt
  have C2 := Lib.hid (N2.out _ _ s4 [bt, bl] (fun k hk => by
    have := gg.out
    simp at hk
    rcases hk with rfl | rfl <;> omega))
  clear k4 s4 N2 hM3 hb3 hsz3 d0 d1 d2 d3 d4 df dl k02 hbw2
  generalize (w2.setCell ⟨w.heap.size, 3, none⟩ (.int .u8 7)).alloc (.cells #[.int .i64 0, .int .i64 1000, .int .u8 15, .int .u8 7, .int .u64 by'] 27) = w4 at *
  refine C2.out.mono ?_
  rintro e w5 ⟨ph, ht, hl', rfl, hH5, hb5, g1, g2, g3, g4, g5⟩
  have hM5 := hM4.grow (A' := [ht, hl']) hb5 (fun k hk => by
    simp at hk
    rcases hk with rfl | rfl <;> omega)
  have hA0 : Hid (LateAt w L by' pm bt bl ph ht hl' 0 0 w5) := ⟨hb4.trans (hb5.mono hb4.size), ⟨gg.out.1, gg.out.2.1, by have := hb4.size; omega, by have := hb4.size; omega⟩, ⟨_, _, hM5, ⟨rfl, fun j => by rw [if_neg (by omega)]⟩⟩, ⟨_, _, hH5⟩⟩
  clear hM4 hM5 hH5 hb5 hb4 C2 g1 g2 g3 g4 g5 gg lk4
  have hn2 : n ≤ 120 := by omega
  go_wp2_with fail
  refine wp_loop_k (InvLate w L by' ao n c pm bt bl ph ht hl') n ?_ ?_
  · exact ⟨0, by omega, hA0, by kernel_rfl, rfl, by kernel_rfl, by kernel_rfl, by kernel_rfl, by kernel_rfl, by kernel_rfl⟩
  clear hA0
  intro gk a wr hI K hK
  obtain ⟨i, hi0, hA, hs', hd', k1', k5', k7', k9', k11'⟩ := hI
  rw [fr149 a hs' hd']; simp only [k1', k5', k7', k9', k11']; clear hs' hd' k1' k5' k7' k9' k11'
  by_cases hil : i < n
  · have g1 : decide ((i : Int) < (n : Int)) = true := by simp; omega
    have g2 : (i : Int) < (n : Int) := by omega
    have g3 : IntKind.i64.wrap ((i : Int) + 1) = ((i + 1 : Nat) : Int) := by rw [wrap_i64_small _ (by omega) (by omega)]; omega
    obtain ⟨b, o, rfl, hcell⟩ := ha.out i hil
    have hcw : Hid (∀ W, Below w.heap.size w W → W.cell? ⟨b, o + i, none⟩ = some (.int .u8 (L i))) := fun W hW => below_cell hcell hW (World.block_lt_of_cell? w _ hcell)
    clear hcell
    have hLi := hL.out i hil
    have hz2 : 0 ≤ IntKind.u8.wrap (L i + 1) ∧ IntKind.u8.wrap (L i + 1) < 256 := by rw [IntKind.wrap_u8]; omega
    have cl := hcw.out wr hA.out.bel
    have S9 := Lib.hid (fun v hw => hA.out.say9 hby.out (by omega) hLi v hw)
    have P1 := Lib.hid (postW wr (L i) hLi)
    have P2 := Lib.hid (fun W => postW W _ hz2)
    have hp2 := Lib.hid (postC_ok _ hz2)
    have hp1 := Lib.hid (postC_ok _ hLi)
    replace hLi := Lib.hid hLi
    generalize hz2e : IntKind.u8.wrap (L i + 1) = z2 at *
    go_wp2_with fail
    refine P1.out.mono ?_
    rintro e w6 ⟨v6, rfl, hO6, hb6⟩
    have hw6 := hO6.at0 hp1.out.R
    obtain ⟨a6, n6, c6, rfl⟩ := hO6.sl
    have hA6 := hA.out.below hb6
    have S9' := Lib.hid (hA6.say9 hby.out (by omega) hLi.out _ hw6)
    clear S9 P1 hO6 hw6 hb6 cl hA
    go_wp2_with fail
    refine S9'.out.mono ?_
    rintro e w7 ⟨v7, rfl, ⟨a7, n7, c7, rfl⟩, hw7, hb7, hS10⟩
    generalize hXe : (if (i : Int) < by' then ⟨0, []⟩ else postC (L (i - by'.toNat)) : PostC) = X at *
    replace hXe := Lib.hid hXe
    have k8 := Lib.hid (Blk.new w7 #[.int .u8 X.s, .slice a7 n7 c7] 40)
    have hb78 := below_alloc w7 (.cells #[.int .u8 X.s, .slice a7 n7 c7] 40)
    have cl := hcw.out _ (bthen hb7 hb78)
    have hw8 := Lib.hid (hw7.below hb78)
    have hS10' := Lib.hid (fun W6 h6 => hS10 W6 (bthen hb78 h6))
    have hP8 := Lib.hid (P2.out (w7.alloc (.cells #[.int .u8 X.s, .slice a7 n7 c7] 40)))
    clear hw7 hb7 hS10 hb78 S9'
    go_upto_region 14 with fail
    generalize hbx : w7.heap.size = bx at *
    clear hbx
    generalize w7.alloc (.cells #[.int .u8 X.s, .slice a7 n7 c7] 40) = w8 at *
    go_wp2_with fail
    refine hP8.out.mono ?_
    rintro e w9 ⟨v9, rfl, hO9, hb9⟩
    have hw9 := hO9.at0 hp2.out.R
    obtain ⟨a9, n9, c9, rfl⟩ := hO9.sl
    have hS := Lib.hid (hS10'.out w9 hb9 _ _ hp2.out hw9)
    have k9 := Lib.hid (k8.out.below hb9 k8.out.lt)
    replace hw8 := Lib.hid (hw8.out.below hb9)
    clear hO9 hw9 hb9 hP8 hS10' cl k8
    go_wp2_with fail
    refine hS.out.mono ?_
    rintro e w10 ⟨⟨s10, v10, rfl, a10, n10, c10, rfl⟩, hR, hkc, hkb⟩
    have k10 := Lib.hid (hkb _ _ _ k9.out)
    have hw10 := Lib.hid (hw8.out.keep hkc)
    replace hR := Lib.hid hR
    clear hS k9 hw8 hkc hkb
    go_upto_region 15 with fail
    have hbd : Below w10.heap.size w10 w10.drew := below_drewN w10 1
    by_cases hlt : (i : Int) < by'
    · have q1 : decide ((i : Int) < by') = true := by simp [hlt]
      have q2 : decide (by' ≤ (i : Int)) = false := by simp; omega
      have hX0 : X = ⟨0, []⟩ := by rw [← hXe.out, if_pos hlt]
      have hn7 : n7 = 0 := by
        have h1 := hw10.out
        rw [hX0] at h1
        obtain ⟨_, _, _, h2, h3, _⟩ := h1.len
        simp only [Value.slice.injEq] at h3
        rw [h3.2.1, h2]
        rfl
      subst hn7
      subst hX0
      have hE := Lib.hid (emptyTrue w10.drew a7 c7)
      have hcl : Hid (∀ W, Below w10.heap.size w10 W → W.cell? ⟨bx, 0, none⟩ = some (.int .u8 0) ∧ W.cell? ⟨bx, 1, none⟩ = some (.slice a7 0 c7)) := fun W hW => ⟨(k10.out.below hW k10.out.lt).cell (i := 0) rfl, (k10.out.below hW k10.out.lt).cell (i := 1) rfl⟩
      replace hlt := Lib.hid hlt
      refine wp_region_held_drew (S := fun W => W.cell? ⟨bx, 0, none⟩ = some (.int .u8 0) ∧ W.cell? ⟨bx, 1, none⟩ = some (.slice a7 0 c7)) (by kernel_rfl) (hcl.out _ hbd) (fun hHeld => ?_)
      refine wpAnyH_take (i := 0) (oi := { dst := some 67, op := .move (.tmp 11), type := _, pos := _, after := _, guard := _ }) (v := ?_) rfl (by kernel_rfl) (by kernel_rfl) (by kernel_rfl) (fun _ _ _ h => h) (Or.inl ⟨by rfl, ?_⟩) (by assumption) ?_
      rotate_left
      · (intro w hSw; (try dsimp only at hSw); go_simp) <;> with_reducible rfl
      try simp only [Act.put, List.setIfInBounds_toArray, List.set_cons_zero, List.set_cons_succ]
      refine wpAnyH_take (i := 1) (oi := { dst := some 68, op := .move (.tmp 5), type := _, pos := _, after := _, guard := _ }) (v := ?_) rfl (by kernel_rfl) (by kernel_rfl) (by kernel_rfl) (fun _ _ _ h => h) (Or.inl ⟨by rfl, ?_⟩) (by assumption) ?_
      rotate_left
      · (intro w hSw; (try dsimp only at hSw); go_simp) <;> with_reducible rfl
      try simp only [Act.put, List.setIfInBounds_toArray, List.set_cons_zero, List.set_cons_succ]
      refine wpAnyH_take (i := 2) (oi := { dst := some 69, op := .binOp _ _ (.tmp 67) (.tmp 68) _, type := _, pos := _, after := _, guard := _ }) (v := ?_) rfl (by kernel_rfl) (by kernel_rfl) (by kernel_rfl) (fun _ _ _ h => h) (Or.inl ⟨by rfl, ?_⟩) (by assumption) ?_
      rotate_left
      · (intro w hSw; (try dsimp only at hSw); go_simp) <;> with_reducible rfl
      try simp only [Act.put, List.setIfInBounds_toArray, List.set_cons_zero, List.set_cons_succ]
      refine wpAnyH_take (i := 3) (oi := { dst := some 70, op := .move (.tmp 69), type := _, pos := _, after := _, guard := _ }) (v := ?_) rfl (by kernel_rfl) (by kernel_rfl) (by kernel_rfl) (fun _ _ _ h => h) (Or.inl ⟨by rfl, ?_⟩) (by assumption) ?_
      rotate_left
      · (intro w hSw; (try dsimp only at hSw); go_simp) <;> with_reducible rfl
      try simp only [Act.put, List.setIfInBounds_toArray, List.set_cons_zero, List.set_cons_succ]
      refine wpAnyH_take (i := 4) (oi := { dst := some 71, op := .load _ (.tmp 12), type := _, pos := _, after := _, guard := _ }) (v := ?_) rfl (by kernel_rfl) (by kernel_rfl) (by kernel_rfl) (fun _ _ _ h => h) (Or.inl ⟨by rfl, ?_⟩) (by assumption) ?_
      rotate_left
      · (intro w hSw; (try dsimp only at hSw); go_simp) <;> with_reducible rfl
      try simp only [Act.put, List.setIfInBounds_toArray, List.set_cons_zero, List.set_cons_succ]
      refine wpAnyH_ready (rs := [5]) (by kernel_rfl) (by simp) ?_
      refine AllReadyH.cons (o := { dst := some 72, op := .call { callee := .value (.func 19), args := _, argTypes := _ }, type := _, pos := _, after := _, guard := _ }) rfl (fun K6 hK6 => ?_) AllReadyH.nil
      go_simp
      refine hE.out.mono ?_
      rintro e w11 ⟨rfl, hb11⟩
      have hR11 := Lib.hid (hR.out.below (bthen hbd hb11))
      refine hK6.out _ _ (hcl.out _ (bthen hbd hb11)) (fun hHeld => ?_)
      clear hK6 K6
      try simp only [Act.put, List.setIfInBounds_toArray, List.set_cons_zero, List.set_cons_succ]
      refine wpAnyH_take (i := 6) (oi := { dst := some 73, op := .unOp _ _ (.tmp 72), type := _, pos := _, after := _, guard := _ }) (v := ?_) rfl (by kernel_rfl) (by kernel_rfl) (by kernel_rfl) (fun _ _ _ h => h) (Or.inl ⟨by rfl, ?_⟩) (by assumption) ?_
      rotate_left
      · (intro w hSw; (try dsimp only at hSw); go_simp) <;> with_reducible rfl
      try simp only [Act.put, List.setIfInBounds_toArray, List.set_cons_zero, List.set_cons_succ]
      refine wpAnyH_take (i := 7) (oi := { dst := some 74, op := .pick (.tmp 70) (.tmp 73) _, type := _, pos := _, after := _, guard := _ }) (v := ?_) rfl (by kernel_rfl) (by kernel_rfl) (by kernel_rfl) (fun _ _ _ h => h) (Or.inl ⟨by rfl, ?_⟩) (by assumption) ?_
      rotate_left
      · (intro w hSw; (try dsimp only at hSw); go_simp) <;> with_reducible rfl
      try simp only [Act.put, List.setIfInBounds_toArray, List.set_cons_zero, List.set_cons_succ]
      refine wpAnyH_take (i := 8) (oi := { dst := some 75, op := .move (.tmp 74), type := _, pos := _, after := _, guard := _ }) (v := ?_) rfl (by kernel_rfl) (by kernel_rfl) (by kernel_rfl) (fun _ _ _ h => h) (Or.inl ⟨by rfl, ?_⟩) (by assumption) ?_
      rotate_left
      · (intro w hSw; (try dsimp only at hSw); go_simp) <;> with_reducible rfl
      try simp only [Act.put, List.setIfInBounds_toArray, List.set_cons_zero, List.set_cons_succ]
      refine wpAnyH_take (i := 9) (oi := { dst := some 76, op := .move (.tmp 11), type := _, pos := _, after := _, guard := _ }) (v := ?_) rfl (by kernel_rfl) (by kernel_rfl) (by kernel_rfl) (fun _ _ _ h => h) (Or.inl ⟨by rfl, ?_⟩) (by assumption) ?_
      rotate_left
      · (intro w hSw; (try dsimp only at hSw); go_simp) <;> with_reducible rfl
      try simp only [Act.put, List.setIfInBounds_toArray, List.set_cons_zero, List.set_cons_succ]
      refine wpAnyH_take (i := 10) (oi := { dst := some 77, op := .move (.tmp 5), type := _, pos := _, after := _, guard := _ }) (v := ?_) rfl (by kernel_rfl) (by kernel_rfl) (by kernel_rfl) (fun _ _ _ h => h) (Or.inl ⟨by rfl, ?_⟩) (by assumption) ?_
      rotate_left
      · (intro w hSw; (try dsimp only at hSw); go_simp) <;> with_reducible rfl
      try simp only [Act.put, List.setIfInBounds_toArray, List.set_cons_zero, List.set_cons_succ]
      refine wpAnyH_take (i := 11) (oi := { dst := some 78, op := .binOp _ _ (.tmp 76) (.tmp 77) _, type := _, pos := _, after := _, guard := _ }) (v := ?_) rfl (by kernel_rfl) (by kernel_rfl) (by kernel_rfl) (fun _ _ _ h => h) (Or.inl ⟨by rfl, ?_⟩) (by assumption) ?_
      rotate_left
      · (intro w hSw; (try dsimp only at hSw); go_simp) <;> with_reducible rfl
      try simp only [Act.put, List.setIfInBounds_toArray, List.set_cons_zero, List.set_cons_succ]
      refine wpAnyH_take (i := 12) (oi := { dst := some 79, op := .move (.tmp 78), type := _, pos := _, after := _, guard := _ }) (v := ?_) rfl (by kernel_rfl) (by kernel_rfl) (by kernel_rfl) (fun _ _ _ h => h) (Or.inl ⟨by rfl, ?_⟩) (by assumption) ?_
      rotate_left
      · (intro w hSw; (try dsimp only at hSw); go_simp) <;> with_reducible rfl
      try simp only [Act.put, List.setIfInBounds_toArray, List.set_cons_zero, List.set_cons_succ]
      refine wpAnyH_take (i := 13) (oi := { dst := some 80, op := .load _ (.tmp 12), type := _, pos := _, after := _, guard := _ }) (v := undef) rfl (by kernel_rfl) (by kernel_rfl) (by kernel_rfl) (fun _ _ _ h => h) (Or.inr ⟨by rfl, rfl⟩) (by assumption) ?_
      try simp only [Act.put, List.setIfInBounds_toArray, List.set_cons_zero, List.set_cons_succ]
      refine wpAnyH_take (i := 14) (oi := { dst := some 81, op := .move (.tmp 1), type := _, pos := _, after := _, guard := _ }) (v := undef) rfl (by kernel_rfl) (by kernel_rfl) (by kernel_rfl) (fun _ _ _ h => h) (Or.inr ⟨by rfl, rfl⟩) (by assumption) ?_
      try simp only [Act.put, List.setIfInBounds_toArray, List.set_cons_zero, List.set_cons_succ]
      refine wpAnyH_take (i := 15) (oi := { dst := some 82, op := .move (.tmp 11), type := _, pos := _, after := _, guard := _ }) (v := undef) rfl (by kernel_rfl) (by kernel_rfl) (by kernel_rfl) (fun _ _ _ h => h) (Or.inr ⟨by rfl, rfl⟩) (by assumption) ?_
      try simp only [Act.put, List.setIfInBounds_toArray, List.set_cons_zero, List.set_cons_succ]
      refine wpAnyH_take (i := 16) (oi := { dst := some 83, op := .move (.tmp 5), type := _, pos := _, after := _, guard := _ }) (v := undef) rfl (by kernel_rfl) (by kernel_rfl) (by kernel_rfl) (fun _ _ _ h => h) (Or.inr ⟨by rfl, rfl⟩) (by assumption) ?_
      try simp only [Act.put, List.setIfInBounds_toArray, List.set_cons_zero, List.set_cons_succ]
      refine wpAnyH_take (i := 17) (oi := { dst := some 84, op := .binOp _ _ (.tmp 82) (.tmp 83) _, type := _, pos := _, after := _, guard := _ }) (v := undef) rfl (by kernel_rfl) (by kernel_rfl) (by kernel_rfl) (fun _ _ _ h => h) (Or.inr ⟨by rfl, rfl⟩) (by assumption) ?_
      try simp only [Act.put, List.setIfInBounds_toArray, List.set_cons_zero, List.set_cons_succ]
      refine wpAnyH_take (i := 18) (oi := { dst := some 85, op := .indexAddr _ (.tmp 81) (.tmp 84), type := _, pos := _, after := _, guard := _ }) (v := undef) rfl (by kernel_rfl) (by kernel_rfl) (by kernel_rfl) (fun _ _ _ h => h) (Or.inr ⟨by rfl, rfl⟩) (by assumption) ?_
      try simp only [Act.put, List.setIfInBounds_toArray, List.set_cons_zero, List.set_cons_succ]
      refine wpAnyH_take (i := 19) (oi := { dst := some 86, op := .load _ (.tmp 85), type := _, pos := _, after := _, guard := _ }) (v := undef) rfl (by kernel_rfl) (by kernel_rfl) (by kernel_rfl) (fun _ _ _ h => h) (Or.inr ⟨by rfl, rfl⟩) (by assumption) ?_
      try simp only [Act.put, List.setIfInBounds_toArray, List.set_cons_zero, List.set_cons_succ]
      refine wpAnyH_take (i := 20) (oi := { dst := some 87, op := .call { callee := .value (.func 18), args := _, argTypes := _ }, type := _, pos := _, after := _, guard := _ }) (v := undef) rfl (by kernel_rfl) (by kernel_rfl) (by kernel_rfl) (fun _ _ _ h => h) (Or.inr ⟨by rfl, rfl⟩) (by assumption) ?_
      try simp only [Act.put, List.setIfInBounds_toArray, List.set_cons_zero, List.set_cons_succ]
      refine wpAnyH_take (i := 21) (oi := { dst := some 88, op := .call { callee := .value (.func 20), args := _, argTypes := _ }, type := _, pos := _, after := _, guard := _ }) (v := undef) rfl (by kernel_rfl) (by kernel_rfl) (by kernel_rfl) (fun _ _ _ h => h) (Or.inr ⟨by rfl, rfl⟩) (by assumption) ?_
      try simp only [Act.put, List.setIfInBounds_toArray, List.set_cons_zero, List.set_cons_succ]
      refine wpAnyH_take (i := 22) (oi := { dst := some 89, op := .unOp _ _ (.tmp 88), type := _, pos := _, after := _, guard := _ }) (v := undef) rfl (by kernel_rfl) (by kernel_rfl) (by kernel_rfl) (fun _ _ _ h => h) (Or.inr ⟨by rfl, rfl⟩) (by assumption) ?_
      try simp only [Act.put, List.setIfInBounds_toArray, List.set_cons_zero, List.set_cons_succ]
      refine wpAnyH_take (i := 23) (oi := { dst := some 90, op := .pick (.tmp 79) (.tmp 89) _, type := _, pos := _, after := _, guard := _ }) (v := ?_) rfl (by kernel_rfl) (by kernel_rfl) (by kernel_rfl) (fun _ _ _ h => h) (Or.inl ⟨by rfl, ?_⟩) (by assumption) ?_
      rotate_left
      · (intro w hSw; (try dsimp only at hSw); go_simp) <;> with_reducible rfl
      try simp only [Act.put, List.setIfInBounds_toArray, List.set_cons_zero, List.set_cons_succ]
      refine wpAnyH_take (i := 24) (oi := { dst := some 91, op := .pick (.tmp 75) _ (.tmp 90), type := _, pos := _, after := _, guard := _ }) (v := ?_) rfl (by kernel_rfl) (by kernel_rfl) (by kernel_rfl) (fun _ _ _ h => h) (Or.inl ⟨by rfl, ?_⟩) (by assumption) ?_
      rotate_left
      · (intro w hSw; (try dsimp only at hSw); go_simp) <;> with_reducible rfl
      try simp only [Act.put, List.setIfInBounds_toArray, List.set_cons_zero, List.set_cons_succ]
      refine wpAnyH_done (by kernel_rfl) ?_ _
      clear hHeld hcl hE
      clear hR hw10 k10 hb11
      go_upto_region 17 with fail
      have hR : Hid (RoundAt w L by' pm bt bl ph ht hl' i (4 * i) w11.drew) := hR11.out.below (below_drewN w11 1)
      have hX : Hid (WordAt 0 w11.drew (.slice none 0 0) []) := .inl ⟨rfl, rfl⟩
      clear hR11
      go_region_held3 (fun W => W.cell? ⟨b, o + i, none⟩ = some (.int .u8 (L i)))
        (exact hcw.out _ hR.out.bel)
        (first
          | (go_at_call 18
             (with_reducible refine (postW _ (L i) hLi.out).mono ?_)
             rintro e wn ⟨vn, rfl, hOn, hbn⟩
             replace hR := Lib.hid (hR.out.below hbn)
             replace hX := Lib.hid (hX.out.below hbn)
             have hQ := Lib.hid (hOn.at0 hp1.out.R)
             obtain ⟨an, nn, cn, rfl⟩ := hOn.sl
             clear hOn hbn)
          | (go_at_call 20
             (with_reducible refine (alikeSelf _ (postC (L i)) hp1.out _ _ hX.out hQ.out).mono ?_)
             rintro e wn ⟨rfl, hbn⟩
             replace hR := Lib.hid (hR.out.below hbn)
             replace hX : Hid (WordAt 0 wn (.slice none 0 0) []) := .inl ⟨rfl, rfl⟩
             clear hQ hbn)
          | (go_at_call 19
             (with_reducible refine (emptyTrue _ _ _).mono ?_)
             rintro e wn ⟨rfl, hbn⟩
             replace hR := Lib.hid (hR.out.below hbn)
             replace hX : Hid (WordAt 0 wn (.slice none 0 0) []) := .inl ⟨rfl, rfl⟩
             clear hbn)
          | (go_at_call 17
             (first | (with_reducible refine (hR.out.sayE hby.out (by omega) (by omega) 8 (by omega) (postC (L i)) hp1.out _ hQ.out).mono ?_) | (with_reducible refine (hR.out.sayE hby.out (by omega) (by omega) 10 (by omega) (postC (L i)) hp1.out _ hQ.out).mono ?_))
             rintro e wn ⟨an', nn', cn', rfl, hXn, hRn⟩
             replace hR := Lib.hid hRn
             replace hX := Lib.hid hXn
             clear hQ hRn hXn)
          | (go_at_call 17
             (first | (with_reducible refine (hR.out.sayO hby.out (by omega) (by omega) 9 (by omega) (postC (L i)) hp1.out _ hQ.out).mono ?_) | (with_reducible refine (hR.out.sayO hby.out (by omega) (by omega) 11 (by omega) (postC (L i)) hp1.out _ hQ.out).mono ?_))
             rintro e wn ⟨an', cn', rfl, hRn⟩
             replace hR := Lib.hid hRn
             replace hX : Hid (WordAt 0 wn (.slice none 0 0) []) := .inl ⟨rfl, rfl⟩
             clear hQ hRn)
          | fail)
      have hAn := Lib.hid hR.out.fin
      clear hR hX
      go_wp2_with fail
      exact hK (n - (i + 1)) _ _ (by omega) ⟨i + 1, by omega, hAn, by kernel_rfl, rfl, by kernel_rfl, by kernel_rfl, by kernel_rfl, by kernel_rfl, by kernel_rfl⟩
    · have q1 : decide ((i : Int) < by') = false := by simp; omega
      have q2 : decide (by' ≤ (i : Int)) = true := by simp; omega
      have hby2 := hby.out
      obtain ⟨j, hj⟩ : ∃ j, j = i - by'.toNat := ⟨_, rfl⟩
      have g7 : IntKind.i64.wrap ((i : Int) - by') = ((j : Nat) : Int) := by
        have e : (i : Int) - by' = ((j : Nat) : Int) := by omega
        rw [e]
        exact wrapI _ (by omega) (by omega)
      have hjn : j < n := by omega
      have hX0 : X = postC (L j) := by rw [← hXe.out, if_neg hlt, hj]
      have hLj := hL.out j hjn
      have hpj := postC_ok _ hLj
      obtain ⟨b', o', hbo, hcj⟩ := ha.out j hjn
      simp only [Option.some.injEq, Addr.mk.injEq] at hbo
      obtain ⟨rfl, rfl, _⟩ := hbo
      subst hX0
      have hcl : Hid (∀ W, Below w10.heap.size w10 W → W.cell? ⟨bx, 0, none⟩ = some (.int .u8 (postC (L j)).s) ∧ W.cell? ⟨bx, 1, none⟩ = some (.slice a7 n7 c7) ∧ W.cell? ⟨b, o + j, none⟩ = some (.int .u8 (L j))) := fun W hW => ⟨(k10.out.below hW k10.out.lt).cell (i := 0) rfl, (k10.out.below hW k10.out.lt).cell (i := 1) rfl, below_cell hcj (bthen hR.out.bel hW) (World.block_lt_of_cell? w _ hcj)⟩
      replace hlt := Lib.hid hlt
      replace hj := Lib.hid hj
      clear hcj hby2
      refine wp_region_held_drew (S := fun W => W.cell? ⟨bx, 0, none⟩ = some (.int .u8 (postC (L j)).s) ∧ W.cell? ⟨bx, 1, none⟩ = some (.slice a7 n7 c7) ∧ W.cell? ⟨b, o + j, none⟩ = some (.int .u8 (L j))) (by kernel_rfl) (hcl.out _ hbd) (fun hHeld => ?_)
      refine wpAnyH_take (i := 0) (oi := { dst := some 67, op := .move (.tmp 11), type := _, pos := _, after := _, guard := _ }) (v := ?_) rfl (by kernel_rfl) (by kernel_rfl) (by kernel_rfl) (fun _ _ _ h => h) (Or.inl ⟨by rfl, ?_⟩) (by assumption) ?_
      rotate_left
      · (intro w hSw; (try dsimp only at hSw); go_simp) <;> with_reducible rfl
      try simp only [Act.put, List.setIfInBounds_toArray, List.set_cons_zero, List.set_cons_succ]
      refine wpAnyH_take (i := 1) (oi := { dst := some 68, op := .move (.tmp 5), type := _, pos := _, after := _, guard := _ }) (v := ?_) rfl (by kernel_rfl) (by kernel_rfl) (by kernel_rfl) (fun _ _ _ h => h) (Or.inl ⟨by rfl, ?_⟩) (by assumption) ?_
      rotate_left
      · (intro w hSw; (try dsimp only at hSw); go_simp) <;> with_reducible rfl
      try simp only [Act.put, List.setIfInBounds_toArray, List.set_cons_zero, List.set_cons_succ]
      refine wpAnyH_take (i := 2) (oi := { dst := some 69, op := .binOp _ _ (.tmp 67) (.tmp 68) _, type := _, pos := _, after := _, guard := _ }) (v := ?_) rfl (by kernel_rfl) (by kernel_rfl) (by kernel_rfl) (fun _ _ _ h => h) (Or.inl ⟨by rfl, ?_⟩) (by assumption) ?_
      rotate_left
      · (intro w hSw; (try dsimp only at hSw); go_simp) <;> with_reducible rfl
      try simp only [Act.put, List.setIfInBounds_toArray, List.set_cons_zero, List.set_cons_succ]
      refine wpAnyH_take (i := 3) (oi := { dst := some 70, op := .move (.tmp 69), type := _, pos := _, after := _, guard := _ }) (v := ?_) rfl (by kernel_rfl) (by kernel_rfl) (by kernel_rfl) (fun _ _ _ h => h) (Or.inl ⟨by rfl, ?_⟩) (by assumption) ?_
      rotate_left
      · (intro w hSw; (try dsimp only at hSw); go_simp) <;> with_reducible rfl
      try simp only [Act.put, List.setIfInBounds_toArray, List.set_cons_zero, List.set_cons_succ]
      refine wpAnyH_take (i := 4) (oi := { dst := some 71, op := .load _ (.tmp 12), type := _, pos := _, after := _, guard := _ }) (v := undef) rfl (by kernel_rfl) (by kernel_rfl) (by kernel_rfl) (fun _ _ _ h => h) (Or.inr ⟨by rfl, rfl⟩) (by assumption) ?_
      try simp only [Act.put, List.setIfInBounds_toArray, List.set_cons_zero, List.set_cons_succ]
      refine wpAnyH_take (i := 5) (oi := { dst := some 72, op := .call { callee := .value (.func 19), args := _, argTypes := _ }, type := _, pos := _, after := _, guard := _ }) (v := undef) rfl (by kernel_rfl) (by kernel_rfl) (by kernel_rfl) (fun _ _ _ h => h) (Or.inr ⟨by rfl, rfl⟩) (by assumption) ?_
      try simp only [Act.put, List.setIfInBounds_toArray, List.set_cons_zero, List.set_cons_succ]
      refine wpAnyH_take (i := 6) (oi := { dst := some 73, op := .unOp _ _ (.tmp 72), type := _, pos := _, after := _, guard := _ }) (v := undef) rfl (by kernel_rfl) (by kernel_rfl) (by kernel_rfl) (fun _ _ _ h => h) (Or.inr ⟨by rfl, rfl⟩) (by assumption) ?_
      try simp only [Act.put, List.setIfInBounds_toArray, List.set_cons_zero, List.set_cons_succ]
      refine wpAnyH_take (i := 7) (oi := { dst := some 74, op := .pick (.tmp 70) (.tmp 73) _, type := _, pos := _, after := _, guard := _ }) (v := ?_) rfl (by kernel_rfl) (by kernel_rfl) (by kernel_rfl) (fun _ _ _ h => h) (Or.inl ⟨by rfl, ?_⟩) (by assumption) ?_
      rotate_left
      · (intro w hSw; (try dsimp only at hSw); go_simp) <;> with_reducible rfl
      try simp only [Act.put, List.setIfInBounds_toArray, List.set_cons_zero, List.set_cons_succ]
      refine wpAnyH_take (i := 8) (oi := { dst := some 75, op := .move (.tmp 74), type := _, pos := _, after := _, guard := _ }) (v := ?_) rfl (by kernel_rfl) (by kernel_rfl) (by kernel_rfl) (fun _ _ _ h => h) (Or.inl ⟨by rfl, ?_⟩) (by assumption) ?_
      rotate_left
      · (intro w hSw; (try dsimp only at hSw); go_simp) <;> with_reducible rfl
      try simp only [Act.put, List.setIfInBounds_toArray, List.set_cons_zero, List.set_cons_succ]
      refine wpAnyH_take (i := 9) (oi := { dst := some 76, op := .move (.tmp 11), type := _, pos := _, after := _, guard := _ }) (v := ?_) rfl (by kernel_rfl) (by kernel_rfl) (by kernel_rfl) (fun _ _ _ h => h) (Or.inl ⟨by rfl, ?_⟩) (by assumption) ?_
      rotate_left
      · (intro w hSw; (try dsimp only at hSw); go_simp) <;> with_reducible rfl
      try simp only [Act.put, List.setIfInBounds_toArray, List.set_cons_zero, List.set_cons_succ]
      refine wpAnyH_take (i := 10) (oi := { dst := some 77, op := .move (.tmp 5), type := _, pos := _, after := _, guard := _ }) (v := ?_) rfl (by kernel_rfl) (by kernel_rfl) (by kernel_rfl) (fun _ _ _ h => h) (Or.inl ⟨by rfl, ?_⟩) (by assumption) ?_
      rotate_left
      · (intro w hSw; (try dsimp only at hSw); go_simp) <;> with_reducible rfl
      try simp only [Act.put, List.setIfInBounds_toArray, List.set_cons_zero, List.set_cons_succ]
      refine wpAnyH_take (i := 11) (oi := { dst := some 78, op := .binOp _ _ (.tmp 76) (.tmp 77) _, type := _, pos := _, after := _, guard := _ }) (v := ?_) rfl (by kernel_rfl) (by kernel_rfl) (by kernel_rfl) (fun _ _ _ h => h) (Or.inl ⟨by rfl, ?_⟩) (by assumption) ?_
      rotate_left
      · (intro w hSw; (try dsimp only at hSw); go_simp) <;> with_reducible rfl
      try simp only [Act.put, List.setIfInBounds_toArray, List.set_cons_zero, List.set_cons_succ]
      refine wpAnyH_take (i := 12) (oi := { dst := some 79, op := .move (.tmp 78), type := _, pos := _, after := _, guard := _ }) (v := ?_) rfl (by kernel_rfl) (by kernel_rfl) (by kernel_rfl) (fun _ _ _ h => h) (Or.inl ⟨by rfl, ?_⟩) (by assumption) ?_
      rotate_left
      · (intro w hSw; (try dsimp only at hSw); go_simp) <;> with_reducible rfl
      try simp only [Act.put, List.setIfInBounds_toArray, List.set_cons_zero, List.set_cons_succ]
      refine wpAnyH_take (i := 13) (oi := { dst := some 80, op := .load _ (.tmp 12), type := _, pos := _, after := _, guard := _ }) (v := ?_) rfl (by kernel_rfl) (by kernel_rfl) (by kernel_rfl) (fun _ _ _ h => h) (Or.inl ⟨by rfl, ?_⟩) (by assumption) ?_
      rotate_left
      · (intro w hSw; (try dsimp only at hSw); go_simp) <;> with_reducible rfl
      try simp only [Act.put, List.setIfInBounds_toArray, List.set_cons_zero, List.set_cons_succ]
      refine wpAnyH_take (i := 14) (oi := { dst := some 81, op := .move (.tmp 1), type := _, pos := _, after := _, guard := _ }) (v := ?_) rfl (by kernel_rfl) (by kernel_rfl) (by kernel_rfl) (fun _ _ _ h => h) (Or.inl ⟨by rfl, ?_⟩) (by assumption) ?_
      rotate_left
      · (intro w hSw; (try dsimp only at hSw); go_simp) <;> with_reducible rfl
      try simp only [Act.put, List.setIfInBounds_toArray, List.set_cons_zero, List.set_cons_succ]
      refine wpAnyH_take (i := 15) (oi := { dst := some 82, op := .move (.tmp 11), type := _, pos := _, after := _, guard := _ }) (v := ?_) rfl (by kernel_rfl) (by kernel_rfl) (by kernel_rfl) (fun _ _ _ h => h) (Or.inl ⟨by rfl, ?_⟩) (by assumption) ?_
      rotate_left
      · (intro w hSw; (try dsimp only at hSw); go_simp) <;> with_reducible rfl
      try simp only [Act.put, List.setIfInBounds_toArray, List.set_cons_zero, List.set_cons_succ]
      refine wpAnyH_take (i := 16) (oi := { dst := some 83, op := .move (.tmp 5), type := _, pos := _, after := _, guard := _ }) (v := ?_) rfl (by kernel_rfl) (by kernel_rfl) (by kernel_rfl) (fun _ _ _ h => h) (Or.inl ⟨by rfl, ?_⟩) (by assumption) ?_
      rotate_left
      · (intro w hSw; (try dsimp only at hSw); go_simp) <;> with_reducible rfl
      try simp only [Act.put, List.setIfInBounds_toArray, List.set_cons_zero, List.set_cons_succ]
      refine wpAnyH_take (i := 17) (oi := { dst := some 84, op := .binOp _ _ (.tmp 82) (.tmp 83) _, type := _, pos := _, after := _, guard := _ }) (v := ?_) rfl (by kernel_rfl) (by kernel_rfl) (by kernel_rfl) (fun _ _ _ h => h) (Or.inl ⟨by rfl, ?_⟩) (by assumption) ?_
      rotate_left
      · (intro w hSw; (try dsimp only at hSw); go_simp) <;> with_reducible rfl
      try simp only [Act.put, List.setIfInBounds_toArray, List.set_cons_zero, List.set_cons_succ]
      refine wpAnyH_take (i := 18) (oi := { dst := some 85, op := .indexAddr _ (.tmp 81) (.tmp 84), type := _, pos := _, after := _, guard := _ }) (v := ?_) rfl (by kernel_rfl) (by kernel_rfl) (by kernel_rfl) (fun _ _ _ h => h) (Or.inl ⟨by rfl, ?_⟩) (by assumption) ?_
      rotate_left
      · (intro w hSw; (try dsimp only at hSw); go_simp) <;> with_reducible rfl
      try simp only [Act.put, List.setIfInBounds_toArray, List.set_cons_zero, List.set_cons_succ]
      refine wpAnyH_take (i := 19) (oi := { dst := some 86, op := .load _ (.tmp 85), type := _, pos := _, after := _, guard := _ }) (v := ?_) rfl (by kernel_rfl) (by kernel_rfl) (by kernel_rfl) (fun _ _ _ h => h) (Or.inl ⟨by rfl, ?_⟩) (by assumption) ?_
      rotate_left
      · (intro w hSw; (try dsimp only at hSw); go_simp) <;> with_reducible rfl
      try simp only [Act.put, List.setIfInBounds_toArray, List.set_cons_zero, List.set_cons_succ]
      refine wpAnyH_ready (rs := [20]) (by kernel_rfl) (by simp) ?_
      refine AllReadyH.cons (o := { dst := some 87, op := .call { callee := .value (.func 18), args := _, argTypes := _ }, type := _, pos := _, after := _, guard := _ }) rfl (fun K6 hK6 => ?_) AllReadyH.nil
      go_simp
      refine (postW _ (L j) hLj).mono ?_
      rintro e w11 ⟨v11, rfl, hO11, hb11⟩
      have hb12 := bthen hbd hb11
      have hX11 := hw10.out.below hb12
      have hQ11 := hO11.at0 hpj.R
      obtain ⟨a11, n11, c11, rfl⟩ := hO11.sl
      have hE := Lib.hid (alikeSelf w11 (postC (L j)) hpj _ _ hX11 hQ11)
      refine hK6.out _ _ (hcl.out _ hb12) (fun hHeld => ?_)
      clear hK6 K6
      try simp only [Act.put, List.setIfInBounds_toArray, List.set_cons_zero, List.set_cons_succ]
      refine wpAnyH_ready (rs := [21]) (by kernel_rfl) (by simp) ?_
      refine AllReadyH.cons (o := { dst := some 88, op := .call { callee := .value (.func 20), args := _, argTypes := _ }, type := _, pos := _, after := _, guard := _ }) rfl (fun K6 hK6 => ?_) AllReadyH.nil
      go_simp
      refine hE.out.mono ?_
      rintro e w12 ⟨rfl, hb13⟩
      have hb14 := bthen hb12 hb13
      have hR11 := Lib.hid (hR.out.below hb14)
      refine hK6.out _ _ (hcl.out _ hb14) (fun hHeld => ?_)
      clear hK6 K6
      try simp only [Act.put, List.setIfInBounds_toArray, List.set_cons_zero, List.set_cons_succ]
      refine wpAnyH_take (i := 22) (oi := { dst := some 89, op := .unOp _ _ (.tmp 88), type := _, pos := _, after := _, guard := _ }) (v := ?_) rfl (by kernel_rfl) (by kernel_rfl) (by kernel_rfl) (fun _ _ _ h => h) (Or.inl ⟨by rfl, ?_⟩) (by assumption) ?_
      rotate_left
      · (intro w hSw; (try dsimp only at hSw); go_simp) <;> with_reducible rfl
      try simp only [Act.put, List.setIfInBounds_toArray, List.set_cons_zero, List.set_cons_succ]
      refine wpAnyH_take (i := 23) (oi := { dst := some 90, op := .pick (.tmp 79) (.tmp 89) _, type := _, pos := _, after := _, guard := _ }) (v := ?_) rfl (by kernel_rfl) (by kernel_rfl) (by kernel_rfl) (fun _ _ _ h => h) (Or.inl ⟨by rfl, ?_⟩) (by assumption) ?_
      rotate_left
      · (intro w hSw; (try dsimp only at hSw); go_simp) <;> with_reducible rfl
      try simp only [Act.put, List.setIfInBounds_toArray, List.set_cons_zero, List.set_cons_succ]
      refine wpAnyH_take (i := 24) (oi := { dst := some 91, op := .pick (.tmp 75) _ (.tmp 90), type := _, pos := _, after := _, guard := _ }) (v := ?_) rfl (by kernel_rfl) (by kernel_rfl) (by kernel_rfl) (fun _ _ _ h => h) (Or.inl ⟨by rfl, ?_⟩) (by assumption) ?_
      rotate_left
      · (intro w hSw; (try dsimp only at hSw); go_simp) <;> with_reducible rfl
      try simp only [Act.put, List.setIfInBounds_toArray, List.set_cons_zero, List.set_cons_succ]
      refine wpAnyH_done (by kernel_rfl) ?_ _
      clear hHeld hcl hE hb13
      clear hR hw10 k10 hb11
      go_upto_region 17 with fail
      have hR : Hid (RoundAt w L by' pm bt bl ph ht hl' i (4 * i) w12.drew) := hR11.out.below (below_drewN w12 1)
      have hX : Hid (WordAt 0 w12.drew (.slice none 0 0) []) := .inl ⟨rfl, rfl⟩
      clear hR11
      go_region_held3 (fun W => W.cell? ⟨b, o + i, none⟩ = some (.int .u8 (L i)))
        (exact hcw.out _ hR.out.bel)
        (first
          | (go_at_call 18
             (with_reducible refine (postW _ (L i) hLi.out).mono ?_)
             rintro e wn ⟨vn, rfl, hOn, hbn⟩
             replace hR := Lib.hid (hR.out.below hbn)
             replace hX := Lib.hid (hX.out.below hbn)
             have hQ := Lib.hid (hOn.at0 hp1.out.R)
             obtain ⟨an, nn, cn, rfl⟩ := hOn.sl
             clear hOn hbn)
          | (go_at_call 20
             (with_reducible refine (alikeSelf _ (postC (L i)) hp1.out _ _ hX.out hQ.out).mono ?_)
             rintro e wn ⟨rfl, hbn⟩
             replace hR := Lib.hid (hR.out.below hbn)
             replace hX : Hid (WordAt 0 wn (.slice none 0 0) []) := .inl ⟨rfl, rfl⟩
             clear hQ hbn)
          | (go_at_call 19
             (with_reducible refine (emptyTrue _ _ _).mono ?_)
             rintro e wn ⟨rfl, hbn⟩
             replace hR := Lib.hid (hR.out.below hbn)
             replace hX : Hid (WordAt 0 wn (.slice none 0 0) []) := .inl ⟨rfl, rfl⟩
             clear hbn)
          | (go_at_call 17
             (first | (with_reducible refine (hR.out.sayE hby.out (by omega) (by omega) 8 (by omega) (postC (L i)) hp1.out _ hQ.out).mono ?_) | (with_reducible refine (hR.out.sayE hby.out (by omega) (by omega) 10 (by omega) (postC (L i)) hp1.out _ hQ.out).mono ?_))
             rintro e wn ⟨an', nn', cn', rfl, hXn, hRn⟩
             replace hR := Lib.hid hRn
             replace hX := Lib.hid hXn
             clear hQ hRn hXn)
          | (go_at_call 17
             (first | (with_reducible refine (hR.out.sayO hby.out (by omega) (by omega) 9 (by omega) (postC (L i)) hp1.out _ hQ.out).mono ?_) | (with_reducible refine (hR.out.sayO hby.out (by omega) (by omega) 11 (by omega) (postC (L i)) hp1.out _ hQ.out).mono ?_))
             rintro e wn ⟨an', cn', rfl, hRn⟩
             replace hR := Lib.hid hRn
             replace hX : Hid (WordAt 0 wn (.slice none 0 0) []) := .inl ⟨rfl, rfl⟩
             clear hQ hRn)
          | fail)
      have hAn := Lib.hid hR.out.fin
      clear hR hX
      go_wp2_with fail
      exact hK (n - (i + 1)) _ _ (by omega) ⟨i + 1, by omega, hAn, by kernel_rfl, rfl, by kernel_rfl, by kernel_rfl, by kernel_rfl, by kernel_rfl, by kernel_rfl⟩
  have g1 : decide ((i : Int) < (n : Int)) = false := by simp; omega
  have g2 : ¬ (i : Int) < (n : Int) := by omega
  have hbF := Lib.hid hA.out.bel
  go_wp2_with fail
  refine (hlives.out _).mono ?_
  rintro e w9 ⟨rfl, hb9⟩
  replace hb9 := Lib.hid (bthen hbF.out hb9)
  go_wp2_with fail
  go_ret
  exact ⟨rfl, hb9.out⟩
end Go.Proofs.Ytmdohnbhogfopaa
