/- Several texts, one behind the other: TwnP TwnE TwnF TwnG TwnH TwnI. -/
import Derived.Test.YtmdohnbhogfopaaZDocJK
import Derived.Test.YtmdohnbhogfopaaZTwnAD
import Derived.Test.YtmdohnbhogfopaaZLivAC
import Derived.Test.YtmdohnbhogfopaaZDocAD
import Derived.Test.YtmdohnbhogfopaaZFaultsAgainW
/- What the program keeps and what the document was told say the same. -/
namespace Go.Proofs.Ytmdohnbhogfopaa
open Go.RowKit Go.Maps
set_option linter.unusedSimpArgs false
set_option linter.unusedVariables false
/-- What is kept, beside all that was told. -/
structure RelT (T : Int × Int → Option PostC) (G : Int → Option Int) (L : List ToldC) : Prop where
  says : ∀ t l, (T (l, t)).getD ⟨0, []⟩ = shouldF L t l
  nn : ∀ t l, G l = none → (foldS L t l).1 = -1
  sm : ∀ t l g, G l = some g → (foldS L t l).1 = g
theorem RelT.nil : RelT (fun _ => none) (fun _ => none) [] := by
  refine ⟨fun t l => ?_, fun t l _ => rfl, fun t l g h => by cases h⟩
  show (⟨0, []⟩ : PostC) = shouldF [] t l
  unfold shouldF foldS
  split <;> rfl
theorem foldS_snoc (L : List ToldC) (x : ToldC) (t l : Int) : foldS (L ++ [x]) t l = stepS t l (foldS L t l) x := by
  unfold foldS
  rw [List.foldl_append]
  rfl
theorem RelT.keep {T : Int × Int → Option PostC} {G : Int → Option Int} {L : List ToldC} (h : RelT T G L) (hL : ∀ x ∈ L, 0 ≤ x.t ∧ x.t ≤ 1099511627776) (t0 l0 : Int) (p0 : PostC) (ht : 0 ≤ t0) : RelT (keepT T G t0 l0 p0) (keepG G t0 l0) (L ++ [⟨l0, t0, p0⟩]) := by
  have hnew : ∀ t, newG G t0 l0 = if (foldS L t l0).1 < t0 then t0 else (foldS L t l0).1 := fun t => by
    unfold newG
    cases hG : G l0 with
    | none =>
      have := h.nn t l0 hG
      rw [this, if_pos (by omega)]
    | some g =>
      have := h.sm t l0 g hG
      rw [this]
  have hfst : ∀ t, (foldS (L ++ [⟨l0, t0, p0⟩]) t l0).1 = newG G t0 l0 := fun t => by
    rw [foldS_snoc, hnew t]
    unfold stepS
    rw [if_neg (by simp)]
  have hoth : ∀ t l, l ≠ l0 → foldS (L ++ [⟨l0, t0, p0⟩]) t l = foldS L t l := fun t l hl => by
    rw [foldS_snoc]
    unfold stepS
    rw [if_pos (by simpa using fun e => hl e.symm)]
  refine ⟨fun t l => ?_, fun t l hg => ?_, fun t l g hg => ?_⟩
  · by_cases hl : l = l0
    · subst hl
      unfold shouldF
      rw [hfst]
      unfold keepT
      by_cases h1 : t ≤ newG G t0 l - 64
      · rw [if_pos h1, if_pos ⟨rfl, h1⟩]
        rfl
      · rw [if_neg h1, if_neg (fun hq => h1 hq.2)]
        by_cases h2 : t = t0
        · subst h2
          rw [if_pos rfl, foldS_snoc]
          unfold stepS
          rw [if_neg (by simp)]
          show p0 = if t = t ∧ (if (foldS L t l).1 < t then t else (foldS L t l).1) - 64 < t then p0 else (foldS L t l).2
          rw [if_pos ⟨rfl, by rw [← hnew t]; omega⟩]
        · rw [if_neg (by simpa using h2), h.says t l, foldS_snoc]
          unfold stepS
          rw [if_neg (by simp)]
          show _ = if t0 = t ∧ (if (foldS L t l).1 < t0 then t0 else (foldS L t l).1) - 64 < t then p0 else (foldS L t l).2
          rw [if_neg (fun hq => h2 hq.1.symm)]
          unfold shouldF
          rw [if_neg]
          have := hnew t
          split at this <;> omega
    · unfold shouldF
      rw [hoth t l hl]
      unfold keepT
      rw [if_neg (fun hq => hl hq.1), if_neg (fun hq => hl (by injection hq)), h.says t l]
      rfl
  · unfold keepG at hg
    split at hg
    · cases hg
    · rename_i hl
      rw [hoth t l hl]
      exact h.nn t l hg
  · unfold keepG at hg
    split at hg
    · rename_i hl
      subst hl
      rw [hfst]
      simpa using hg
    · rename_i hl
      rw [hoth t l hl]
      exact h.sm t l g hg
theorem RelT.says' {F : FaultC} {T : Int × Int → Option PostC} {G : Int → Option Int} {L : List ToldC} (h : RelT T G L) (hL : ∀ x ∈ L, 0 ≤ x.t ∧ x.t ≤ 1099511627776) (t l : Int) (p : PostC) : RelT (saysT F T G t l p) (saysG F G t l) (toldA F L t l p) := by
  unfold saysT saysG toldA
  by_cases hb : toldB F t l = true
  · rw [if_pos hb, if_pos hb, if_pos hb]
    have ht : 0 ≤ t := by
      unfold toldB at hb
      simp only [Bool.and_eq_true, decide_eq_true_eq] at hb
      exact hb.2.1
    exact h.keep hL t l p ht
  · rw [if_neg hb, if_neg hb, if_neg hb]
    exact h
theorem RelT.same {F : FaultC} {T : Int × Int → Option PostC} {G : Int → Option Int} {L : List ToldC} (h : RelT T G L) (hL : ∀ x ∈ L, 0 ≤ x.t ∧ x.t ≤ 1099511627776) (t l : Int) (p : PostC) : saysP F T G t l p = saidA F L t l p := by
  unfold saysP saidA
  by_cases h1 : isF F l = false
  · rw [if_pos h1, if_pos h1]
  · rw [if_neg h1, if_neg h1]
    by_cases h2 : toldB F t l = false
    · rw [if_pos h2, if_pos h2]
    · rw [if_neg h2, if_neg h2]
      have hb : toldB F t l = true := by simpa using h2
      have ht : 0 ≤ t := by
        unfold toldB at hb
        simp only [Bool.and_eq_true, decide_eq_true_eq] at hb
        exact hb.2.1
      have hk := h.keep hL t l p ht
      have e : lateC (keepT T G t l p) t l (spellF F t l).sd = lateC (fun x => some (shouldF (L ++ [⟨l, t, p⟩]) x.2 x.1)) t l (spellF F t l).sd := by
        unfold lateC
        rw [hk.says]
        rfl
      unfold kindP
      rw [e]
end Go.Proofs.Ytmdohnbhogfopaa
/- Spoil: a row's table is written over, to its room's end. -/
namespace Go.Proofs.Ytmdohnbhogfopaa
open Go.RowKit Go.Maps
set_option linter.unusedSimpArgs false
set_option linter.unusedVariables false
set_option maxRecDepth 100000
def spoC : List Value := zeroC.set 0 (.int .i64 (-99))
def spoL : List Value := .bool true :: spoC
theorem built_spoC : Try.prog.built 94 [(0, .int .i64 (-99))] = some spoC.toArray := by kernel_rfl
theorem spo_size : (Try.prog.info? 163).map (·.size) = some spoL.toArray.size := by rw [heldSize]; rfl
theorem spo_one : spoL.toArray.all (·.oneCell') = true := by kernel_rfl
theorem built_spo : Try.prog.built 163 [(0, .bool true), (1, .agg spoC.toArray)] = some spoL.toArray := by kernel_rfl
theorem Blk.cellsIn {b : Nat} {t : TypeId} : ∀ (vs : List Value) (o : Nat) {w : World} {cur : Array Value}, Blk w b cur t → ∃ cur', Blk (w.setCells b o vs) b cur' t ∧ cur'.size = cur.size
  | [], o, w, cur, h => ⟨cur, h, rfl⟩
  | v :: r, o, w, cur, h => by
    obtain ⟨cur', h1, h2⟩ := Blk.cellsIn r (o + 1) (h.set o v)
    exact ⟨cur', h1, by simpa using h2⟩
theorem Blk.cellsNe {b g : Nat} {t : TypeId} (hn : b ≠ g) : ∀ (vs : List Value) (o : Nat) {w : World} {cur : Array Value}, Blk w b cur t → Blk (w.setCells g o vs) b cur t
  | [], o, w, cur, h => h
  | v :: r, o, w, cur, h => Blk.cellsNe hn r (o + 1) (h.setNe (a := ⟨g, o, none⟩) hn v)
theorem Touch.cells {S : List Nat} {g : Nat} {a : World} (hg : g ∈ S ∨ a.heap.size ≤ g) : ∀ (vs : List Value) (o : Nat) {w : World}, Touch S a w → Touch S a (w.setCells g o vs)
  | [], o, w, h => h
  | v :: r, o, w, h => Touch.cells hg r (o + 1) (h.setCell (p := ⟨g, o, none⟩) hg v)
theorem ex_store_mid {P : Program} {a : Act} {op : Oper} {w : World} (ty : TypeId) (x y : Operand) (ho : op.op = .store ty x y) (ad : Addr) (b o : Nat) (cells : Array Value) (hx : a.eval x = .pointer (some ad)) (had : ad = ⟨b, o, none⟩) (hy : a.eval y = .agg cells)
    (ht : w.there b o cells.size) (hi : (P.info? ty).map (·.size) = some cells.size) (h1 : cells.all (·.oneCell') = true) : (execOp a.eval op).run P w = .ok .skip (w.setCells b o cells.toList) := by
  subst had
  unfold execOp
  simp only [ho, hx, hy, Instr.storeAt, Instr.sureAddr, Sem.run_bind, Sem.run_pure, Result.andThen_ok, run_storeVar_mid w b o ty cells ht hi h1]
theorem Blk.there {w : World} {b : Nat} {c : Array Value} {t : TypeId} (h : Blk w b c t) {o n : Nat} (hl : o + n ≤ c.size) : w.there b o n := fun j hj => by
  obtain ⟨v, hv⟩ : ∃ v, c[o + j]? = some v := ⟨_, Array.getElem?_eq_getElem (by omega)⟩
  rw [h.cell hv]
  exact ⟨rfl, h.free _⟩
/-- All blocks are of the kinds and sizes that they were. -/
def SameSz (w w' : World) : Prop := ∀ b cur U, Blk w b cur U → ∃ cur', Blk w' b cur' U ∧ cur'.size = cur.size
theorem SameSz.refl (w : World) : SameSz w w := fun b cur U h => ⟨cur, h, rfl⟩
theorem SameSz.trans {a b c : World} (h : SameSz a b) (k : SameSz b c) : SameSz a c := fun g cur U hg => by
  obtain ⟨c1, h1, h2⟩ := h g cur U hg
  obtain ⟨c2, h3, h4⟩ := k g c1 U h1
  exact ⟨c2, h3, by omega⟩
theorem SameSz.of_below {w w' : World} (h : Below w.heap.size w w') : SameSz w w' := fun b cur U hb => ⟨cur, hb.below h hb.lt, rfl⟩
theorem SameSz.cells (w : World) (g o : Nat) (vs : List Value) : SameSz w (w.setCells g o vs) := fun b cur U hb => by
  by_cases e : b = g
  · subst e
    exact hb.cellsIn vs o
  · exact ⟨cur, hb.cellsNe e vs o, rfl⟩
/-- A table that may be written over. -/
def SpTab (w : World) (tv : Value) : Prop := tv = .slice none 0 0 ∨ ∃ g n cap cur, tv = .slice (some ⟨g, 0, none⟩) n cap ∧ n ≤ cap ∧ cap ≤ maxLen ∧ Blk w g cur 163 ∧ cap * 56 ≤ cur.size
theorem SpTab.same {w w' : World} {tv : Value} (h : SpTab w tv) (k : SameSz w w') : SpTab w' tv := by
  rcases h with h | ⟨g, n, cap, cur, h1, h2, h3, h4, h5⟩
  · exact .inl h
  · obtain ⟨cur', k1, k2⟩ := k _ _ _ h4
    exact .inr ⟨g, n, cap, cur', h1, h2, h3, k1, by omega⟩
theorem TwinTab.sp {lo : Nat} {w : World} {v : Value} {Ts : List (List Value)} (h : TwinTab lo w v Ts) : SpTab w v := by
  obtain ⟨g, h1, h2, h3⟩ := h
  rcases h3 with ⟨h3, _⟩ | ⟨g', cap, cur, h3, h4, h5, h6, h7, h8, h9⟩
  · cases h3
  · simp only [Value.slice.injEq, Option.some.injEq, Addr.mk.injEq, and_true, true_and] at h3
    obtain ⟨rfl, rfl⟩ := h3
    exact .inr ⟨g, _, _, cur, h1, by omega, h7, h5, by omega⟩
theorem OwnTab.sp {lo : Nat} {w : World} {v : Value} {Ts : List (List Value)} (h : OwnTab 163 lo w v Ts) : SpTab w v := by
  rcases h with ⟨h, _⟩ | ⟨g, cap, cur, h1, h2, h3, h4, h5, h6, h7⟩
  · exact .inl h
  · exact .inr ⟨g, _, cap, cur, h1, h2, h3, h5, h6⟩
/-- What Spoil leaves. -/
structure SpSt (tv : Value) (w w' : World) : Prop where
  touch : Touch (obl tv) w w'
  same : SameSz w w'
def InvSp (w : World) (tv : Value) (ad : Addr) (cap : Nat) (k : Nat) (a : Act) (wr : World) : Prop :=
  ∃ i, i + k = cap ∧ Hid (SpSt tv w wr) ∧ a.tmps.size = 21 ∧ a.defers = [] ∧ slot a 2 = .slice (some ad) cap cap ∧ slot a 3 = .int .i64 i
def InvSp0 (w : World) (tv : Value) (k : Nat) (a : Act) (wr : World) : Prop :=
  k = 0 ∧ Hid (SpSt tv w wr) ∧ a.tmps.size = 21 ∧ a.defers = [] ∧ slot a 2 = .slice none 0 0 ∧ slot a 3 = .int .i64 0
set_option maxHeartbeats 4000000 in
theorem spoilR (w : World) (hd : List Value) (tv : Value) (hl : hd.length = 56) (h : SpTab w tv) :
    Calls Try.prog 37 #[.agg (hd ++ [tv]).toArray] w fun e w' => e = .returned (.tuple #[]) ∧ SpSt tv w w' := by
  have hX : (hd ++ [tv]).toArray[56]? = some tv := by simp [hl]
  generalize (hd ++ [tv]).toArray = X at *
  have hb1 := Lib.hid (below_alloc w (.cells X 97))
  have k0 := Lib.hid (Blk.new w X 97)
  have hst : Hid (SpSt tv w (w.alloc (.cells X 97))) := ⟨Touch.of_below hb1.out (Nat.le_refl _) _, SameSz.of_below hb1.out⟩
  rcases h with rfl | ⟨g, n, cap, cur, rfl, h2, h3, h4, h5⟩
  · go_enter Try.func37, Try.ntmps37
    go_upto_region 1 with (first | refine wpList_val rfl (ex_box 97 (.tmp 0) rfl X rfl) ?_ | fail)
    have c56 : (w.alloc (.cells X 97)).cell? ⟨w.heap.size, 56, none⟩ = some (.slice none 0 0) := k0.out.cell hX
    have l0 := k0.out.lt
    clear hb1 k0
    generalize w.alloc (.cells X 97) = w1 at *
    go_wp2_with fail
    refine wp_loop_k (InvSp0 w (.slice none 0 0)) 0 ⟨rfl, hst, by kernel_rfl, rfl, by kernel_rfl, by kernel_rfl⟩ ?_
    intro gk a wr hI K hK
    obtain ⟨hk0, hO, hs', hd', k2', k3'⟩ := hI
    rw [fr21 a hs' hd']; simp only [k2', k3']; clear hs' hd' k2' k3'
    go_wp2_with fail
    go_end0
    exact ⟨rfl, hO.out⟩
  · have h6 : cap ≤ 9223372036854775807 := h3
    have lm2 : decide ((n : Int) ≤ (cap : Int)) = true := by simp; omega
    have hgw := h4.lt
    replace h4 := Lib.hid h4
    replace h5 := Lib.hid h5
    obtain ⟨ad, hade⟩ : ∃ ad : Addr, ad = ⟨g, 0, none⟩ := ⟨_, rfl⟩
    rw [← hade] at hX
    have hade2 := Lib.hid hade
    go_enter Try.func37, Try.ntmps37
    go_upto_region 1 with (first | refine wpList_val rfl (ex_box 97 (.tmp 0) rfl X rfl) ?_ | fail)
    have c56 : (w.alloc (.cells X 97)).cell? ⟨w.heap.size, 56, none⟩ = some (.slice (some ad) n cap) := k0.out.cell hX
    have l0 := k0.out.lt
    clear hb1 k0 hade hX
    generalize w.alloc (.cells X 97) = w1 at *
    go_wp2_with fail
    refine wp_loop_k (InvSp w (.slice (some ⟨g, 0, none⟩) n cap) ad cap) cap ⟨0, by omega, hst, by kernel_rfl, rfl, by kernel_rfl, by kernel_rfl⟩ ?_
    clear c56 l0 hst
    intro gk a wr hI K hK
    obtain ⟨i, hi0, hO, hs', hd', k2', k3'⟩ := hI
    rw [fr21 a hs' hd']; simp only [k2', k3']; clear hs' hd' k2' k3'
    by_cases hl2 : i < cap
    · have g1 : decide ((i : Int) < (cap : Int)) = true := by simp; omega
      have g2 : (i : Int) < (cap : Int) := by omega
      have g3 : IntKind.i64.wrap ((i : Int) + 1) = ((i + 1 : Nat) : Int) := by rw [IntKind.wrap_i64]; omega
      obtain ⟨cur', q1, q2⟩ := hO.out.same _ _ _ h4.out
      have hth : Hid (wr.there g (i * 56) spoL.toArray.size) := q1.there (by
        have e : spoL.toArray.size = 56 := rfl
        have := h5.out
        omega)
      have hadi : ad.add (i * 56) = ⟨g, i * 56, none⟩ := by rw [hade2.out, add_head]
      replace hadi := Lib.hid hadi
      clear q1 q2
      go_wp2_with (first | refine wpList_val rfl (ex_build 94 #[(0, .const (.int .i64 (-99)))] rfl _ rfl spoC.toArray built_spoC) ?_ | refine wpList_val rfl (ex_build 163 #[(0, .const (.bool true)), (1, .tmp 18)] rfl [(0, .bool true), (1, .agg spoC.toArray)] (by rfl) spoL.toArray built_spo) ?_ | (refine wpList_skp rfl (ex_store_mid 163 (.tmp 20) (.tmp 19) rfl (ad.add (i * 56)) g (i * 56) spoL.toArray rfl hadi.out rfl hth.out spo_size spo_one) ?_; generalize hwz : wr.setCells g (i * 56) spoL.toArray.toList = wz; replace hwz := Lib.hid hwz) | fail)
      have hN : Hid (SpSt (.slice (some ⟨g, 0, none⟩) n cap) w wz) := by
        rw [← hwz.out]
        exact ⟨hO.out.touch.cells (.inl (by simp [obl, Value.ownBlock])) _ _, hO.out.same.trans (SameSz.cells _ _ _ _)⟩
      exact hK (cap - (i + 1)) _ _ (by omega) ⟨i + 1, by omega, hN, by kernel_rfl, rfl, by kernel_rfl, by kernel_rfl⟩
    · have g1 : decide ((i : Int) < (cap : Int)) = false := by simp; omega
      have g2 : ¬ (i : Int) < (cap : Int) := by omega
      go_wp2_with fail
      go_end0
      exact ⟨rfl, hO.out⟩
end Go.Proofs.Ytmdohnbhogfopaa
/- The program's mouth and the document's, side by side, told the same. -/
namespace Go.Proofs.Ytmdohnbhogfopaa
open Go.RowKit Go.Maps
set_option linter.unusedSimpArgs false
set_option linter.unusedVariables false
set_option maxRecDepth 100000
/-- A mouth in a law: A says of blocks that they are not its own. -/
def Mp (W : World) (pm bt bl c : Nat) (F : FaultC) (T : Int × Int → Option PostC) (G : Int → Option Int) (A : Nat → Prop) : Prop :=
  ∃ M f, MouthIs M W pm bt bl c f F T G ∧ OldOut T G ∧ ∀ k, A k → k < W.heap.size ∧ ¬ M k ∧ k ≠ pm ∧ k ≠ bt ∧ k ≠ bl
section
variable {w : World} {pm bt bl c : Nat} {F : FaultC} {T : Int × Int → Option PostC} {G : Int → Option Int} {A A' : Nat → Prop}
theorem Mp.weak (h : Mp w pm bt bl c F T G A) (hA : ∀ k, A' k → A k) : Mp w pm bt bl c F T G A' := by
  obtain ⟨M, f, h1, h2, h3⟩ := h
  exact ⟨M, f, h1, h2, fun k hk => h3 k (hA k hk)⟩
theorem Mp.step {W : World} {S : List Nat} (h : Mp w pm bt bl c F T G A) (hT : Touch S w W) (hS : ∀ k ∈ S, A k) : Mp W pm bt bl c F T G (fun k => A k ∨ (w.heap.size ≤ k ∧ k < W.heap.size)) := by
  obtain ⟨M, f, h1, h2, h3⟩ := h
  have hl := h1.lts
  refine ⟨M, f, h1.agree (fun k hk => hT.block k (hl k hk) fun hm => ?_) hT.size, h2, fun k hk => ?_⟩
  · obtain ⟨_, q1, q2, q3, q4⟩ := h3 k (hS k hm)
    rcases hk with hk | hk | hk | hk
    · exact q1 hk
    · exact q2 hk
    · exact q3 hk
    · exact q4 hk
  · rcases hk with hk | hk
    · exact ⟨Nat.lt_of_lt_of_le (h3 k hk).1 hT.size, (h3 k hk).2⟩
    · refine ⟨hk.2, fun hm => ?_, ?_, ?_, ?_⟩
      · have := hl k (.inl hm); omega
      · rintro rfl; have := hl k (by simp); omega
      · rintro rfl; have := hl k (by simp); omega
      · rintro rfl; have := hl k (by simp); omega
theorem Mp.blks {W : World} (h : Mp w pm bt bl c F T G A) (hT : Touch [bt, bl] w W) {b : Nat} {cs : Array Value} {U : TypeId} (hb : Blk w b cs U) : Blk W b cs U := by
  obtain ⟨M, f, h1, _⟩ := h
  exact h1.blks hb hT
theorem Mp.keepC {W : World} (h : Mp w pm bt bl c F T G A) (hT : Touch [bt, bl] w W) : KeepC w W := by
  obtain ⟨M, f, h1, _⟩ := h
  exact h1.keepC hT
theorem Mp.is (h : Mp w pm bt bl c F T G A) (hF : FaultOk F) (l : Int) : Calls Try.prog 33 #[.pointer (some ⟨pm, 0, none⟩), .int .i64 l] w fun e w' => e = .returned (.bool (isF F l)) ∧ w = w' := by
  obtain ⟨M, f, h1, _⟩ := h
  exact isR h1 hF l
theorem Mp.fine (h : Mp w pm bt bl c F T G A) (hF : FaultOk F) (t l : Int) (p : PostC) (hp : PostOk p) : RowsFine (saysP F T G t l p).R := by
  obtain ⟨M, f, h1, _⟩ := h
  exact saysP_fine h1 hF t l p hp
theorem Mp.says (h : Mp w pm bt bl c F T G A) (hF : FaultOk F) (hc : c < 900000000) (t l : Int) (p : PostC) (hp : PostOk p) (v : Value) (hw : WordAt 0 w v p.R) :
    Calls Try.prog 17 #[.pointer (some ⟨pm, 0, none⟩), .int .i64 t, .int .i64 l, .agg #[.int .u8 p.s, v]] w fun e w' => ∃ v' q, e = .returned (.agg #[.int .u8 (saysP F T G t l p).s, v']) ∧ w.heap.size ≤ q ∧ q ≤ w'.heap.size ∧ OwnWord 97 163 q w' v' (saysP F T G t l p).R ∧
      Mp w' pm bt bl (c + 1) F (saysT F T G t l p) (saysG F G t l) (fun k => A k ∨ (q ≤ k ∧ k < w'.heap.size)) ∧ Touch [bt, bl] w w' := by
  obtain ⟨M, f, h1, h2, h3⟩ := h
  have hl := h1.lts
  refine (saysR h1 hF h2 hc t l p hp v hw).mono ?_
  rintro e w' ⟨v', lo, hi, f', rfl, q1, q2, q3, hO, hM, hT⟩
  refine ⟨v', hi, rfl, by omega, q3, hO, ⟨_, f', hM, h2.says F t l p, fun k hk => ?_⟩, hT⟩
  rcases hk with hk | hk
  · obtain ⟨g1, g2, g3⟩ := h3 k hk
    exact ⟨Nat.lt_of_lt_of_le g1 hT.size, fun hq => by
      rcases hq with hq | hq
      · exact g2 hq
      · omega, g3⟩
  · refine ⟨hk.2, fun hm => ?_, ?_, ?_, ?_⟩
    · rcases hm with hm | hm
      · have := hl k (.inl hm); omega
      · omega
    · rintro rfl; have := hl k (by simp); omega
    · rintro rfl; have := hl k (by simp); omega
    · rintro rfl; have := hl k (by simp); omega
end
theorem newMp (w : World) (F : FaultC) (hF : FaultOk F) (v : Value) (hs : SpAt 0 w v F.S) :
    Calls Try.prog 16 #[.int .i64 F.m, .agg #[.int .i64 F.nd, .int .i64 F.lk, v]] w fun e w' => ∃ pm bt bl, e = .returned (.tuple #[.pointer (some ⟨pm, 0, none⟩), .int .i64 0]) ∧ Mp w' pm bt bl 0 F (fun _ => none) (fun _ => none) (fun k => k < w.heap.size) ∧ Below w.heap.size w w' ∧ w.heap.size ≤ bt ∧ w.heap.size ≤ bl := by
  refine (newOk w F hF v hs).mono ?_
  rintro e w' ⟨pm, bt, bl, M, rfl, hM, hb, hMg, g1, g2, g3, g4⟩
  refine ⟨pm, bt, bl, rfl, ⟨M, _, hM, OldOut.none, fun k hk => ?_⟩, hb, g2, g3⟩
  exact ⟨Nat.lt_of_lt_of_le hk hb.size, fun hq => by have := hMg k hq; omega, by omega, by omega, by omega⟩
/-- Both mouths, told the same; P says of blocks that they are neither's, beside. -/
structure StAt (w : World) (F : FaultC) (pm bt bl pd c : Nat) (P : Nat → Prop) (W : World) : Prop where
  bel : Below w.heap.size w W
  ge : w.heap.size ≤ bt ∧ w.heap.size ≤ bl
  m : ∃ T G L av, Mp W pm bt bl c F T G (fun k => k = pd ∨ k ∈ obl av ∨ P k) ∧ DocIs w.heap.size W pd F L av ∧ RelT T G L ∧ L.length ≤ c
/-- The program's was told, the document's not yet. -/
structure MidAt' (w : World) (F : FaultC) (pm bt bl pd c : Nat) (P : Nat → Prop) (t l : Int) (p r : PostC) (W : World) : Prop where
  bel : Below w.heap.size w W
  ge : w.heap.size ≤ bt ∧ w.heap.size ≤ bl
  m : ∃ T G L av, Mp W pm bt bl (c + 1) F (saysT F T G t l p) (saysG F G t l) (fun k => k = pd ∨ k ∈ obl av ∨ P k) ∧ DocIs w.heap.size W pd F L av ∧ RelT T G L ∧ L.length ≤ c ∧ r = saysP F T G t l p
section
variable {w : World} {F : FaultC} {pm bt bl pd c : Nat} {P P' : Nat → Prop} {W W' : World} {t l : Int} {p r : PostC}
theorem StAt.weak (h : StAt w F pm bt bl pd c P W) (hP : ∀ k, P' k → P k) : StAt w F pm bt bl pd c P' W := by
  obtain ⟨T, G, L, av, h1, h2⟩ := h.m
  exact ⟨h.bel, h.ge, T, G, L, av, h1.weak fun k hk => hk.imp_right fun hk => hk.imp_right (hP k), h2⟩
theorem StAt.grow (h : StAt w F pm bt bl pd c P W) (hb : Below W.heap.size W W') : StAt w F pm bt bl pd c (fun k => P k ∨ (W.heap.size ≤ k ∧ k < W'.heap.size)) W' := by
  obtain ⟨T, G, L, av, h1, h2, h3⟩ := h.m
  refine ⟨bthen h.bel hb, h.ge, T, G, L, av, (h1.step (Touch.of_below hb (Nat.le_refl _) []) (by simp)).weak fun k hk => ?_, h2.below hb, h3⟩
  rcases hk with hk | hk | hk | hk
  · exact .inl (.inl hk)
  · exact .inl (.inr (.inl hk))
  · exact .inl (.inr (.inr hk))
  · exact .inr hk
theorem StAt.below (h : StAt w F pm bt bl pd c P W) (hb : Below W.heap.size W W') : StAt w F pm bt bl pd c P W' := (h.grow hb).weak fun k hk => .inl hk
theorem MidAt'.below (h : MidAt' w F pm bt bl pd c P t l p r W) (hb : Below W.heap.size W W') : MidAt' w F pm bt bl pd c P t l p r W' := by
  obtain ⟨T, G, L, av, h1, h2, h3⟩ := h.m
  exact ⟨bthen h.bel hb, h.ge, T, G, L, av, (h1.step (Touch.of_below hb (Nat.le_refl _) []) (by simp)).weak fun k hk => .inl hk, h2.below hb, h3⟩
/-- Rows and cells of the program's that are neither mouth's are written. -/
theorem StAt.touch (h : StAt w F pm bt bl pd c P W) {S : List Nat} (hT : Touch S W W') (hS : ∀ k ∈ S, P k ∧ ∃ cur U, Blk W k cur U ∧ (U = 97 ∨ U = 163)) (hge : ∀ k, P k → w.heap.size ≤ k) : StAt w F pm bt bl pd c P W' := by
  obtain ⟨T, G, L, av, h1, h2, h3⟩ := h.m
  refine ⟨hT.below h.bel h.bel.size fun k hk => hge k (hS k hk).1, h.ge, T, G, L, av, (h1.step hT fun k hk => .inr (.inr (hS k hk).1)).weak fun k hk => .inl hk, h2.keep fun b cs U hb u1 u2 => hb.touch hT fun hm => ?_, h3⟩
  obtain ⟨_, cur, U', hc, hU⟩ := hS b hm
  rcases hU with rfl | rfl
  · exact hc.ne hb (fun e => u1 e.symm) rfl
  · exact hc.ne hb (fun e => u2 e.symm) rfl
theorem StAt.is (h : StAt w F pm bt bl pd c P W) (hF : FaultOk F) (l : Int) : Calls Try.prog 33 #[.pointer (some ⟨pm, 0, none⟩), .int .i64 l] W fun e w' => e = .returned (.bool (isF F l)) ∧ W = w' := by
  obtain ⟨T, G, L, av, h1, h2⟩ := h.m
  exact h1.is hF l
theorem StAt.is2 (h : StAt w F pm bt bl pd c P W) (hF : FaultOk F) (l : Int) : Calls Try.prog 34 #[.pointer (some ⟨pd, 0, none⟩), .int .i64 l] W fun e w' => e = .returned (.bool (isF F l)) ∧ W = w' := by
  obtain ⟨T, G, L, av, h1, h2, h3⟩ := h.m
  exact isR2 h2 hF l
theorem StAt.says (h : StAt w F pm bt bl pd c P W) (hF : FaultOk F) (hc : c < 400) (t l : Int) (p : PostC) (hp : PostOk p) (v : Value) (hw : WordAt 0 W v p.R) :
    Calls Try.prog 17 #[.pointer (some ⟨pm, 0, none⟩), .int .i64 t, .int .i64 l, .agg #[.int .u8 p.s, v]] W fun e W' => ∃ r a n k q, e = .returned (.agg #[.int .u8 r.s, .slice a n k]) ∧ W.heap.size ≤ q ∧ q ≤ W'.heap.size ∧ OwnWord 97 163 q W' (.slice a n k) r.R ∧ RowsFine r.R ∧
      MidAt' w F pm bt bl pd c (fun k => P k ∨ (q ≤ k ∧ k < W'.heap.size)) t l p r W' ∧ (∀ b cs U, Blk W b cs U → Blk W' b cs U) ∧ KeepC W W' := by
  obtain ⟨T, G, L, av, h1, h2, h3, h4⟩ := h.m
  have hf := h1.fine hF t l p hp
  have hB := fun W' => fun (hT : Touch [bt, bl] W W') => h1.keepC hT
  have hK := fun W' => fun (hT : Touch [bt, bl] W W') b cs U (hb : Blk W b cs U) => h1.blks hT hb
  refine (h1.says hF (by omega) t l p hp v hw).mono ?_
  rintro e W' ⟨v', q, rfl, q1, q2, hO, hM, hT⟩
  obtain ⟨a, n, k, rfl⟩ := hO.sl
  have hge := h.ge
  refine ⟨_, a, n, k, q, rfl, q1, q2, hO, hf, ⟨hT.below h.bel h.bel.size (by simp; omega), h.ge, T, G, L, av, hM.weak fun k hk => ?_, h2.keep fun b cs U hb _ _ => hK _ hT _ _ _ hb, h3, h4, rfl⟩, hK _ hT, hB _ hT⟩
  rcases hk with hk | hk | hk | hk
  · exact .inl (.inl hk)
  · exact .inl (.inr (.inl hk))
  · exact .inl (.inr (.inr hk))
  · exact .inr hk
theorem MidAt'.says (h : MidAt' w F pm bt bl pd c P t l p r W) (hF : FaultOk F) (hc : c < 400) (hp : PostOk p) (v : Value) (hv : OwnWord 167 204 w.heap.size W v p.R) :
    Calls Try.prog 31 #[.pointer (some ⟨pd, 0, none⟩), .int .i64 t, .int .i64 l, .agg #[.int .u8 p.s, v]] W fun e W' => ∃ a n k, e = .returned (.agg #[.int .u8 r.s, .slice a n k]) ∧ OwnWord 167 204 w.heap.size W' (.slice a n k) r.R ∧
      StAt w F pm bt bl pd (c + 1) P W' ∧ (∀ b cs U, Blk W b cs U → U ≠ 175 → U ≠ 182 → Blk W' b cs U) ∧ W.heap.size ≤ W'.heap.size := by
  obtain ⟨T, G, L, av, h1, h2, h3, h4, rfl⟩ := h.m
  have hL : ∀ x ∈ L, 0 ≤ x.t ∧ x.t ≤ 1099511627776 := fun x hx => (h2.ok x hx).2
  refine (saysD h.bel.size h2 hF (by omega) t l p hp v hv).mono ?_
  rintro e W' ⟨a, n, k, av', rfl, hD⟩
  have hsame : saysP F T G t l p = saidA F L t l p := h3.same hL t l p
  have hobl : ∀ k ∈ obl av, ∃ cur, Blk W k cur 182 := fun k hk => by
    obtain ⟨vs, _, h5, _⟩ := h2.all
    refine ownsRow_blk h5 ?_
    unfold obl at hk
    cases hq : av.ownBlock with
    | none => rw [hq] at hk; simp at hk
    | some x => rw [hq] at hk; simp at hk; rw [hk]
  have hobl2 : ∀ k ∈ obl av', k < W'.heap.size := fun k hk => by
    obtain ⟨vs, _, h5, _⟩ := hD.doc.all
    unfold obl at hk
    cases hq : av'.ownBlock with
    | none => rw [hq] at hk; simp at hk
    | some x =>
      rw [hq] at hk
      simp at hk
      subst hk
      exact (h5.lt _ hq).2
  have hgo : ∀ k ∈ pd :: obl av, w.heap.size ≤ k := fun k hk => by
    rcases List.mem_cons.1 hk with rfl | hk
    · exact h2.pd
    · obtain ⟨vs, _, h5, _⟩ := h2.all
      unfold obl at hk
      cases hq : av.ownBlock with
      | none => rw [hq] at hk; simp at hk
      | some x =>
        rw [hq] at hk
        simp at hk
        subst hk
        exact (h5.lt _ hq).1
  refine ⟨a, n, k, by rw [hsame], by rw [hsame]; exact hD.word, ⟨hD.touch.below h.bel h.bel.size hgo, h.ge, _, _, _, av', (h1.step hD.touch fun k hk => ?_).weak fun k hk => ?_, hD.doc, h3.says' hL t l p, ?_⟩, fun b cs U hb u1 u2 => hb.touch hD.touch fun hm => ?_, hD.touch.size⟩
  · rcases List.mem_cons.1 hk with rfl | hk
    · exact .inl rfl
    · exact .inr (.inl hk)
  · rcases hk with hk | hk | hk
    · exact .inl (.inl hk)
    · rcases hD.new k hk with h5 | h5
      · exact .inl (.inr (.inl h5))
      · exact .inr ⟨h5, hobl2 k hk⟩
    · exact .inl (.inr (.inr hk))
  · unfold toldA
    split
    · simp; omega
    · omega
  · rcases List.mem_cons.1 hm with rfl | hm
    · obtain ⟨sv, h5, _⟩ := h2.blk
      exact h5.ne hb (fun e => u1 e.symm) rfl
    · obtain ⟨cur, h5⟩ := hobl b hm
      exact h5.ne hb (fun e => u2 e.symm) rfl
end
end Go.Proofs.Ytmdohnbhogfopaa
/- Words that are spoilt, row by row. -/
namespace Go.Proofs.Ytmdohnbhogfopaa
open Go.RowKit Go.Maps
set_option linter.unusedSimpArgs false
set_option linter.unusedVariables false
set_option maxRecDepth 100000
theorem fr187 (a : Act) (hs : a.tmps.size = 187) (hd : a.defers = []) : a = ⟨#[slot a 0, slot a 1, slot a 2, slot a 3, slot a 4, slot a 5, slot a 6, slot a 7, slot a 8, slot a 9, slot a 10, slot a 11, slot a 12, slot a 13, slot a 14, slot a 15, slot a 16, slot a 17, slot a 18, slot a 19, slot a 20, slot a 21, slot a 22, slot a 23, slot a 24, slot a 25, slot a 26, slot a 27, slot a 28, slot a 29, slot a 30, slot a 31, slot a 32, slot a 33, slot a 34, slot a 35, slot a 36, slot a 37, slot a 38, slot a 39, slot a 40, slot a 41, slot a 42, slot a 43, slot a 44, slot a 45, slot a 46, slot a 47, slot a 48, slot a 49, slot a 50, slot a 51, slot a 52, slot a 53, slot a 54, slot a 55, slot a 56, slot a 57, slot a 58, slot a 59, slot a 60, slot a 61, slot a 62, slot a 63, slot a 64, slot a 65, slot a 66, slot a 67, slot a 68, slot a 69, slot a 70, slot a 71, slot a 72, slot a 73, slot a 74, slot a 75, slot a 76, slot a 77, slot a 78, slot a 79, slot a 80, slot a 81, slot a 82, slot a 83, slot a 84, slot a 85, slot a 86, slot a 87, slot a 88, slot a 89, slot a 90, slot a 91, slot a 92, slot a 93, slot a 94, slot a 95, slot a 96, slot a 97, slot a 98, slot a 99, slot a 100, slot a 101, slot a 102, slot a 103, slot a 104, slot a 105, slot a 106, slot a 107, slot a 108, slot a 109, slot a 110, slot a 111, slot a 112, slot a 113, slot a 114, slot a 115, slot a 116, slot a 117, slot a 118, slot a 119, slot a 120, slot a 121, slot a 122, slot a 123, slot a 124, slot a 125, slot a 126, slot a 127, slot a 128, slot a 129, slot a 130, slot a 131, slot a 132, slot a 133, slot a 134, slot a 135, slot a 136, slot a 137, slot a 138, slot a 139, slot a 140, slot a 141, slot a 142, slot a 143, slot a 144, slot a 145, slot a 146, slot a 147, slot a 148, slot a 149, slot a 150, slot a 151, slot a 152, slot a 153, slot a 154, slot a 155, slot a 156, slot a 157, slot a 158, slot a 159, slot a 160, slot a 161, slot a 162, slot a 163, slot a 164, slot a 165, slot a 166, slot a 167, slot a 168, slot a 169, slot a 170, slot a 171, slot a 172, slot a 173, slot a 174, slot a 175, slot a 176, slot a 177, slot a 178, slot a 179, slot a 180, slot a 181, slot a 182, slot a 183, slot a 184, slot a 185, slot a 186], []⟩ := frame_of 187 a hs hd
/-- A word whose blocks lie from lo on, before hi, and may be written over. -/
def SpWd (lo hi : Nat) (W : World) (v : Value) (n : Nat) : Prop :=
  (v = .slice none 0 0 ∧ n = 0) ∨ ∃ g cap cur, v = .slice (some ⟨g, 0, none⟩) n cap ∧ (lo ≤ g ∧ g < hi) ∧ Blk W g cur 97 ∧ n * 57 ≤ cur.size ∧
    ∀ i, i < n → ∃ hd tv, hd.length = 56 ∧ (∀ j u, (hd ++ [tv])[j]? = some u → cur[i * 57 + j]? = some u) ∧ SpTab W tv ∧ ∀ k ∈ obl tv, lo ≤ k ∧ k < hi
theorem SpTab.blk {W W' : World} {tv : Value} (h : SpTab W tv) (k : ∀ g c, Blk W g c 163 → Blk W' g c 163) : SpTab W' tv := by
  rcases h with h | ⟨g, n, cap, cur, h1, h2, h3, h4, h5⟩
  · exact .inl h
  · exact .inr ⟨g, n, cap, cur, h1, h2, h3, k _ _ h4, h5⟩
theorem SpTab.held {W : World} {tv : Value} (h : SpTab W tv) : ∀ k ∈ obl tv, ∃ cur, Blk W k cur 163 := fun k hk => by
  rcases h with rfl | ⟨g, n, cap, cur, rfl, h2, h3, h4, h5⟩
  · simp [obl, Value.ownBlock] at hk
  · simp [obl, Value.ownBlock] at hk
    subst hk
    exact ⟨cur, h4⟩
theorem SpWd.blk {lo hi : Nat} {W W' : World} {v : Value} {n : Nat} (h : SpWd lo hi W v n) (k : ∀ g c U, U = 97 ∨ U = 163 → Blk W g c U → Blk W' g c U) : SpWd lo hi W' v n := by
  rcases h with h | ⟨g, cap, cur, h1, h2, h3, h4, h5⟩
  · exact .inl h
  · refine .inr ⟨g, cap, cur, h1, h2, k _ _ _ (.inl rfl) h3, h4, fun i hi => ?_⟩
    obtain ⟨hd, tv, q1, q2, q3, q4⟩ := h5 i hi
    exact ⟨hd, tv, q1, q2, q3.blk fun g c hg => k _ _ _ (.inr rfl) hg, q4⟩
theorem SpWd.sl {lo hi : Nat} {W : World} {v : Value} {n : Nat} (h : SpWd lo hi W v n) : ∃ a c, v = .slice a n c := by
  rcases h with ⟨rfl, rfl⟩ | ⟨g, cap, cur, h1, _⟩
  · exact ⟨_, _, rfl⟩
  · exact ⟨_, _, h1⟩
theorem TwinWd.sp {lo : Nat} {W : World} {v : Value} {R : List RowC} (h : TwinWd lo W v R) (hk : ∀ r ∈ R, RowOk r) : SpWd lo W.heap.size W v R.length := by
  rcases h with ⟨rfl, rfl⟩ | ⟨g, cap, cur, tvs, h1, h2, h3, h4, h5, h6, h7, h8, h9⟩
  · exact .inl ⟨rfl, rfl⟩
  · refine .inr ⟨g, cap, cur, h1, ⟨h4, h5.lt⟩, h5, by have := Nat.mul_le_mul_right 57 h2; omega, fun i hi => ?_⟩
    obtain ⟨r, hr⟩ : ∃ r, R[i]? = some r := ⟨_, List.getElem?_eq_getElem hi⟩
    obtain ⟨tv, ht⟩ : ∃ tv, tvs[i]? = some tv := ⟨_, List.getElem?_eq_getElem (by omega)⟩
    have hT := h9 i r tv hr ht
    refine ⟨r.hd, tv, (hk r (List.mem_of_getElem? hr)).hd.length, fun j u hj => ?_, hT.sp, fun k hk => ?_⟩
    · have := rowsFlat_get h8 hk hr ht j u hj
      rw [← h7, List.getElem?_take] at this
      split at this
      · simpa using this
      · cases this
    · obtain ⟨cur, hc⟩ := hT.sp.held k hk
      obtain ⟨g', rfl, hown⟩ := hT
      simp [obl, Value.ownBlock] at hk
      subst hk
      exact hown.lt _ rfl
theorem OwnWord.spo {lo : Nat} {W : World} {v : Value} {R : List RowC} (h : OwnWord 97 163 lo W v R) (hk : ∀ r ∈ R, RowOk r) : SpWd lo W.heap.size W v R.length := by
  rcases h with ⟨rfl, rfl⟩ | ⟨g, cap, cur, tvs, h1, h2, h3, h4, h5, h6, h7, h8, h9⟩
  · exact .inl ⟨rfl, rfl⟩
  · refine .inr ⟨g, cap, cur, h1, ⟨h4, h5.lt⟩, h5, by have := Nat.mul_le_mul_right 57 h2; omega, fun i hi => ?_⟩
    obtain ⟨r, hr⟩ : ∃ r, R[i]? = some r := ⟨_, List.getElem?_eq_getElem hi⟩
    obtain ⟨tv, ht⟩ : ∃ tv, tvs[i]? = some tv := ⟨_, List.getElem?_eq_getElem (by omega)⟩
    have hT := h9 i r tv hr ht
    refine ⟨r.hd, tv, (hk r (List.mem_of_getElem? hr)).hd.length, fun j u hj => ?_, hT.sp, fun k hk => ?_⟩
    · have := rowsFlat_get h8 hk hr ht j u hj
      rw [← h7, List.getElem?_take] at this
      split at this
      · simpa using this
      · cases this
    · obtain ⟨cur, hc⟩ := hT.sp.held k hk
      rcases hT with ⟨rfl, _⟩ | ⟨g', cap', cur', rfl, q2, q3, q4, q5, q6⟩
      · simp [obl, Value.ownBlock] at hk
      · simp [obl, Value.ownBlock] at hk
        subst hk
        exact ⟨q4, q5.lt⟩
/-- Tables of the program's, of these blocks, were written over since W. -/
structure LpT (lo hi : Nat) (W wr : World) : Prop where
  touch : ∃ S, Touch S W wr ∧ ∀ x ∈ S, (lo ≤ x ∧ x < hi) ∧ ∃ cur, Blk W x cur 163
  same : SameSz W wr
theorem LpT.refl (lo hi : Nat) (W : World) : LpT lo hi W W := ⟨⟨[], Touch.refl _ _, by simp⟩, SameSz.refl _⟩
theorem LpT.next {lo hi : Nat} {W wr w' : World} {tv : Value} (h : LpT lo hi W wr) (ht : SpTab W tv) (ho : ∀ k ∈ obl tv, lo ≤ k ∧ k < hi) (hs : SpSt tv wr w') : LpT lo hi W w' := by
  obtain ⟨S, h1, h2⟩ := h.touch
  refine ⟨⟨S ++ obl tv, (h1.mono (by simp; exact fun k hk => .inl hk)).trans (hs.touch.mono (by simp; exact fun k hk => .inr hk)), fun x hx => ?_⟩, h.same.trans hs.same⟩
  rcases List.mem_append.1 hx with hx | hx
  · exact h2 x hx
  · exact ⟨ho x hx, ht.held x hx⟩
theorem LpT.blk {lo hi : Nat} {W wr : World} (h : LpT lo hi W wr) {b : Nat} {cs : Array Value} {U : TypeId} (hb : Blk W b cs U) (hU : U ≠ 163) : Blk wr b cs U := by
  obtain ⟨S, h1, h2⟩ := h.touch
  refine hb.touch h1 fun hm => ?_
  obtain ⟨_, cur, hc⟩ := h2 b hm
  exact hc.ne hb (fun e => hU e.symm) rfl
theorem LpT.row {lo hi : Nat} {W wr : World} {v : Value} {n i : Nat} (h : LpT lo hi W wr) (hw : SpWd lo hi W v n) (hi' : i < n) : ∃ ad cap hd tv, v = .slice (some ad) n cap ∧ hd.length = 56 ∧ SpTab wr tv ∧ (∀ j u, (hd ++ [tv])[j]? = some u → wr.cell? ((ad.add (i * 57)).add j) = some u) ∧
    ∀ w', SpSt tv wr w' → LpT lo hi W w' := by
  rcases hw with ⟨_, h0⟩ | ⟨g, cap, cur, h1, h2, h3, h4, h5⟩
  · omega
  · obtain ⟨hd, tv, q1, q2, q3, q4⟩ := h5 i hi'
    refine ⟨_, cap, hd, tv, h1, q1, q3.same h.same, fun j u hj => ?_, fun w' hs => h.next q3 q4 hs⟩
    rw [add_head, Addr.add_mid]
    exact (h.blk h3 (by decide)).cell (q2 j u hj)
/-- What was of another range is as it was. -/
theorem LpT.own {lo hi : Nat} {W wr : World} {T E : TypeId} {q : Nat} {v : Value} {R : List RowC} (h : LpT lo hi W wr) (ho : OwnWord T E q W v R) (hq : hi ≤ q) : OwnWord T E q wr v R := by
  obtain ⟨S, h1, h2⟩ := h.touch
  exact ho.onM wr fun k hk => h1.block k hk.2 fun hm => by have := (h2 k hm).1; omega
theorem LpT.st {w W wr : World} {F : FaultC} {pm bt bl pd c lo hi : Nat} {P : Nat → Prop} (h : LpT lo hi W wr) (hS : StAt w F pm bt bl pd c P W) (hP : ∀ k, lo ≤ k ∧ k < hi → P k) (hge : ∀ k, P k → w.heap.size ≤ k) : StAt w F pm bt bl pd c P wr := by
  obtain ⟨S, h1, h2⟩ := h.touch
  exact hS.touch h1 (fun k hk => ⟨hP k (h2 k hk).1, by obtain ⟨cur, hc⟩ := (h2 k hk).2; exact ⟨cur, _, hc, .inr rfl⟩⟩) hge
/-- Rows before i, and tables, of the program's, of these blocks, were written over since W. -/
structure LpA (lo hi : Nat) (W : World) (v : Value) (n i : Nat) (wr : World) : Prop where
  touch : ∃ S, Touch S W wr ∧ ∀ x ∈ S, (lo ≤ x ∧ x < hi) ∧ ∃ cur U, Blk W x cur U ∧ (U = 97 ∨ U = 163)
  same : SameSz W wr
  rows : ∀ g cap cur, v = .slice (some ⟨g, 0, none⟩) n cap → Blk W g cur 97 → ∃ cur', Blk wr g cur' 97 ∧ cur'.size = cur.size ∧ ∀ j, i * 57 ≤ j → cur'[j]? = cur[j]?
theorem LpA.refl (lo hi : Nat) (W : World) (v : Value) (n : Nat) : LpA lo hi W v n 0 W := ⟨⟨[], Touch.refl _ _, by simp⟩, SameSz.refl _, fun g cap cur _ hb => ⟨cur, hb, rfl, fun _ _ => rfl⟩⟩
theorem LpA.blk {lo hi : Nat} {W wr : World} {v : Value} {n i : Nat} (h : LpA lo hi W v n i wr) {b : Nat} {cs : Array Value} {U : TypeId} (hb : Blk W b cs U) (hU : U ≠ 163) (hU' : U ≠ 97) : Blk wr b cs U := by
  obtain ⟨S, h1, h2⟩ := h.touch
  refine hb.touch h1 fun hm => ?_
  obtain ⟨_, cur, U', hc, hq⟩ := h2 b hm
  rcases hq with rfl | rfl
  · exact hc.ne hb (fun e => hU' e.symm) rfl
  · exact hc.ne hb (fun e => hU e.symm) rfl
theorem LpA.st {w W wr : World} {F : FaultC} {pm bt bl pd c lo hi : Nat} {P : Nat → Prop} {v : Value} {n i : Nat} (h : LpA lo hi W v n i wr) (hS : StAt w F pm bt bl pd c P W) (hP : ∀ k, lo ≤ k ∧ k < hi → P k) (hge : ∀ k, P k → w.heap.size ≤ k) : StAt w F pm bt bl pd c P wr := by
  obtain ⟨S, h1, h2⟩ := h.touch
  exact hS.touch h1 (fun k hk => ⟨hP k (h2 k hk).1, (h2 k hk).2⟩) hge
theorem Blk.cellsAt {b : Nat} {t : TypeId} : ∀ (vs : List Value) (o : Nat) {w : World} {cur : Array Value}, Blk w b cur t → ∃ cur', Blk (w.setCells b o vs) b cur' t ∧ cur'.size = cur.size ∧ ∀ j, o + vs.length ≤ j → cur'[j]? = cur[j]?
  | [], o, w, cur, h => ⟨cur, h, rfl, fun _ _ => rfl⟩
  | v :: r, o, w, cur, h => by
    obtain ⟨cur', h1, h2, h3⟩ := Blk.cellsAt r (o + 1) (h.set o v)
    refine ⟨cur', h1, by simpa using h2, fun j hj => ?_⟩
    simp only [List.length_cons] at hj
    rw [h3 j (by omega), Array.getElem?_setIfInBounds, if_neg (by omega)]
theorem LpA.row {lo hi : Nat} {W wr : World} {v : Value} {n i : Nat} (h : LpA lo hi W v n i wr) (hw : SpWd lo hi W v n) (hi' : i < n) : ∃ ad g cap hd tv, v = .slice (some ad) n cap ∧ ad.add (i * 57) = ⟨g, i * 57, none⟩ ∧ hd.length = 56 ∧ SpTab wr tv ∧ (∀ j u, (hd ++ [tv])[j]? = some u → wr.cell? ((ad.add (i * 57)).add j) = some u) ∧
    ∀ w', SpSt tv wr w' → LpA lo hi W v n i w' ∧ w'.there g (i * 57) 57 ∧ ∀ vs : List Value, vs.length = 57 → LpA lo hi W v n (i + 1) (w'.setCells g (i * 57) vs) := by
  rcases hw with ⟨_, h0⟩ | ⟨g, cap, cur, h1, h2, h3, h4, h5⟩
  · omega
  · obtain ⟨hd, tv, q1, q2, q3, q4⟩ := h5 i hi'
    obtain ⟨cur', k1, k2, k3⟩ := h.rows g cap cur h1 h3
    refine ⟨⟨g, 0, none⟩, g, cap, hd, tv, h1, by rw [add_head], q1, q3.same h.same, fun j u hj => ?_, fun w' hs => ?_⟩
    · rw [add_head, Addr.add_mid]
      refine k1.cell ?_
      rw [k3 _ (by omega)]
      exact q2 j u hj
    · obtain ⟨S, t1, t2⟩ := h.touch
      have hn : LpA lo hi W v n i w' := by
        refine ⟨⟨S ++ obl tv, (t1.mono (by simp; exact fun k hk => .inl hk)).trans (hs.touch.mono (by simp; exact fun k hk => .inr hk)), fun x hx => ?_⟩, h.same.trans hs.same, fun g' cap' cur0 e hb => ?_⟩
        · rcases List.mem_append.1 hx with hx | hx
          · exact t2 x hx
          · obtain ⟨c0, hc0⟩ := q3.held x hx
            exact ⟨q4 x hx, c0, _, hc0, .inr rfl⟩
        · obtain ⟨cur1, m1, m2, m3⟩ := h.rows g' cap' cur0 e hb
          refine ⟨cur1, m1.touch hs.touch fun hm => ?_, m2, m3⟩
          obtain ⟨c0, hc0⟩ := (q3.same h.same).held g' hm
          exact hc0.ne m1 (by decide) rfl
      refine ⟨hn, ?_, fun vs hvs => ?_⟩
      · obtain ⟨cur1, m1, m2, _⟩ := hn.rows g cap cur h1 h3
        refine m1.there ?_
        have : (i + 1) * 57 ≤ n * 57 := Nat.mul_le_mul_right _ hi'
        omega
      · obtain ⟨S', t3, t4⟩ := hn.touch
        refine ⟨⟨g :: S', (t3.mono (by simp; exact fun k hk => .inr hk)).cells (.inl (by simp)) _ _, fun x hx => ?_⟩, hn.same.trans (SameSz.cells _ _ _ _), fun g' cap' cur0 e hb => ?_⟩
        · rcases List.mem_cons.1 hx with rfl | hx
          · exact ⟨h2, cur, _, h3, .inl rfl⟩
          · exact t4 x hx
        · rw [h1] at e
          simp only [Value.slice.injEq, Option.some.injEq, Addr.mk.injEq, and_true, true_and] at e
          obtain ⟨rfl, rfl⟩ := e
          obtain ⟨cur1, m1, m2, m3⟩ := hn.rows g cap cur0 h1 hb
          obtain ⟨cur2, p1, p2, p3⟩ := m1.cellsAt vs (i * 57)
          exact ⟨cur2, p1, by omega, fun j hj => by rw [p3 j (by omega), m3 j (by omega)]⟩
end Go.Proofs.Ytmdohnbhogfopaa
/- Spells laid anew, and written over one by one. -/
namespace Go.Proofs.Ytmdohnbhogfopaa
open Go.RowKit Go.Maps
set_option linter.unusedSimpArgs false
set_option linter.unusedVariables false
set_option maxRecDepth 100000
theorem run_append_sp (w : World) (v : Value) (S : List SpellC) (h : SpAt 0 w v S) (hn : S.length ≤ 1000) :
    ∃ v' w', (Builtin.append_ #[32, 32] 32 #[.slice none 0 0, v]).run Try.prog w = .ok v' w' ∧ w'.ownsRow w.heap.size 27 5 v' S.length (spFlat S) ∧ Below w.heap.size w w' := by
  obtain ⟨i0, hi, hz0, hz1, hz2⟩ := info_parts elemSpell
  have hnil := World.ownsRow_nil w w.heap.size 27 5
  rcases h.flat with ⟨rfl, rfl⟩ | ⟨ad, cap, rfl, h1, h2, h3⟩
  · exact ⟨_, w, run_append_owned_none w w.heap.size _ _ 27 i0 5 Try.underlying32 hi _ 0 [] hnil, by simpa [spFlat] using hnil, Below.refl _ _⟩
  · obtain ⟨v', w', hr, ho, hg, _⟩ := run_append_own (P := Try.prog) w w.heap.size 32 32 27 i0 _ 5 32 Try.underlying32 hi hz0 hz1 hz2 rfl (by decide) _ 0 [] hnil ad S.length cap (spFlat S) (spFlat_length S) h3 (spFlat_one S) (by unfold maxLen; omega) (by omega) (Nat.le_refl _)
    simp only [Nat.zero_add, List.nil_append] at ho
    exact ⟨v', w', hr, ho, Below.grown (Below.refl _ _) hg (Nat.le_refl _) (by simp [Value.ownBlock])⟩
theorem SpAt.of_own {B : Nat} {W : World} {v : Value} {S : List SpellC} (h : W.ownsRow B 27 5 v S.length (spFlat S)) : SpAt 0 W v S := by
  rcases h.2 with ⟨rfl, h2⟩ | ⟨g, cap', cur, rfl, g2, g3, g4, g5, g6, g7⟩
  · exact .inl ⟨rfl, List.length_eq_zero_iff.1 h2⟩
  · refine .inr ⟨_, cap', rfl, g4, g5, Nat.zero_le _, fun i s hs j u hj => ?_⟩
    have hgb : Blk W g cur 27 := g3
    rw [add_add', add_head]
    refine hgb.cell ?_
    have := spFlat_get hs j u hj
    rw [← g7, List.getElem?_take] at this
    split at this
    · simpa using this
    · simp at this
/-- Spells before i were written over since W. -/
structure LpS (W : World) (v : Value) (n i : Nat) (wr : World) : Prop where
  touch : Touch (obl v) W wr
  rows : ∀ g cap cur, v = .slice (some ⟨g, 0, none⟩) n cap → Blk W g cur 27 → ∃ cur', Blk wr g cur' 27 ∧ cur'.size = cur.size ∧ ∀ j, i * 5 ≤ j → cur'[j]? = cur[j]?
theorem LpS.refl (W : World) (v : Value) (n : Nat) : LpS W v n 0 W := ⟨Touch.refl _ _, fun g cap cur _ hb => ⟨cur, hb, rfl, fun _ _ => rfl⟩⟩
theorem LpS.below {W wr wz : World} {v : Value} {n i : Nat} (h : LpS W v n i wr) (hb : Below wr.heap.size wr wz) : LpS W v n i wz :=
  ⟨h.touch.trans (Touch.of_below hb (Nat.le_refl _) _), fun g cap cur e hg => by
    obtain ⟨c, h1, h2⟩ := h.rows g cap cur e hg
    exact ⟨c, h1.below hb h1.lt, h2⟩⟩
theorem LpS.blk {B : Nat} {W wr : World} {v : Value} {n i : Nat} {xs : List Value} (h : LpS W v n i wr) (ho : W.ownsRow B 27 5 v n xs) {b : Nat} {cs : Array Value} {U : TypeId} (hb : Blk W b cs U) (hU : U ≠ 27) : Blk wr b cs U := by
  refine hb.touch h.touch fun hm => ?_
  unfold obl at hm
  cases hq : v.ownBlock with
  | none => rw [hq] at hm; simp at hm
  | some x =>
    rw [hq] at hm
    simp at hm
    subst hm
    obtain ⟨cur, hc⟩ := ownsRow_blk ho hq
    exact hc.ne hb (fun e => hU e.symm) rfl
theorem LpS.row {B : Nat} {W wr : World} {v : Value} {S : List SpellC} {i : Nat} {s : SpellC} (h : LpS W v S.length i wr) (ho : W.ownsRow B 27 5 v S.length (spFlat S)) (hi : S[i]? = some s) : ∃ ad g cap, v = .slice (some ad) S.length cap ∧ ad.add (i * 5) = ⟨g, i * 5, none⟩ ∧
    (∀ wz, Below wr.heap.size wr wz → wz.cell? (ad.add (i * 5)) = some (.int .i64 s.fr) ∧ wz.cell? ⟨(ad.add (i * 5)).block, (ad.add (i * 5)).off + 1, none⟩ = some (.int .i64 s.til) ∧ wz.cell? ⟨(ad.add (i * 5)).block, (ad.add (i * 5)).off + 2, none⟩ = some (.int .u8 s.lk) ∧
      wz.cell? ⟨(ad.add (i * 5)).block, (ad.add (i * 5)).off + 3, none⟩ = some (.int .u8 s.kd) ∧ wz.cell? ⟨(ad.add (i * 5)).block, (ad.add (i * 5)).off + 4, none⟩ = some (.int .u64 s.sd)) ∧
    (∃ cur, Blk wr g cur 27) ∧ wr.there g (i * 5) 5 ∧ ∀ vs : List Value, vs.length = 5 → LpS W v S.length (i + 1) (wr.setCells g (i * 5) vs) := by
  have hil := (List.getElem?_eq_some_iff.1 hi).1
  rcases ho.2 with ⟨_, h2⟩ | ⟨g, cap, cur, rfl, g2, g3, g4, g5, g6, g7⟩
  · omega
  · have hgb : Blk W g cur 27 := g3
    obtain ⟨cur', k1, k2, k3⟩ := h.rows g cap cur rfl hgb
    have e0 : (⟨g, 0, none⟩ : Addr).add (i * 5) = ⟨g, i * 5, none⟩ := by rw [add_head]
    have hc : ∀ (j : Nat) (u : Value), (spL s)[j]? = some u → cur'[i * 5 + j]? = some u := fun j u hj => by
      rw [k3 _ (by omega)]
      have := spFlat_get hi j u hj
      rw [← g7, List.getElem?_take] at this
      split at this
      · simpa using this
      · simp at this
    refine ⟨⟨g, 0, none⟩, g, cap, rfl, e0, fun wz hz => ?_, ⟨_, k1⟩, k1.there ?_, fun vs hvs => ?_⟩
    · rw [e0]
      have hz1 := k1.below hz k1.lt
      exact ⟨hz1.cell (i := i * 5) (hc 0 _ rfl), hz1.cell (hc 1 _ rfl), hz1.cell (hc 2 _ rfl), hz1.cell (hc 3 _ rfl), hz1.cell (hc 4 _ rfl)⟩
    · have : (i + 1) * 5 ≤ S.length * 5 := Nat.mul_le_mul_right _ hil
      have : S.length * 5 ≤ cap * 5 := Nat.mul_le_mul_right _ g4
      omega
    · refine ⟨h.touch.cells (.inl (by simp [obl, Value.ownBlock])) _ _, fun g' cap' cur0 e hb => ?_⟩
      simp only [Value.slice.injEq, Option.some.injEq, Addr.mk.injEq, and_true, true_and] at e
      obtain ⟨rfl, rfl⟩ := e
      obtain ⟨cur1, m1, m2, m3⟩ := h.rows g cap cur0 rfl hb
      obtain ⟨cur2, p1, p2, p3⟩ := m1.cellsAt vs (i * 5)
      exact ⟨cur2, p1, by omega, fun j hj => by rw [p3 j (by omega), m3 j (by omega)]⟩
theorem DocIs.but {B : Nat} {W W' : World} {pd : Nat} {F : FaultC} {L : List ToldC} {av : Value} (h : DocIs B W pd F L av) (k : ∀ b c U, Blk W b c U → U ≠ 27 → Blk W' b c U) : DocIs B W' pd F L av := by
  obtain ⟨sv, h1, h2⟩ := h.blk
  obtain ⟨vs, h3, h4, h5⟩ := h.all
  exact ⟨⟨sv, k _ _ _ h1 (by decide), ownsRow_keepB h2 fun g c _ hg => k _ _ _ hg (by decide)⟩, ⟨vs, h3, ownsRow_keepB h4 fun g c _ hg => k _ _ _ hg (by decide), fun j x v hj hv => (h5 j x v hj hv).blk fun g c U hU hg => k _ _ _ hg (by rcases hU with rfl | rfl <;> decide)⟩, h.pd, h.ok⟩
/-- Both mouths are new; the spells handed in were written over. -/
theorem LpS.st {w W wr : World} {v : Value} {n i q : Nat} {xs : List Value} {F : FaultC} {pm bt bl pd : Nat} (h : LpS W v n i wr) (ho : W.ownsRow w.heap.size 27 5 v n xs) (hb : Below w.heap.size w W) (hge : w.heap.size ≤ bt ∧ w.heap.size ≤ bl)
    (hM : Mp W pm bt bl 0 F (fun _ => none) (fun _ => none) (fun k => k < q ∨ k = pd)) (hv : ∀ k ∈ obl v, k < q) (hD : DocIs w.heap.size W pd F [] (.slice none 0 0)) : StAt w F pm bt bl pd 0 (fun _ => False) wr := by
  refine ⟨h.touch.below hb hb.size fun k hk => ?_, hge, _, _, [], .slice none 0 0, (hM.step h.touch fun k hk => .inl (hv k hk)).weak fun k hk => ?_, hD.but fun b c U hc hU => h.blk ho hc hU, RelT.nil, by simp⟩
  · unfold obl at hk
    cases hq : v.ownBlock with
    | none => rw [hq] at hk; simp at hk
    | some x =>
      rw [hq] at hk
      simp at hk
      subst hk
      exact (ho.lt _ hq).1
  · rcases hk with rfl | hk | hk
    · exact .inl (.inr rfl)
    · simp [obl, Value.ownBlock] at hk
    · exact hk.elim
end Go.Proofs.Ytmdohnbhogfopaa
/- One ask of the law: what there is besides both mouths. -/
namespace Go.Proofs.Ytmdohnbhogfopaa
open Go.RowKit Go.Maps
set_option linter.unusedSimpArgs false
set_option linter.unusedVariables false
set_option maxRecDepth 100000
theorem TwinWd.mono {lo lo' : Nat} {w : World} {v : Value} {R : List RowC} (h : TwinWd lo w v R) (hl : lo' ≤ lo) : TwinWd lo' w v R := by
  rcases h with h | ⟨g, cap, cur, tvs, h1, h2, h3, h4, h5, h6, h7, h8, h9⟩
  · exact .inl h
  · exact .inr ⟨g, cap, cur, tvs, h1, h2, h3, by omega, h5, h6, h7, h8, fun i r tv hi ht => (h9 i r tv hi ht).mono hl⟩
theorem TwinWd.below {lo : Nat} {w w' : World} {v : Value} {R : List RowC} (h : TwinWd lo w v R) (hb : Below w.heap.size w w') : TwinWd lo w' v R := h.blk fun g c U _ hg => hg.below hb hg.lt
theorem TwinWd.sl {lo : Nat} {w : World} {v : Value} {R : List RowC} (h : TwinWd lo w v R) : ∃ a n c, v = .slice a n c ∧ n = R.length := by
  rcases h with ⟨rfl, rfl⟩ | ⟨g, cap, cur, tvs, h1, _⟩
  · exact ⟨_, _, _, rfl, rfl⟩
  · exact ⟨_, _, _, h1, rfl⟩
theorem TwinWd.word {lo : Nat} {w : World} {v : Value} {R : List RowC} (h : TwinWd lo w v R) (hk : ∀ r ∈ R, RowOk r) (ht : ∀ r ∈ R, r.tab.length ≤ 1000000) : WordAt lo w v R := by
  rcases h with h | ⟨g, cap, cur, tvs, h1, h2, h3, h4, h5, h6, h7, h8, h9⟩
  · exact .inl h
  · refine .inr ⟨_, cap, h1, h2, h3, h4, fun i r hi => ?_⟩
    have hil := (List.getElem?_eq_some_iff.1 hi).1
    obtain ⟨tv, htv⟩ : ∃ tv, tvs[i]? = some tv := ⟨_, List.getElem?_eq_getElem (by omega)⟩
    have hm := List.mem_of_getElem? hi
    refine ⟨tv, (h9 i r tv hi htv).tab (hk r hm).tab (ht r hm), fun j u hj => ?_⟩
    have := rowsFlat_get h8 hk hi htv j u hj
    rw [← h7, List.getElem?_take] at this
    split at this
    · rw [add_head, Addr.add_mid]
      exact h5.cell (by simpa using this)
    · simp at this
theorem OwnWord.sln {T E : TypeId} {lo : Nat} {w : World} {v : Value} {R : List RowC} (h : OwnWord T E lo w v R) : ∃ a n c, v = .slice a n c ∧ n = R.length := by
  rcases h with ⟨rfl, rfl⟩ | ⟨g, cap, cur, tvs, h1, _⟩
  · exact ⟨_, _, _, rfl, rfl⟩
  · exact ⟨_, _, _, h1, rfl⟩
section
variable {w : World} {F : FaultC} {pm bt bl pd c : Nat} {P P' : Nat → Prop} {W W' : World} {t l : Int} {p r : PostC}
theorem StAt.from0 (h : StAt w F pm bt bl pd c (fun _ => False) W) (hb : Below W.heap.size W W') : StAt w F pm bt bl pd c (fun k => W.heap.size ≤ k ∧ k < W'.heap.size) W' := (h.grow hb).weak fun k hk => .inr hk
theorem StAt.more {q : Nat} (h : StAt w F pm bt bl pd c (fun k => q ≤ k ∧ k < W.heap.size) W) (hb : Below W.heap.size W W') : StAt w F pm bt bl pd c (fun k => q ≤ k ∧ k < W'.heap.size) W' := (h.grow hb).weak fun k hk => by
  by_cases h1 : k < W.heap.size
  · exact .inl ⟨hk.1, h1⟩
  · exact .inr ⟨by omega, hk.2⟩
theorem StAt.box (h : StAt w F pm bt bl pd c P W) (cs : Array Value) (U : TypeId) : StAt w F pm bt bl pd c (fun k => P k ∨ k = W.heap.size) (W.alloc (.cells cs U)) := (h.grow (below_alloc W (.cells cs U))).weak fun k hk => hk.imp_right fun e => by
  subst e
  exact ⟨Nat.le_refl _, by simp⟩
theorem MidAt'.box (h : MidAt' w F pm bt bl pd c P t l p r W) (cs : Array Value) (U : TypeId) : MidAt' w F pm bt bl pd c (fun k => P k ∨ k = W.heap.size) t l p r (W.alloc (.cells cs U)) := by
  have hb := below_alloc W (.cells cs U)
  obtain ⟨T, G, L, av, h1, h2, h3⟩ := h.m
  refine ⟨bthen h.bel hb, h.ge, T, G, L, av, (h1.step (Touch.of_below hb (Nat.le_refl _) []) (by simp)).weak fun k hk => ?_, h2.below hb, h3⟩
  rcases hk with hk | hk | hk | rfl
  · exact .inl (.inl hk)
  · exact .inl (.inr (.inl hk))
  · exact .inl (.inr (.inr hk))
  · exact .inr ⟨Nat.le_refl _, by simp⟩
theorem MidAt'.weak (h : MidAt' w F pm bt bl pd c P t l p r W) (hP : ∀ k, P' k → P k) : MidAt' w F pm bt bl pd c P' t l p r W := by
  obtain ⟨T, G, L, av, h1, h2⟩ := h.m
  exact ⟨h.bel, h.ge, T, G, L, av, h1.weak fun k hk => hk.imp_right fun hk => hk.imp_right (hP k), h2⟩
theorem StAt.set2 {b : Nat} {cs : Array Value} (h : StAt w F pm bt bl pd c (fun k => P k ∨ k = b) W) (hb : Blk W b cs 77) (hge : w.heap.size ≤ b) (x y : Value) : StAt w F pm bt bl pd c P ((W.setCell ⟨b, 0, none⟩ x).setCell ⟨b, 1, none⟩ y) := by
  have hT : Touch [b] W ((W.setCell ⟨b, 0, none⟩ x).setCell ⟨b, 1, none⟩ y) := ((Touch.refl [b] W).setCell (p := ⟨b, 0, none⟩) (.inl (by simp)) _).setCell (p := ⟨b, 1, none⟩) (.inl (by simp)) _
  obtain ⟨T, G, L, av, h1, h2, h3⟩ := h.m
  refine ⟨hT.below h.bel h.bel.size (by simpa using hge), h.ge, T, G, L, av, (h1.step hT fun k hk => by simp at hk; exact .inr (.inr (.inr hk))).weak fun k hk => ?_, h2.post fun b' cs' U hb' hU => hb'.touch hT (by simpa using hb'.ne hb hU), h3⟩
  rcases hk with hk | hk | hk
  · exact .inl (.inl hk)
  · exact .inl (.inr (.inl hk))
  · exact .inl (.inr (.inr (.inl hk)))
end
/-- What the law has of an ask besides: the ask, its twin, what was said. -/
structure Cli (p1 p2 q1 q2 : Nat) (t l s : Int) (R : List RowC) (vx : Value) (b15 : Nat) (tv : Value) (b16 : Nat) (av : Value) (r : PostC) (W : World) : Prop where
  x : Blk W p1 #[.int .i64 t, .int .i64 l, .int .u8 s, vx] 74
  p : Blk W b15 #[.int .u8 s, tv] 40
  a : Blk W b16 #[.int .u8 r.s, av] 40
  tw : TwinWd p1 W tv R
  ts : SpWd p1 p2 W tv R.length
  aw : OwnWord 97 163 q1 W av r.R
  as' : SpWd q1 q2 W av r.R.length
  le : p2 ≤ q1 ∧ q2 ≤ W.heap.size
theorem Cli.keep {p1 p2 q1 q2 : Nat} {t l s : Int} {R : List RowC} {vx : Value} {b15 : Nat} {tv : Value} {b16 : Nat} {av : Value} {r : PostC} {W W' : World} (h : Cli p1 p2 q1 q2 t l s R vx b15 tv b16 av r W)
    (k : ∀ b cs U, Blk W b cs U → U = 74 ∨ U = 40 ∨ U = 97 ∨ U = 163 → Blk W' b cs U) (hs : W.heap.size ≤ W'.heap.size) : Cli p1 p2 q1 q2 t l s R vx b15 tv b16 av r W' := by
  have k2 : ∀ g c U, U = 97 ∨ U = 163 → Blk W g c U → Blk W' g c U := fun g c U hU hg => k g c U hg (.inr (.inr hU))
  exact ⟨k _ _ _ h.x (.inl rfl), k _ _ _ h.p (.inr (.inl rfl)), k _ _ _ h.a (.inr (.inl rfl)), h.tw.blk k2, h.ts.blk k2, h.aw.blk k2, h.as'.blk k2, h.le.1, by have := h.le.2; omega⟩
theorem Cli.below {p1 p2 q1 q2 : Nat} {t l s : Int} {R : List RowC} {vx : Value} {b15 : Nat} {tv : Value} {b16 : Nat} {av : Value} {r : PostC} {W W' : World} (h : Cli p1 p2 q1 q2 t l s R vx b15 tv b16 av r W) (hb : Below W.heap.size W W') : Cli p1 p2 q1 q2 t l s R vx b15 tv b16 av r W' :=
  h.keep (fun b cs U hB _ => hB.below hb hB.lt) hb.size
/-- What lies in other blocks than those written over may be written over as before. -/
theorem SpWd.apart {lo hi q1 q2 : Nat} {W wr : World} {v : Value} {n : Nat} (h : LpT lo hi W wr) (hw : SpWd q1 q2 W v n) (hq : hi ≤ q1) : SpWd q1 q2 wr v n := by
  obtain ⟨S, h1, h2⟩ := h.touch
  have hk : ∀ g c U, q1 ≤ g → Blk W g c U → Blk wr g c U := fun g c U hg hb => hb.touch h1 fun hm => by
    have := (h2 g hm).1
    omega
  rcases hw with hw | ⟨g, cap, cur, k1, k2, k3, k4, k5⟩
  · exact .inl hw
  · refine .inr ⟨g, cap, cur, k1, k2, hk _ _ _ k2.1 k3, k4, fun i hi => ?_⟩
    obtain ⟨hd, tv, m1, m2, m3, m4⟩ := k5 i hi
    refine ⟨hd, tv, m1, m2, ?_, m4⟩
    rcases m3 with m3 | ⟨g', n', cap', cur', e1, e2, e3, e4, e5⟩
    · exact .inl m3
    · refine .inr ⟨g', n', cap', cur', e1, e2, e3, hk _ _ _ ?_ e4, e5⟩
      have := m4 g' (by rw [e1]; simp [obl, Value.ownBlock])
      exact this.1
end Go.Proofs.Ytmdohnbhogfopaa
