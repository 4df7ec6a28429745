/- The document's wires: Set, New. -/
import Derived.Test.YteogoddnefeleaaDoorRef08B
namespace Go.Proofs.YteogoddnefeleaaDoor
open Go.RowKit Go.Maps
set_option linter.unusedSimpArgs false
set_option linter.unusedVariables false
set_option maxRecDepth 100000
def setF (n : Nat) (F : Nat → Int → Option Int) (L : Nat) (k : Int) (o : Option Int) (i : Nat) : Int → Option Int := if i = L - 1 then setO n (F (L - 1)) k o else F i
theorem setF_out {n : Nat} {F : Nat → Int → Option Int} {L : Nat} {k : Int} {o : Option Int} (h : ¬ (0 ≤ k ∧ k < 4 * n)) : setF n F L k o = F := by
  funext i x
  unfold setF setO
  by_cases hi : i = L - 1
  · rw [if_pos hi, if_neg h, hi]
  · rw [if_neg hi]
theorem Keep.below {Ts : List TypeId} {w w' : World} (h : Below w.heap.size w w') : Keep Ts w w' := ⟨h.size, fun k hk _ => h.block k hk⟩
theorem Keep.trans {Ts : List TypeId} {a b c : World} (h : Keep Ts a b) (k : Keep Ts b c) : Keep Ts a c :=
  ⟨Nat.le_trans h.1 k.1, fun i hi hn => (k.2 i (Nat.lt_of_lt_of_le hi h.1) (fun cs T hb => hn cs T ((h.2 i hi hn).symm.trans hb))).trans (h.2 i hi hn)⟩
theorem Ref8.below {B : Nat} {w w' : World} {mw n : Nat} {v : Value} {L : Nat} {rb : Nat → Nat} {F : Nat → Int → Option Int} (h : Ref8 B w mw n v L rb F) (hb : Below w.heap.size w w') : Ref8 B w' mw n v L rb F :=
  h.keep (Ts := []) (Keep.below hb).blocks (by simp) (by simp) (by simp)
theorem Ref8.stored {B : Nat} {w : World} {mw n : Nat} {v : Value} {L : Nat} {rb : Nat → Nat} {F : Nat → Int → Option Int} (h : Ref8 B w mw n v L rb F) {kk L' : Nat} (hk : kk < 4 * n) (hL : L' < L) (eL : L - 1 = L') (o : Option Int) :
    Ref8 B ((w.drew.setCell ⟨rb L', kk * 2, none⟩ (.int .i64 (o.getD 0))).setCell ⟨rb L', kk * 2 + 1, none⟩ (.bool o.isSome)) mw n v L rb (setF n F L kk o) ∧
      Keep [69] w ((w.drew.setCell ⟨rb L', kk * 2, none⟩ (.int .i64 (o.getD 0))).setCell ⟨rb L', kk * 2 + 1, none⟩ (.bool o.isSome)) ∧
      Below B w ((w.drew.setCell ⟨rb L', kk * 2, none⟩ (.int .i64 (o.getD 0))).setCell ⟨rb L', kk * 2 + 1, none⟩ (.bool o.isSome)) := by
  have hrow := h.row L' hL
  have hge := h.ge.2 L' hL
  have hne : ∀ b c T, Blk w b c T → b ≠ rb L' → Blk ((w.drew.setCell ⟨rb L', kk * 2, none⟩ (.int .i64 (o.getD 0))).setCell ⟨rb L', kk * 2 + 1, none⟩ (.bool o.isSome)) b c T := fun b c T hb hn =>
    Blk.setNe (a := ⟨rb L', kk * 2 + 1, none⟩) (Blk.setNe (w := w.drew) (a := ⟨rb L', kk * 2, none⟩) hb.drew hn _) hn _
  refine ⟨⟨hne _ _ _ h.blk (h.blk.ne hrow (by decide)), ⟨h.own.1, ?_⟩, fun i hi => ?_, h.inj, h.ge, h.hn, h.pos⟩, ⟨by simp, fun k hk hn => ?_⟩, ?_⟩
  · rcases h.own.2 with h0 | ⟨g, cap, cur, rfl, h4, h5, r⟩
    · exact .inl h0
    · have hgb : Blk w g cur 99 := h5
      exact .inr ⟨g, cap, cur, rfl, h4, hne _ _ _ hgb (hgb.ne hrow (by decide)), r⟩
  · by_cases hi' : i = L'
    · subst hi'
      have e1 : setF n F L kk o i = setO n (F i) kk o := by unfold setF; rw [if_pos eL.symm, eL]
      rw [e1]
      exact ((hrow.drew.set (kk * 2) _).set (kk * 2 + 1) _).congr (rowA_set hk o)
    · have e1 : setF n F L kk o i = F i := by unfold setF; rw [if_neg (by omega)]
      rw [e1]
      exact hne _ _ _ (h.row i hi) (h.inj i L' hi hL hi')
  · have hkn : k ≠ rb L' := fun e => by
      subst e
      exact hn _ _ hrow (by simp)
    exact (Below.heap_setCell _ ⟨rb L', kk * 2 + 1, none⟩ _ k hkn).trans ((Below.heap_setCell _ ⟨rb L', kk * 2, none⟩ _ k hkn))
  · exact ((bdrewN (Below.refl B w) 1).setCell hge _).setCell hge _
set_option maxHeartbeats 2000000 in
theorem rSet {B : Nat} {w : World} {mw n : Nat} {v : Value} {L : Nat} {rb : Nat → Nat} {F : Nat → Int → Option Int} (h : Ref8 B w mw n v L rb F) (hL : L ≤ 1000) (k : Int) (o : Option Int) :
    Calls Tryd.prog 42 #[.pointer (some ⟨mw, 0, none⟩), .int .i64 k, .agg #[.int .i64 (o.getD 0), .bool o.isSome]] w fun e w' => e = .returned (.int .i64 (mayE n k)) ∧ Ref8 B w' mw n v L rb (setF n F L k o) ∧ Keep [69] w w' ∧ Below B w w' := by
  have hB : B ≤ w.heap.size := by have := h.ge.1; have := h.blk.lt; omega
  have hbA : Below w.heap.size w (w.alloc (.cells #[.int .i64 (o.getD 0), .bool o.isSome] 69)) := below_alloc w _
  have hR := h.below hbA
  have hkA : Keep [69] w (w.alloc (.cells #[.int .i64 (o.getD 0), .bool o.isSome] 69)) := Keep.below hbA
  have hnew : Blk (w.alloc (.cells #[.int .i64 (o.getD 0), .bool o.isSome] 69)) w.heap.size #[.int .i64 (o.getD 0), .bool o.isSome] 69 := Blk.new w _ _
  have b0 : (w.alloc (.cells #[.int .i64 (o.getD 0), .bool o.isSome] 69)).cell? ⟨w.heap.size, 0, none⟩ = some (.int .i64 (o.getD 0)) := hnew.cell (i := 0) rfl
  have b1 : (w.alloc (.cells #[.int .i64 (o.getD 0), .bool o.isSome] 69)).cell? ⟨w.heap.size, 1, none⟩ = some (.bool o.isSome) := hnew.cell (i := 1) rfl
  clear hnew h
  have hdone : k < 0 ∨ 4 * (n : Int) ≤ k → Ref8 B (w.alloc (.cells #[.int .i64 (o.getD 0), .bool o.isSome] 69)) mw n v L rb (setF n F L k o) := fun hk => by rw [setF_out (by omega)]; exact hR
  replace hdone := Lib.hid hdone
  generalize hE : mayE n k = E
  replace hE := Lib.hid hE
  replace hbA := Lib.hid (hbA.mono hB)
  go_enter Tryd.func42, Tryd.ntmps42
  go_upto_region 1 with fail
  generalize w.alloc (.cells #[.int .i64 (o.getD 0), .bool o.isSome] 69) = w1 at *
  have h := hR
  replace hR := Lib.hid hR
  obtain ⟨g, cap, cur, rfl, hBg, hgb, hrows⟩ := h.open
  have hpos := h.pos
  have hn := h.hn
  have c0 := h.blk.cell (i := 0) rfl
  have c1 := h.blk.cell (i := 1) rfl
  simp only [List.getElem_toArray, List.getElem_cons_zero, List.getElem_cons_succ] at c0 c1
  have hlt := h.blk.lt
  obtain ⟨L', hL'⟩ : ∃ L', L = L' + 1 := ⟨L - 1, by omega⟩
  have cr := hrows L' (by omega)
  have hrow := h.row L' (by omega)
  have wl : IntKind.i64.wrap ((L : Int) - 1) = (L' : Int) := by rw [wrap_near _ (by omega) (by omega)]; omega
  have q1 : (L' : Int) < (L : Int) := by omega
  have q2 : L' < L := by omega
  have eL : L - 1 = L' := by omega
  clear hL'
  have wn : IntKind.i64.wrap (4 * (n : Int)) = 4 * (n : Int) := wrap_near _ (by omega) (by omega)
  by_cases h1 : k < 0
  · have hE1 : E = 1 := by rw [← hE.out]; unfold mayE; rw [if_neg (by omega)]
    subst hE1
    have t1 : decide (k < 0) = true := by simp [h1]
    clear h hrows hrow hgb
    go_wp2_with fail
    go_ret
    exact ⟨rfl, hdone.out (.inl h1), hkA, hbA.out⟩
  by_cases h2 : 4 * (n : Int) ≤ k
  · have hE1 : E = 1 := by rw [← hE.out]; unfold mayE; rw [if_neg (by omega)]
    subst hE1
    have t1 : decide (k < 0) = false := by simp; omega
    have t2 : decide (4 * (n : Int) ≤ k) = true := by simp [h2]
    clear h hrows hrow hgb
    go_wp2_with fail
    go_ret
    exact ⟨rfl, hdone.out (.inr h2), hkA, hbA.out⟩
  have hE0 : E = 0 := by rw [← hE.out]; unfold mayE; rw [if_pos (by omega)]
  subst hE0
  obtain ⟨kk, rfl⟩ : ∃ kk : Nat, k = kk := ⟨k.toNat, by omega⟩
  clear hdone
  have t1 : decide ((kk : Int) < 0) = false := by simp
  have t2 : decide (4 * (n : Int) ≤ (kk : Int)) = false := by simp; omega
  have t3 : (kk : Int) < 4 * (n : Int) := by omega
  have t4 : kk < 4 * n := by omega
  have hset := rowA_set (n := n) (f := F L') (k := kk) t4 o
  have f0 := hrow.free (kk * 2)
  have f1 := hrow.free (kk * 2 + 1)
  have hlr := hrow.lt
  have hge := h.ge.2 L' q2
  obtain ⟨r0, r1⟩ := rowA_get (n := n) (f := F L') (k := kk) (by omega)
  have s0 := hrow.cell r0
  have s1 := hrow.cell r1
  replace hrow := Lib.hid hrow
  replace hset := Lib.hid hset
  replace hge := Lib.hid hge
  clear h hrows hgb r0 r1
  generalize hov : o.getD 0 = ov at *
  generalize hob : o.isSome = ob at *
  generalize w.heap.size = bx at *
  go_upto_region 3 with fail
  refine wp_region_tail 15 (by kernel_rfl) (by kernel_rfl) ?_; simp only [List.take_succ_cons, List.take_zero, List.drop_succ_cons, List.drop_zero]; (repeat still_step); refine wpStill_nil ?_
  go_wp2_with fail
  go_ret
  obtain ⟨x1, x2, x3⟩ := Ref8.stored hR.out t4 q2 eL o
  rw [hov, hob] at x1 x2 x3
  exact ⟨rfl, x1, hkA.trans x2, hbA.out.trans x3⟩
end Go.Proofs.YteogoddnefeleaaDoor
