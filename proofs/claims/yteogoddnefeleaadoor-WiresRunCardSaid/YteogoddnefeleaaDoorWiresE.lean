/- Wires: End. -/
import Derived.Test.YteogoddnefeleaaDoorWiresD
namespace Go.Proofs.YteogoddnefeleaaDoor
open Go.RowKit Go.Maps
set_option linter.unusedSimpArgs false
set_option linter.unusedVariables false
set_option maxRecDepth 100000
theorem ranges_block {w w' : World} {R : Value → Option (DataW Unit × List MemPlace)} {b r n : Nat} {D : DataW Unit} {left : Lit → Bool} {cnt : Nat} (h : w.ranges Tryd.prog 3 R b r n D left cnt) (e1 : w'.heap[b]? = w.heap[b]?) (e2 : w'.heap[r]? = w.heap[r]?) :
    w'.ranges Tryd.prog 3 R b r n D left cnt := by
  obtain ⟨es, clock, since, seen, c0, hb, F, hs, hD, hr, rest⟩ := h
  exact ⟨es, clock, since, seen, c0, e1.trans hb, F, hs, hD, e2.trans hr, rest⟩
theorem ranges_ne_blk {w : World} {R : Value → Option (DataW Unit × List MemPlace)} {b r n c : Nat} {D : DataW Unit} {left : Lit → Bool} {cnt : Nat} {cs : Array Value} {t : TypeId} (h : w.ranges Tryd.prog 3 R b r n D left cnt) (hb : Blk w c cs t) : b ≠ c ∧ r ≠ c := by
  obtain ⟨es, clock, since, seen, c0, h1, F, hs, hD, hr, rest⟩ := h
  have h2 : w.heap[c]? = some (.cells cs t (0, 0)) := hb
  constructor
  · intro e
    subst e
    rw [h1] at h2
    simp at h2
  · intro e
    subst e
    rw [hr] at h2
    simp at h2
theorem ranges_ne_map {w : World} {R R' : Value → Option (DataW Unit × List MemPlace)} {b r n c n' : Nat} {D : DataW Unit} {left : Lit → Bool} {cnt : Nat} {f : Int → Option (DataW Unit)} (h : w.ranges Tryd.prog 3 R b r n D left cnt) (hb : MapOf w R' c n' f) : r ≠ c := by
  obtain ⟨es, clock, since, seen, c0, h1, F, hs, hD, hr, rest⟩ := h
  obtain ⟨D', ⟨es', clock', h2, _⟩, _⟩ := hb
  intro e
  subst e
  rw [hr] at h2
  simp at h2
/-- A line is sent what its link was given. -/
theorem lineSend (w : World) (bL bW k : Nat) (p1 p2 g : Int → Option Int) (t : Int) (ht : 0 ≤ t ∧ t < 9223372036854775807) (h : LineInt w bL bW (k % 2 + 1) (wayV p1 p2 k) t) (ao : Option Addr) (m cap : Nat) (hm : (g k = none ∧ m = 0) ∨ ∃ b o x, g k = some x ∧ m = 1 ∧ ao = some ⟨b, o, none⟩ ∧ w.cell? ⟨b, o, none⟩ = some (.int .i64 x)) :
    Calls Tryd.prog 61 #[.pointer (some ⟨bL, 0, none⟩), .slice ao m cap] w fun e w' => e = .returned (.int .i64 0) ∧ LineInt w' bL bW (k % 2 + 1) (wayV g p1 k) (t + 1) ∧ Touch [bL, bW] w w' := by
  by_cases h2 : k % 2 = 0
  · have e1 : wayV p1 p2 k = [.int .i64 ((p1 k).getD 0), .bool (p1 k).isSome] := by simp [wayV, sentV, h2]
    rw [e1, h2] at h
    rw [h2]
    rcases hm with ⟨hg, rfl⟩ | ⟨b, o, x, hg, rfl, rfl, hx⟩
    · have e2 : wayV g p1 k = [.int .i64 0, .bool false] := by simp [wayV, sentV, h2, hg]
      rw [e2]
      exact sendInt_1_no w bL bW _ _ t ao cap ht.1 ht.2 h
    · have e2 : wayV g p1 k = [.int .i64 x, .bool true] := by simp [wayV, sentV, h2, hg]
      rw [e2]
      exact sendInt_1_yes w bL bW _ _ t b o x cap ht.1 ht.2 h hx
  · have h3 : k % 2 = 1 := by omega
    have e1 : wayV p1 p2 k = [.int .i64 ((p2 k).getD 0), .bool (p2 k).isSome, .int .i64 ((p1 k).getD 0), .bool (p1 k).isSome] := by simp [wayV, sentV, h3]
    rw [e1, h3] at h
    rw [h3]
    rcases hm with ⟨hg, rfl⟩ | ⟨b, o, x, hg, rfl, rfl, hx⟩
    · have e2 : wayV g p1 k = [.int .i64 ((p1 k).getD 0), .bool (p1 k).isSome, .int .i64 0, .bool false] := by simp [wayV, sentV, h3, hg]
      rw [e2]
      exact sendInt_2_no w bL bW _ _ _ _ t ao cap ht.1 ht.2 h
    · have e2 : wayV g p1 k = [.int .i64 ((p1 k).getD 0), .bool (p1 k).isSome, .int .i64 x, .bool true] := by simp [wayV, sentV, h3, hg]
      rw [e2]
      exact sendInt_2_yes w bL bW _ _ _ _ t b o x cap ht.1 ht.2 h hx
/-- In the middle of a tick's end: 'left' says which lines are still to come. -/
structure Sending (B : Nat) (w : World) (pw bl bg n ng r : Nat) (lb lw : Nat → Nat) (p1 p2 g : Int → Option Int) (t : Int) (D : DataW Unit) (left : Lit → Bool) (cnt : Nat) : Prop where
  rng : w.ranges Tryd.prog 3 ptrE bl r (4 * n) D left cnt
  blk : Blk w pw #[.map (some bl), .int .i64 n, .map (some bg), .int .i64 t] 80
  given : MapI w bg ng g
  line : ∀ k : Nat, k < 4 * n → if left (.int .i64 k) = true then LineInt w (lb k) (lw k) (k % 2 + 1) (wayV p1 p2 k) t else LineInt w (lb k) (lw k) (k % 2 + 1) (wayV g p1 k) (t + 1)
def InvEnd (B : Nat) (w : World) (pw bl bg n ng r : Nat) (lb lw : Nat → Nat) (p1 p2 g : Int → Option Int) (t : Int) (D : DataW Unit) (k : Nat) (a : Act) (wr : World) : Prop :=
  ∃ left, Below B w wr ∧ w.heap.size ≤ wr.heap.size ∧ Sending B wr pw bl bg n ng r lb lw p1 p2 g t D left k ∧ (∀ b c T, Blk w b c T → T ≠ 102 → T ≠ 105 → Blk wr b c T) ∧
    a.tmps.size = 48 ∧ a.defers = [] ∧ slot a 0 = .pointer (some ⟨pw, 0, none⟩) ∧ slot a 15 = .pointer (some ⟨r, 0, none⟩)
set_option maxHeartbeats 4000000 in
theorem wEnd {B : Nat} {w : World} {pw bl bg n ng : Nat} {lb lw : Nat → Nat} {p1 p2 g : Int → Option Int} {t : Int} (h : WiresAt B w pw bl bg n ng lb lw p1 p2 g t) (ht : 0 ≤ t ∧ t < 9223372036854775800) :
    Calls Tryd.prog 36 #[.pointer (some ⟨pw, 0, none⟩)] w fun e w' => e = .returned (.int .i64 0) ∧ WiresAt B w' pw bl bg n 0 lb lw g p1 noneG (t + 1) ∧ Below B w w' ∧ w.heap.size ≤ w'.heap.size ∧
      ∀ b c T, Blk w b c T → T ≠ 102 → T ≠ 105 → T ≠ 80 → Blk w' b c T := by
  have T := Lib.hid (wThere h)
  obtain ⟨⟨c0, c1, c2, c3⟩, _, hlt⟩ := h.cells
  obtain ⟨D, hD, hDf⟩ := h.lines
  obtain ⟨w0, hr0, hrg0, hg0, hs0⟩ := hD.range keyI Tryd.underlying75
  have hh := Lib.hid h
  clear h hD
  go_enter Tryd.func36, Tryd.ntmps36
  go_wp2_with fail
  refine T.out.mono ?_
  rintro e _ ⟨rfl, rfl⟩
  go_wp2_with fail
  have hBw : B ≤ w.heap.size := by have := hh.out.ge.1; omega
  have ht0 : Touch [] w w0 := ⟨hg0.os, hg0.tape, hg0.output, hg0.size, fun k hk _ => hg0.block k hk (by simp)⟩
  refine wp_loop_k (InvEnd B w pw bl bg n ng w.heap.size lb lw p1 p2 g t D) (size D) ?_ ?_
  · refine ⟨_, ht0.below (Below.refl _ _) hBw (by simp), hg0.size, ⟨hrg0, hh.out.blk.touch ht0 (by simp), MapOf.touch hh.out.given ht0 (by simp), fun k hk => ?_⟩, fun b c T hb _ _ => hb.touch ht0 (by simp), by kernel_rfl, rfl, by kernel_rfl, by kernel_rfl⟩
    have h1 : has D (.int .i64 k) = true := by
      have h2 : has D (.int .i64 k) = ((lineF n lb k).map ptrD).isSome := MapOf.has (w := w) (R := ptrE) (f := fun x => (lineF n lb x).map ptrD) hDf k
      rw [h2, lineF, if_pos ⟨by omega, by omega⟩]
      rfl
    rw [if_pos h1]
    exact (hh.out.line k hk).touch ht0 (by simp) (by simp)
  clear hrg0 hg0 hs0 hr0 ht0 c0 c1 c2 c3
  intro gk a wr hI K hK
  obtain ⟨left, hbw, hsz, hS, hkeep, hs', hd', k0', k15'⟩ := hI
  rw [fr48 a hs' hd']; simp only [k0', k15']; clear hs' hd' k0' k15'
  rcases hS.rng.next keyI 0 with ⟨h0, hl, hrun⟩ | ⟨key, v, kl, y, w1, cnt', hkey, hlk, hv, hat, hrun, hrg, hlt', hgr, hsz1, hen⟩
  · obtain ⟨w4, hr4, hg4, ht4⟩ := MapI.clear hS.given 0
    have hne : bg ≠ pw := MapOf.ne_blk hS.given hS.blk
    have hb4 := hS.blk.touch ht4 (by simpa using hne.symm)
    have c2 := hS.blk.cell (i := 2) rfl
    have c3 := hb4.cell (i := 3) rfl
    have f3 := hb4.free 3
    have hltw := hS.blk.lt
    have w1' : IntKind.i64.wrap (t + 1) = t + 1 := by rw [IntKind.wrap_i64]; omega
    have hS' := Lib.hid hS
    have hg4' := Lib.hid hg4
    have hb4' := Lib.hid hb4
    clear hS hg4 hb4
    go_wp2_with fail
    go_ret
    have hs4 : w.heap.size ≤ w4.heap.size := Nat.le_trans hsz ht4.size
    have hb' : Below B w w4 := ht4.below hbw (Nat.le_trans hBw hsz) (by have := hh.out.ge.2.2.1; simpa using this)
    refine ⟨rfl, ⟨(hb4'.out.set 3 _).congr (by simp), hh.out.hn, ?_, ?_, hh.out.ne, fun k hk => ?_, hh.out.inj, hh.out.ge⟩, hb'.setCell (p := ⟨pw, 3, none⟩) hh.out.ge.1 _, by simpa using hs4, fun b c T hb n1 n2 n3 => ?_⟩
    · have hl4 : MapP w4 bl (4 * n) (lineF n lb) := MapOf.touch ⟨D, hS'.out.rng.owns, hDf⟩ ht4 (by simpa using hh.out.ne)
      exact MapOf.block hl4 (Below.heap_setCell _ _ _ _ (MapOf.ne_blk hl4 hb4'.out))
    · exact MapOf.block hg4'.out (Below.heap_setCell _ _ _ _ (MapOf.ne_blk hg4'.out hb4'.out))
    · have h1 := hS'.out.line k hk
      rw [if_neg (by rw [hl]; simp)] at h1
      have h2 := h1.touch ht4 (by simpa using (MapOf.ne_blk hS'.out.given h1.1).symm) (by simpa using (MapOf.ne_blk hS'.out.given h1.2).symm)
      exact ⟨h2.1.setNe (a := ⟨pw, 3, none⟩) (h2.1.ne hb4'.out (by decide)) _, h2.2.setNe (a := ⟨pw, 3, none⟩) (h2.2.ne hb4'.out (by decide)) _⟩
    · have h1 := hkeep b c T hb n1 n2
      have h2 := h1.touch ht4 (by simpa using (MapOf.ne_blk hS'.out.given h1).symm)
      exact h2.setNe (a := ⟨pw, 3, none⟩) (h2.ne hb4'.out n3) _
  · obtain ⟨x, rfl, rfl, hxw⟩ := Maps.keyOf_int_inv Tryd.underlying3 hkey
    have hdom : ∃ j : Nat, x = (j : Int) ∧ j < 4 * n ∧ y.1 = ptrD (lb j) := by
      by_cases hx : 0 ≤ x ∧ x < 4 * n
      · obtain ⟨j, rfl⟩ := Int.eq_ofNat_of_zero_le hx.1
        refine ⟨j, rfl, by omega, ?_⟩
        have h1 := hat .nil
        rw [hDf, lineF, if_pos hx] at h1
        exact h1.symm
      · exfalso
        have h1 := hat .nil
        have h2 := hat (.lit (.bool true))
        rw [hDf, lineF, if_neg hx] at h1 h2
        have h3 : (DataW.nil : DataW Unit) = .lit (.bool true) := h1.trans h2.symm
        cases h3
    obtain ⟨j, rfl, hj, hy⟩ := hdom
    obtain ⟨rfl⟩ : v = .pointer (some ⟨lb j, 0, none⟩) := by
      rcases ptrE_inv hv with ⟨_, e⟩ | ⟨q, rfl, e⟩
      · rw [e] at hy; simp [ptrD] at hy
      · rw [e] at hy
        simp [ptrD] at hy
        have : q = lb j := by omega
        rw [this]
    have hS' := Lib.hid hS
    have hline := hS.line j hj
    rw [if_pos hlk] at hline
    have ht1 : Touch [w.heap.size] wr w1 := ⟨hgr.os, hgr.tape, hgr.output, hgr.size, fun k hk hn => hgr.block k hk (fun e => hn (by rw [Option.some.inj e]; simp))⟩
    have hnr : ∀ {c : Nat} {cs : Array Value} {T : TypeId}, Blk wr c cs T → c ∉ [w.heap.size] := fun hb hm => (ranges_ne_blk hS'.out.rng hb).2 (List.mem_singleton.1 hm).symm
    have hng : bg ∉ [w.heap.size] := fun hm => ranges_ne_map hS'.out.rng hS'.out.given (List.mem_singleton.1 hm).symm
    have hb1 := hS.blk.touch ht1 (hnr hS.blk)
    have hg1 : MapI w1 bg ng g := MapOf.touch hS.given ht1 hng
    have hl1 := hline.touch ht1 (hnr hline.1) (hnr hline.2)
    have hlk1 := hg1.look_ok hxw
    have c2 := hb1.cell (i := 2) rfl
    have hltw := hb1.lt
    have hsz' : w.heap.size ≤ w1.heap.size := by omega
    have hbw1 : Below B w w1 := ht1.below hbw (Nat.le_trans hBw hsz) (by simpa using hBw)
    -- what holds behind the line's Send
    have hnext : Hid (∀ w2 w3, Touch [] w1 w2 → LineInt w2 (lb j) (lw j) (j % 2 + 1) (wayV p1 p2 j) t → LineInt w3 (lb j) (lw j) (j % 2 + 1) (wayV g p1 j) (t + 1) → Touch [lb j, lw j] w2 w3 → ∃ left', Below B w w3 ∧ w.heap.size ≤ w3.heap.size ∧ Sending B w3 pw bl bg n ng w.heap.size lb lw p1 p2 g t D left' cnt' ∧ (∀ b c T, Blk w b c T → T ≠ 102 → T ≠ 105 → Blk w3 b c T)) := fun w2 w3 h12 hl2 hl3 h23 => by
      have hB1 : ∀ {c : Nat} {cs : Array Value} {T : TypeId}, Blk w1 c cs T → T ≠ 102 → T ≠ 105 → Blk w3 c cs T := fun {c cs T} hb n1 n2 => by
        have hb2 := hb.touch h12 (by simp)
        refine hb2.touch h23 (fun hm => ?_)
        rcases List.mem_cons.1 hm with e | hm
        · exact hb2.ne hl2.1 n1 e
        · exact hb2.ne hl2.2 n2 (by simpa using hm)
      have hMn : ∀ {R : Value → Option (DataW Unit × List MemPlace)} {b m : Nat} {f : Int → Option (DataW Unit)}, MapOf w1 R b m f → MapOf w3 R b m f := fun {R b m f} hm => by
        have hm2 := MapOf.touch hm h12 (by simp)
        refine MapOf.touch hm2 h23 (fun hq => ?_)
        rcases List.mem_cons.1 hq with e | hq
        · exact MapOf.ne_blk hm2 hl2.1 e
        · exact MapOf.ne_blk hm2 hl2.2 (by simpa using hq)
      have hrg2 := ranges_block hrg (h12.block bl hrg.owns.lt (by simp)) (h12.block _ hrg.lt (by simp))
      have hn1 := ranges_ne_blk hrg2 hl2.1
      have hn2 := ranges_ne_blk hrg2 hl2.2
      have hrg3 := ranges_block hrg2 (h23.block bl hrg2.owns.lt (by simp; exact ⟨hn1.1, hn2.1⟩)) (h23.block _ hrg2.lt (by simp; exact ⟨hn1.2, hn2.2⟩))
      refine ⟨_, h23.below (h12.below hbw1 (Nat.le_trans hBw hsz') (by simp)) (Nat.le_trans hBw (Nat.le_trans hsz' h12.size)) (fun q hq => ?_), Nat.le_trans (Nat.le_trans hsz' h12.size) h23.size, ⟨hrg3, hB1 hb1 (by decide) (by decide), hMn hg1, fun k hk => ?_⟩, fun b c T hb n1 n2 => hB1 ((hkeep b c T hb n1 n2).touch ht1 (hnr (hkeep b c T hb n1 n2))) n1 n2⟩
      · have := hh.out.ge.2.2.2 j hj
        rcases List.mem_cons.1 hq with e | hq
        · rw [e]; exact this.1
        · simp at hq; rw [hq]; exact this.2
      · by_cases hkj : k = j
        · subst hkj
          have : (left (.int .i64 k) && !(Lit.int .i64 (k : Int)).sameKey (.int .i64 k)) = false := by
            rw [WideAt.sameKey_self (a := .int .i64 k) trivial]; simp
          rw [if_neg (by rw [this]; simp)]
          exact hl3
        · have hsk : (Lit.int .i64 (k : Int)).sameKey (.int .i64 j) = false := sameKey_ne (fun e => hkj (by injection e with _ e; omega))
          have e0 : (left (.int .i64 k) && !(Lit.int .i64 (k : Int)).sameKey (.int .i64 j)) = left (.int .i64 k) := by rw [hsk]; simp
          have hold := hS'.out.line k hk
          have hinj := hh.out.inj k j hk hj hkj
          have hkept : ∀ {cs : List Value} {t' : Int}, LineInt wr (lb k) (lw k) (k % 2 + 1) cs t' → LineInt w3 (lb k) (lw k) (k % 2 + 1) cs t' := fun hL => by
            have a1 := (hL.touch ht1 (hnr hL.1) (hnr hL.2)).touch h12 (by simp) (by simp)
            refine a1.touch h23 (fun hm => ?_) (fun hm => ?_)
            · rcases List.mem_cons.1 hm with e | hm
              · exact hinj.1 e
              · exact (a1.1.ne hl2.2 (by decide)) (by simpa using hm)
            · rcases List.mem_cons.1 hm with e | hm
              · exact (a1.2.ne hl2.1 (by decide)) e
              · exact hinj.2 (by simpa using hm)
          show if (left (.int .i64 k) && !(Lit.int .i64 (k : Int)).sameKey (.int .i64 j)) = true then _ else _
          rw [e0]
          by_cases hlf : left (.int .i64 k) = true
          · rw [if_pos hlf] at hold ⊢; exact hkept hold
          · rw [if_neg hlf] at hold ⊢; exact hkept hold
    have hb1' := Lib.hid hb1
    have hl1' := Lib.hid hl1
    clear hS hline hg1 hb1 hl1 hrg hgr hat hkey hv hy hsz1
    cases hgj : g (j : Int) with
    | none =>
      have hlk2 : (Instr.lookup 78 (.map (some bg)) (.int .i64 (j : Int)) true).run Tryd.prog w1 = .ok (.tuple #[.int .i64 0, .bool false]) w1 := by rw [hlk1, hgj]; rfl
      clear hlk1
      have SD := Lib.hid (lineSend w1 (lb j) (lw j) j p1 p2 g t ⟨ht.1, by omega⟩ hl1'.out none 0 0 (.inl ⟨hgj, rfl⟩))
      go_wp2_with fail
      refine SD.out.mono ?_
      rintro e w3 ⟨rfl, hl3, h23⟩
      have hN := Lib.hid (hnext.out w1 w3 (Touch.refl _ _) hl1'.out hl3 h23)
      clear hnext hl3 h23
      go_wp2_with fail
      obtain ⟨left', q1, q2, q3, q4⟩ := hN.out
      exact hK cnt' _ _ hlt' ⟨left', q1, q2, q3, q4, by kernel_rfl, rfl, by kernel_rfl, by kernel_rfl⟩
    | some x =>
      have hlk2 : (Instr.lookup 78 (.map (some bg)) (.int .i64 (j : Int)) true).run Tryd.prog w1 = .ok (.tuple #[.int .i64 x, .bool true]) w1 := by rw [hlk1, hgj]; rfl
      clear hlk1
      have h12 : Touch [] w1 (w1.alloc (.cells #[.int .i64 x] 3)) := (Touch.refl [] w1).alloc _
      have hl2 := hl1'.out.alloc (.cells #[.int .i64 x] 3)
      have SD := Lib.hid (lineSend (w1.alloc (.cells #[.int .i64 x] 3)) (lb j) (lw j) j p1 p2 g t ⟨ht.1, by omega⟩ hl2 (some ⟨w1.heap.size, 0, none⟩) 1 1 (.inr ⟨_, _, x, hgj, rfl, rfl, (Blk.new w1 #[.int .i64 x] 3).cell (i := 0) rfl⟩))
      replace h12 := Lib.hid h12
      replace hl2 := Lib.hid hl2
      go_wp2_with fail
      refine SD.out.mono ?_
      rintro e w3 ⟨rfl, hl3, h23⟩
      have hN := Lib.hid (hnext.out _ w3 h12.out hl2.out hl3 h23)
      clear hnext hl3 h23 h12 hl2
      go_wp2_with fail
      obtain ⟨left', q1, q2, q3, q4⟩ := hN.out
      exact hK cnt' _ _ hlt' ⟨left', q1, q2, q3, q4, by kernel_rfl, rfl, by kernel_rfl, by kernel_rfl⟩
end Go.Proofs.YteogoddnefeleaaDoor
