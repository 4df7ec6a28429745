/- LinesRun: the walk. -/
import Derived.Test.YtagmbdoajafejaaLinesRunA
import Derived.Test.YtagmbdoajafejaaLinesLives
import Derived.Test.YtagmbdoajafejaaHelpNums
import Derived.Test.YtagmbdoajafejaaBookENums
import Derived.Deep.RegionHeld3
namespace Go.Proofs.Ytagmbdoajafejaa
open Go.RowKit
set_option linter.unusedSimpArgs false
set_option linter.unusedVariables false
/-- A list of lists of numbers that came in. -/
def SlSl (w : World) (la : Option Addr) (n : Nat) (A : Nat → Option Addr) (M C : Nat → Nat) (L : Nat → Nat → Int) : Prop :=
  ∀ i, i < n → ∃ b o, la = some ⟨b, o, none⟩ ∧ w.cell? ⟨b, o + i, none⟩ = some (.slice (A i) (M i) (C i)) ∧ (A i = none → C i = 0) ∧ Rd .i64 w (A i) (M i) (L i) ∧ M i ≤ 9223372036854775807
set_option maxRecDepth 100000
/-- The two lines at the head of a round. -/
def Two (B : Nat) (wr : World) (p q bR hop : Nat) (v : Value) (S : Sends) : Prop :=
  LineInt wr p q hop (wayOf hop S) S.length ∧ RefAt B wr bR hop v S ∧ B ≤ p ∧ B ≤ q ∧ Zeros S
theorem Two.below {B : Nat} {w w' : World} {p q bR hop : Nat} {v : Value} {S : Sends} (h : Two B w p q bR hop v S) (hb : Below w.heap.size w w') : Two B w' p q bR hop v S :=
  ⟨h.1.touch (Touch.of_below hb (Nat.le_refl _) []) (by simp) (by simp), h.2.1.below hb, h.2.2⟩
theorem Two.keep {B : Nat} {w w' : World} {p q bR hop : Nat} {v : Value} {S : Sends} (h : Two B w p q bR hop v S) (hk : ∀ b c T, Blk w b c T → T ≠ 49 → T ≠ 41 → Blk w' b c T) : Two B w' p q bR hop v S := by
  refine ⟨⟨hk _ _ _ h.1.1 (by decide) (by decide), hk _ _ _ h.1.2 (by decide) (by decide)⟩, ⟨hk _ _ _ h.2.1.blk (by decide) (by decide), h.2.1.le, h.2.1.own.1, ?_⟩, h.2.2⟩
  rcases h.2.1.own.2 with h2 | ⟨g, cap, cur, rfl, h2, h3, r⟩
  · exact .inl h2
  · exact .inr ⟨g, cap, cur, rfl, h2, hk g cur _ h3 (by decide) (by decide), r⟩
/-- A list for the book that begins a block of its own. -/
def ItemAt (B : Nat) (w : World) (m : Nat) (ao : Option Addr) : Prop := 0 < m → ∃ g, ao = some ⟨g, 0, none⟩ ∧ B ≤ g ∧ ∃ cur, Blk w g cur 3 ∧ m ≤ cur.size
theorem ItemAt.to {B : Nat} {w w' : World} {m : Nat} {ao : Option Addr} (h : ItemAt B w m ao) (f : ∀ g cur, Blk w g cur 3 → Blk w' g cur 3) : ItemAt B w' m ao := fun hp => by
  obtain ⟨g, h1, h2, cur, h3, h4⟩ := h hp
  exact ⟨g, h1, h2, cur, f g cur h3, h4⟩
theorem good_two {B B2 : Nat} {w : World} {m1 m2 : Nat} {a1 a2 : Option Addr} (h1 : ItemAt B w m1 a1) (hlt : 0 < m1 → ∀ g, a1 = some ⟨g, 0, none⟩ → g < B2) (h2 : ItemAt B2 w m2 a2) (l1 : m1 ≤ 1000) (l2 : m2 ≤ 1000) : Good w 3 [(a1, m1), (a2, m2)] := by
  have hne : ∀ g g', 0 < m1 → a1 = some ⟨g, 0, none⟩ → a2 = some ⟨g', 0, none⟩ → B2 ≤ g' → g ≠ g' := fun g g' hp e1 _ hb => by have := hlt hp g e1; omega
  refine ⟨by simp, fun i a m hi => ?_⟩
  match i, hi with
  | 0, hi =>
    simp at hi
    obtain ⟨rfl, rfl⟩ := hi
    refine ⟨by omega, fun hp => ?_⟩
    obtain ⟨g, e1, _, hc⟩ := h1 hp
    refine ⟨g, e1, hc, fun j a' m' hj hp' hij => ?_⟩
    match j, hj with
    | 0, _ => exact absurd rfl hij
    | 1, hj =>
      simp at hj
      obtain ⟨rfl, rfl⟩ := hj
      obtain ⟨g', e2, hb, _⟩ := h2 hp'
      rw [e2]
      intro e
      simp at e
      exact hne g g' hp e1 e2 hb e.symm
    | j + 2, hj => simp at hj
  | 1, hi =>
    simp at hi
    obtain ⟨rfl, rfl⟩ := hi
    refine ⟨by omega, fun hp => ?_⟩
    obtain ⟨g', e2, hb, hc⟩ := h2 hp
    refine ⟨g', e2, hc, fun j a' m' hj hp' hij => ?_⟩
    match j, hj with
    | 0, hj =>
      simp at hj
      obtain ⟨rfl, rfl⟩ := hj
      obtain ⟨g, e1, _, _⟩ := h1 hp'
      rw [e1]
      intro e
      simp at e
      exact hne g g' hp' e1 e2 hb e
    | 1, _ => exact absurd rfl hij
    | j + 2, hj => simp at hj
  | i + 2, hi => simp at hi
theorem Two.touchInt {B : Nat} {w w' : World} {p q bR hop : Nat} {v : Value} {S : Sends} {T : List Nat} (h : Two B w p q bR hop v S) (ht : Touch T w w') (hT : ∀ k ∈ T, ∃ cur, Blk w k cur 3) : Two B w' p q bR hop v S := by
  have hk : ∀ b c E, Blk w b c E → E ≠ 3 → Blk w' b c E := fun b c E hb hne => hb.touch ht (fun hm => by
    obtain ⟨cur, hc⟩ := hT b hm
    exact hb.ne hc hne rfl)
  refine ⟨⟨hk _ _ _ h.1.1 (by decide), hk _ _ _ h.1.2 (by decide)⟩, ⟨hk _ _ _ h.2.1.blk (by decide), h.2.1.le, h.2.1.own.1, ?_⟩, h.2.2⟩
  rcases h.2.1.own.2 with h2 | ⟨g, cap, cur, rfl, h2, h3, r⟩
  · exact .inl h2
  · exact .inr ⟨g, cap, cur, rfl, h2, hk g cur _ h3 (by decide), r⟩
theorem Two.sendX {B : Nat} {w w' : World} {p q bR hop : Nat} {v : Value} {S : Sends} (h : Two B w p q bR hop v S) (ht : Touch [p, q] w w') : RefAt B w' bR hop v S := by
  have hk : ∀ b c E, Blk w b c E → E ≠ 60 → E ≠ 84 → Blk w' b c E := fun b c E hb n1 n2 => hb.touch ht (fun hm => by
    simp only [List.mem_cons, List.not_mem_nil, or_false] at hm
    rcases hm with rfl | rfl
    · exact hb.ne h.1.1 n1 rfl
    · exact hb.ne h.1.2 n2 rfl)
  refine ⟨hk _ _ _ h.2.1.blk (by decide) (by decide), h.2.1.le, h.2.1.own.1, ?_⟩
  rcases h.2.1.own.2 with h2 | ⟨g, cap, cur, rfl, h2, h3, r⟩
  · exact .inl h2
  · exact .inr ⟨g, cap, cur, rfl, h2, hk g cur _ h3 (by decide) (by decide), r⟩
theorem Two.sendXT {B : Nat} {w w' : World} {p q bR hop : Nat} {v : Value} {S : Sends} (h : Two B w p q bR hop v S) (ht : Touch [p, q] w w') {g n c : Nat} {L : Nat → Int} (htw : TwinNumsAt w g n c L) : TwinNumsAt w' g n c L := by
  obtain ⟨cur, hc, r⟩ := htw
  exact ⟨cur, hc.touch ht (fun hm => by
    simp only [List.mem_cons, List.not_mem_nil, or_false] at hm
    rcases hm with rfl | rfl
    · exact hc.ne h.1.1 (by decide) rfl
    · exact hc.ne h.1.2 (by decide) rfl), r⟩
/-- Both lines are sent the same plan. -/
theorem sends_any (w : World) (p q bR hop i g m c : Nat) (v : Value) (S : Sends) (A : Option Addr) (C : Nat) (L : Nat → Int) (hh : hop = 1 ∨ hop = 2) (hS : S.length ≤ 300) (hz : Zeros S) (hle : w.heap.size ≤ p) (hle2 : w.heap.size ≤ q) (hrd : Rd .i64 w A m L) :
    ∃ (r : Int) (S' : Sends), S'.length ≤ S.length + 1 ∧ Zeros S' ∧
      (∀ W, Below w.heap.size w W → Two w.heap.size W p q bR hop v S → TwinNumsAt W g m c L → Calls Try.prog 22 #[.pointer (some ⟨p, 0, none⟩), .slice (some ⟨g, 0, none⟩) m c] W fun e w' => e = .returned (.int .i64 r) ∧
        Below w.heap.size w w' ∧ LineInt w' p q hop (wayOf hop S') S'.length ∧ RefAt w.heap.size w' bR hop v S ∧ TwinNumsAt w' g m c L) ∧
      (∀ W, Below w.heap.size w W → LineInt W p q hop (wayOf hop S') S'.length → RefAt w.heap.size W bR hop v S → TwinNumsAt W g m c L → Calls Try.prog 23 #[.pointer (some ⟨bR, 0, none⟩), .slice A m C] W fun e w' => e = .returned (.int .i64 r) ∧
        Below w.heap.size w w' ∧ (∃ v', Two w.heap.size w' p q bR hop v' S') ∧ TwinNumsAt w' g m c L) := by
  have keepL : ∀ {W w' : World} {S' : Sends} {v' : Value}, Zeros S' → LineInt W p q hop (wayOf hop S') S'.length → RefAt w.heap.size w' bR hop v' S' → TwinNumsAt W g m c L → (∀ b c T, Blk W b c T → T ≠ 56 → T ≠ 92 → Blk w' b c T) →
      (∃ v', Two w.heap.size w' p q bR hop v' S') ∧ TwinNumsAt w' g m c L := fun {W w' S' v'} hz' h1 h2 ht hk => by
    obtain ⟨cur, hc, r⟩ := ht
    exact ⟨⟨v', ⟨hk _ _ _ h1.1 (by decide) (by decide), hk _ _ _ h1.2 (by decide) (by decide)⟩, h2, hle, hle2, hz'⟩, cur, hk _ _ _ hc (by decide) (by decide), r⟩
  by_cases h0 : m = 0
  · subst h0
    have hz' : Zeros (S ++ [(0, false)]) := hz.add (fun _ => rfl)
    refine ⟨0, S ++ [(0, false)], by simp, hz', fun W hb hT ht => ?_, fun W hb hA hR ht => ?_⟩
    · refine (lineSend_no hh hT.1 (by omega) (by omega) _ _).mono ?_
      rintro e w' ⟨rfl, h1, h2⟩
      exact ⟨rfl, h2.below hb hb.size (by simp [hle, hle2]), by simpa using h1, hT.sendX h2, hT.sendXT h2 ht⟩
    · refine (refSend_no hR (by omega) _ _).mono ?_
      rintro e w' ⟨rfl, ⟨v', h1⟩, h2, h3, h4⟩
      exact ⟨rfl, hb.trans h2, keepL hz' hA h1 ht h4⟩
  by_cases h1 : m = 1
  · subst h1
    obtain ⟨b, o, rfl, hx⟩ : ∃ b o, A = some ⟨b, o, none⟩ ∧ w.cell? ⟨b, o, none⟩ = some (.int .i64 (L 0)) := by
      obtain ⟨b, o, h1, h2⟩ := hrd 0 (by omega)
      exact ⟨b, o, h1, by simpa using h2⟩
    have hz' : Zeros (S ++ [(L 0, true)]) := hz.add (fun h => by simp at h)
    refine ⟨0, S ++ [(L 0, true)], by simp, hz', fun W hb hT ht => ?_, fun W hb hA hR ht => ?_⟩
    · have hc : W.cell? ⟨g, 0, none⟩ = some (.int .i64 (L 0)) := by
        obtain ⟨cur, hc, h2, h3, h4, h5, _⟩ := ht
        exact hc.cell (by simpa using h5 0 (by omega))
      refine (lineSend_yes hh hT.1 (by omega) (by omega) _ _ _ _ hc).mono ?_
      rintro e w' ⟨rfl, h1, h2⟩
      exact ⟨rfl, h2.below hb hb.size (by simp [hle, hle2]), by simpa using h1, hT.sendX h2, hT.sendXT h2 ht⟩
    · refine (refSend_yes hR (by omega) _ _ _ _ (below_cell hx hb (World.block_lt_of_cell? w _ hx))).mono ?_
      rintro e w' ⟨rfl, ⟨v', h1⟩, h2, h3, h4⟩
      exact ⟨rfl, hb.trans h2, keepL hz' hA h1 ht h4⟩
  · refine ⟨1, S, by omega, hz, fun W hb hT ht => ?_, fun W hb hA hR ht => ?_⟩
    · refine (sendInt_many _ _ _ _ _ _ _ _ _ (by omega) (by omega) hT.1).mono ?_
      rintro e w' ⟨rfl, rfl⟩
      exact ⟨rfl, hb, hT.1, hT.2.1, ht⟩
    · refine (refSend_many hR _ _ _ (by omega)).mono ?_
      rintro e w' ⟨rfl, rfl⟩
      exact ⟨rfl, hb, ⟨v, hA, hR, hle, hle2, hz⟩, ht⟩
theorem wpAnyH_mono {P : Program} {md : Region.Mode} {ops : Array Oper} {Q : Exit → Act → World → Prop} {S S' : World → Prop} (hS : ∀ W, S W → S' W) :
    ∀ {fuel : Nat} {listed : Array Bool} {a : Act} {w : World}, wpAnyH P md ops Q S fuel listed a w → wpAnyH P md ops Q S' fuel listed a w
  | 0, _, _, _, h => h
  | fuel + 1, _, _, _, h => ⟨h.1, fun i hi => wpOp_mono (fun _ _ h' => ⟨hS _ h'.1, wpAnyH_mono hS h'.2⟩) (h.2 i hi)⟩
def InvR (w : World) (la : Option Addr) (n cap p q bR hop k : Nat) (a : Act) (wr : World) : Prop :=
  ∃ (i : Nat) (v : Value) (S : Sends), i + k = n ∧ S.length ≤ i ∧ Below w.heap.size w wr ∧ Two w.heap.size wr p q bR hop v S ∧ a.tmps.size = 133 ∧ a.defers = [] ∧ slot a 1 = .slice la n cap ∧ slot a 5 = .pointer (some ⟨p, 0, none⟩) ∧ slot a 7 = .pointer (some ⟨bR, 0, none⟩) ∧ slot a 9 = .int .i64 i
set_option maxHeartbeats 6000000 in
theorem run_loop (w wr0 : World) (la : Option Addr) (n cap p q bR hop : Nat) (A : Nat → Option Addr) (M C : Nat → Nat) (L : Nat → Nat → Int) (hl : SlSl w la n A M C L) (hn : n ≤ 300) (hh : hop = 1 ∨ hop = 2)
    (hN : Calls Try.prog 12 #[.int .i64 hop] w fun e w' => ∃ bL bW, e = .returned (.tuple #[.pointer (some ⟨bL, 0, none⟩), .int .i64 0]) ∧ LineInt w' bL bW hop (wayOf hop []) 0 ∧ w.heap.size ≤ bL ∧ w.heap.size ≤ bW ∧ Below w.heap.size w w')
    (hM : ∀ w0 : World, w.heap.size ≤ w0.heap.size → Calls Try.prog 13 #[.int .i64 hop] w0 fun e w' => ∃ b, e = .returned (.tuple #[.pointer (some ⟨b, 0, none⟩), .int .i64 0]) ∧ RefAt w.heap.size w' b hop (.slice none 0 0) [] ∧ w0.heap.size ≤ b ∧ Below w0.heap.size w0 w') :
    Calls Try.prog 4 #[.int .i64 hop, .slice la n cap] w fun e w' => e = .returned (.bool true) ∧ Below w.heap.size w w' := by
  have hn1 : decide ((300 : Int) < (n : Int)) = false := by simp; omega
  replace hl := Lib.hid hl
  replace hN := Lib.hid hN
  replace hM := Lib.hid hM
  go_enter Try.func4, Try.ntmps4
  go_wp2_with fail
  refine hN.out.mono ?_
  rintro e w1 ⟨p, q, rfl, hA, lp, lq, hb1⟩
  go_wp2_with fail
  refine (hM.out w1 hb1.size).mono ?_
  rintro e w2 ⟨bR, rfl, hR, lb, hb2⟩
  have hb : Below w.heap.size w w2 := hb1.trans (hb2.mono hb1.size)
  have hT : Two w.heap.size w2 p q bR hop (.slice none 0 0) [] := ⟨hA.touch (Touch.of_below hb2 (Nat.le_refl _) []) (by simp) (by simp), hR, lp, lq, Zeros.nil⟩
  clear hA hR hb1 hb2 hN hM
  go_wp2_with fail
  refine wp_loop_k (InvR w la n cap p q bR hop) n ?_ ?_
  · exact ⟨0, _, [], by omega, by simp, hb, hT, by kernel_rfl, rfl, by kernel_rfl, by kernel_rfl, by kernel_rfl, by kernel_rfl⟩
  intro gk a wr hI K hK
  obtain ⟨i, v, S, hi, hSi, hbr, hT, hs', hd', k1', k5', k7', k9'⟩ := hI
  rw [fr133 a hs' hd']; simp only [k1', k5', k7', k9']; clear hs' hd' k1' k5' k7' k9'
  clear hb
  by_cases hlt : i < n
  · obtain ⟨b, o, rfl, hx0, hnil, hrd, hmax⟩ := hl.out i hlt
    have hx := below_cell hx0 hbr (World.block_lt_of_cell? w _ hx0)
    replace hrd := Lib.hid hrd
    replace hnil := Lib.hid hnil
    by_cases hm : M i ≤ 100
    · have hm1 : decide ((100 : Int) < (M i : Int)) = false := by simp; omega
      go_upto_block 2 with fail
      refine wp_cut (fun a wx => (Below w.heap.size w wx ∧ Two w.heap.size wx p q bR hop v S) ∧ a.tmps.size = 133 ∧ a.defers = [] ∧ slot a 1 = .slice (some ⟨b, o, none⟩) n cap ∧ slot a 5 = .pointer (some ⟨p, 0, none⟩) ∧ slot a 7 = .pointer (some ⟨bR, 0, none⟩) ∧ slot a 9 = .int .i64 i) ?_ ?_
      · intro K' hK'
        apply wp_block
        refine wp_loop_k (fun k a wx => ∃ j : Nat, j + k = 2 ∧ (Below w.heap.size w wx ∧ Two w.heap.size wx p q bR hop v S) ∧ a.tmps.size = 133 ∧ a.defers = [] ∧ slot a 1 = .slice (some ⟨b, o, none⟩) n cap ∧ slot a 5 = .pointer (some ⟨p, 0, none⟩) ∧ slot a 7 = .pointer (some ⟨bR, 0, none⟩) ∧ slot a 9 = .int .i64 i ∧ slot a 10 = .int .i64 j) 2 ?_ ?_
        · exact ⟨0, by omega, ⟨hbr, hT⟩, by kernel_rfl, rfl, by kernel_rfl, by kernel_rfl, by kernel_rfl, by kernel_rfl, by kernel_rfl⟩
        intro gk2 a wr hI K2 hK2
        obtain ⟨j, hj, ⟨hbr, hT⟩, hs', hd', k1', k5', k7', k9', k10'⟩ := hI
        rw [fr133 a hs' hd']; simp only [k1', k5', k7', k9', k10']; clear hs' hd' k1' k5' k7' k9' k10'
        clear hx
        by_cases hjt : j < 2
        · have hS3 : S.length ≤ 300 := by omega
          have hz := Lib.hid hT.2.2.2.2
          go_wp2_with fail
          refine (lineHere hh hT.1).mono ?_
          rintro e w3 ⟨rfl, m1, rfl⟩
          have hT2 := hT.below (bdrewN (Below.refl _ _) m1)
          go_wp2_with fail
          refine (refHere hT2.2.1 (by omega) (by omega)).mono ?_
          rintro e w3 ⟨rfl, m2, rfl⟩
          have hat := at_ent hz.out (hop := hop) (k := 0) (by omega)
          simp only [Nat.add_zero, Nat.sub_zero] at hat
          rw [hat]
          clear hat
          have hT3 := hT2.below (bdrewN (Below.refl _ _) m2)
          have hb3 := bdrewN (bdrewN hbr m1) m2
          simp only [World.drewN_drewN] at hT3 hb3
          clear hT hT2
          go_wp2_with fail
          refine (lineWay hh hT3.1).mono ?_
          rintro e w4 ⟨ao, rfl, hb4, hr4, _⟩
          have hT4 := hT3.below hb4
          replace hb3 := hb3.trans (hb4.mono hb3.size)
          clear hT3 hb4
          go_wp2_with fail
          refine (refWay hh hz.out hT4.2.1 (by omega)).mono ?_
          rintro e w5 ⟨ao', c', rfl, hb5, hr5⟩
          have hT5 := hT4.below hb5
          replace hb3 := hb3.trans (hb5.mono hb3.size)
          have hr4' := hr4.below hb5 (Nat.le_refl _)
          clear hT4 hb5 hr4
          have hwn : wayN hop S ≤ 1 := by unfold wayN; split <;> omega
          go_wp2_with fail
          refine (sameNums _ _ _ _ _ _ _ hr4' hr5 (by omega)).mono ?_
          rintro e w6 ⟨rfl, m3, rfl⟩
          go_wp2_with fail
          refine hK2 (2 - (j + 1)) _ _ (by omega) ⟨j + 1, by omega, ⟨bdrewN hb3 _, hT5.below (bdrewN (Below.refl _ _) _)⟩, by kernel_rfl, rfl, by kernel_rfl, by kernel_rfl, by kernel_rfl, by kernel_rfl, ?_⟩
          show Value.int _ _ = Value.int _ _
          simp
        · go_wp2_with fail
          refine hK' _ _ trivial ⟨⟨hbr, hT⟩, by kernel_rfl, rfl, by kernel_rfl, by kernel_rfl, by kernel_rfl, by kernel_rfl⟩
      clear hbr hT hx
      rintro a wx ⟨⟨hbr, hT⟩, hs', hd', k1', k5', k7', k9'⟩; rw [fr133 a hs' hd']; simp only [k1', k5', k7', k9']; clear hs' hd' k1' k5' k7' k9'
      have hS1 := hbr.size
      have hwn : wayN hop S ≤ 1 := by unfold wayN; split <;> omega
      have bk0 : BookL w.heap.size (wx.alloc (.cells #[.slice none 0 0, .slice none 0 0, .slice none 0 0, .bool false] 49)) wx.heap.size (.slice none 0 0) (.slice none 0 0) (.slice none 0 0) [] [] [] :=
        ⟨Blk.new _ _ _, hS1, World.ownsRow_nil _ _ _ _, World.ownsRow_nil _ _ _ _, World.ownsRow_nil _ _ _ _⟩
      have hT1 := hT.below ((Below.refl wx.heap.size wx).alloc (Nat.le_refl _) (.cells #[.slice none 0 0, .slice none 0 0, .slice none 0 0, .bool false] 49))
      have hb1 := hbr.alloc hS1 (.cells #[.slice none 0 0, .slice none 0 0, .slice none 0 0, .bool false] 49)
      clear hT hbr
      go_wp2_with fail
      refine (lineWay hh hT1.1).mono ?_
      rintro e w3 ⟨a1, rfl, hb3, _, it1⟩
      replace bk0 := bk0.below hb3
      have hT3 := hT1.below hb3
      have hb3' := hb1.trans (hb3.mono hb1.size)
      replace it1 : ItemAt w.heap.size w3 (wayN hop S) a1 := fun hp => by
        obtain ⟨g, h1, h2, h3⟩ := it1 hp
        exact ⟨g, h1, by simp at h2; omega, h3⟩
      clear hT1 hb1 hb3
      go_wp2_with fail
      refine (addNums bk0 a1 (wayN hop S) (by simp)).mono ?_
      rintro e w4 ⟨rfl, ⟨vn, bk1⟩, hb4, hs4, hk4⟩
      have hT4 := hT3.keep hk4
      replace it1 := it1.to (w' := w4) (fun g cur h => hk4 g cur _ h (by decide) (by decide))
      replace hb4 := hb3'.trans hb4
      clear bk0 hT3 hb3' hk4 hs4
      go_wp2_with fail
      refine (lineWay hh hT4.1).mono ?_
      rintro e w5 ⟨a2, rfl, hb5, _, it2⟩
      have hlt1 : 0 < wayN hop S → ∀ g, a1 = some ⟨g, 0, none⟩ → g < w4.heap.size := fun hp g e => by
        obtain ⟨g', e', _, cur, hc, _⟩ := it1 hp
        rw [e] at e'
        simp at e'
        rw [e']
        exact hc.lt
      replace bk1 := bk1.below hb5
      have hT5 := hT4.below hb5
      replace it1 := it1.to (w' := w5) (fun g cur h => h.below hb5 h.lt)
      replace it2 : ItemAt w4.heap.size w5 (wayN hop S) a2 := it2
      have hb5' := hb4.trans (hb5.mono hb4.size)
      have hS4 := hb4.size
      clear hT4 hb4 hb5
      go_wp2_with fail
      refine (addNums bk1 a2 (wayN hop S) (by simp)).mono ?_
      rintro e w6 ⟨rfl, ⟨vn2, bk2⟩, hb6, hs6, hk6⟩
      have hT6 := hT5.keep hk6
      replace it1 := it1.to (w' := w6) (fun g cur h => hk6 g _ _ h (by decide) (by decide))
      replace it2 := it2.to (w' := w6) (fun g cur h => hk6 g _ _ h (by decide) (by decide))
      replace hb6 := hb5'.trans hb6
      clear bk1 hT5 hb5' hk6 hs6
      have hx := below_cell hx0 hb6 (World.block_lt_of_cell? w _ hx0)
      go_wp2_with fail
      have hl1 : ∀ g, 0 < wayN hop S → a1 = some ⟨g, 0, none⟩ → g < w6.heap.size ∧ w.heap.size ≤ g := fun g hp e => by
        obtain ⟨g', e', hB, cur, hc, _⟩ := it1 hp
        rw [e] at e'
        simp at e'
        subst e'
        exact ⟨hc.lt, hB⟩
      have hl2 : ∀ g, 0 < wayN hop S → a2 = some ⟨g, 0, none⟩ → g < w6.heap.size ∧ w.heap.size ≤ g := fun g hp e => by
        obtain ⟨g', e', hB, cur, hc, _⟩ := it2 hp
        rw [e] at e'
        simp at e'
        subst e'
        exact ⟨hc.lt, Nat.le_trans hS4 hB⟩
      replace hl1 := Lib.hid hl1
      replace hl2 := Lib.hid hl2
      refine (twinNums w6 (A i) (M i) (C i) (L i) (hrd.out.below hb6 (Nat.le_refl _)) hnil.out (by omega)).mono ?_
      rintro e w7 ⟨g, c, rfl, hg, hb7, htw⟩
      replace bk2 := bk2.below hb7
      have hT7 := hT6.below hb7
      replace it1 := it1.to (w' := w7) (fun g cur h => h.below hb7 h.lt)
      replace it2 := it2.to (w' := w7) (fun g cur h => h.below hb7 h.lt)
      have hb7' := hb6.trans (hb7.mono hb6.size)
      have hgood := good_two it1 hlt1 it2 (by omega) (by omega)
      have hx := below_cell hx0 hb7' (World.block_lt_of_cell? w _ hx0)
      have hr7 := hrd.out.below hb7' (Nat.le_refl _)
      clear hT6 hb6 hb7
      go_wp2_with fail
      have lt7 := hT7.1.lt
      have hg7 : g < w7.heap.size := by obtain ⟨cur, hc, _⟩ := htw; exact hc.lt
      have hz := Lib.hid hT7.2.2.2.2
      have hle := hT7.2.2.1
      have hle2 := hT7.2.2.2.1
      have hleR := hT7.2.1.le
      -- behind Apart: what it may have touched are the two lists of the book
      have CA : Hid (∀ W, Below w7.heap.size w7 W → Calls Try.prog 21 #[.pointer (some ⟨wx.heap.size, 0, none⟩)] W fun e w' => e = .returned (.bool true) ∧
          Below w.heap.size w w' ∧ Two w.heap.size w' p q bR hop v S ∧ TwinNumsAt w' g (M i) c (L i)) := fun W hW => by
        have hgW : Good W 3 [(a1, wayN hop S), (a2, wayN hop S)] := good_two (it1.to fun g cur h => h.below hW h.lt) hlt1 (it2.to fun g cur h => h.below hW h.lt) (by omega) (by omega)
        refine (apartL (bk2.below hW) ⟨by simp, fun i a m h => by simp at h⟩ hgW ⟨by simp, fun i a m h => by simp at h⟩).mono ?_
        rintro e w8 ⟨rfl, ht8⟩
        have hbl : ∀ k ∈ itB ([] : List Item) ++ (itB ([] ++ [(a1, wayN hop S)] ++ [(a2, wayN hop S)]) ++ itB []), w.heap.size ≤ k ∧ k ≠ g ∧ ∃ cur, Blk W k cur 3 := fun k hk => by
          simp only [itB, blks, List.length_nil, List.range_zero, List.filter_nil, List.map_nil, List.nil_append, List.append_nil] at hk
          have hk' : k ∈ itB [(a1, wayN hop S), (a2, wayN hop S)] := by simpa [itB, blks] using hk
          obtain ⟨j, a, m, cur, hj, hm0, rfl, hc⟩ := mem_itB hgW hk'
          have hkg : k < w6.heap.size ∧ w.heap.size ≤ k := by
            match j, hj with
            | 0, hj =>
              simp at hj
              exact hl1.out k (by omega) hj.1
            | 1, hj =>
              simp at hj
              exact hl2.out k (by omega) hj.1
            | j + 2, hj => simp at hj
          exact ⟨hkg.2, by omega, cur, hc⟩
        refine ⟨rfl, ?_, ?_, ?_⟩
        · exact ht8.below (hb7'.trans (hW.mono hb7'.size)) (Nat.le_trans hb7'.size hW.size) (fun k hk => (hbl k hk).1)
        · exact (hT7.below hW).touchInt ht8 (fun k hk => (hbl k hk).2.2)
        · obtain ⟨cur, hc, r⟩ := htw
          exact ⟨cur, (hc.below hW hg7).touch ht8 (fun hm => (hbl g hm).2.1 rfl), r⟩
      obtain ⟨r, S', hS', hz', CX, CY⟩ := sends_any w p q bR hop i g (M i) c v S (A i) (C i) (L i) hh (by omega) hz.out hle hle2 hrd.out
      replace CX := Lib.hid CX
      replace CY := Lib.hid CY
      clear bk2 it1 it2 hl1 hl2 hgood hT7 htw hlt1
      go_upto_region 25 with fail
      refine wp_cut (fun a wx => (Below w.heap.size w wx ∧ ∃ v' S', S'.length ≤ i + 1 ∧ Two w.heap.size wx p q bR hop v' S') ∧ a.tmps.size = 133 ∧ a.defers = [] ∧ slot a 1 = .slice (some ⟨b, o, none⟩) n cap ∧ slot a 5 = .pointer (some ⟨p, 0, none⟩) ∧ slot a 7 = .pointer (some ⟨bR, 0, none⟩) ∧ slot a 9 = .int .i64 i ∧ slot a 131 = .bool false) ?_ ?_
      · intro K' hK'
        have hwi : IntKind.i64.wrap (i : Int) = i := wrap_i64_small _ (by omega) (by omega)
        have hne : (r != r) = false := by simp
        have hSw : IntKind.i64.wrap (S'.length : Int) = S'.length := wrap_i64_small _ (by omega) (by omega)
        have hlx := World.block_lt_of_cell? w _ hx0
        have hcl : Hid (∀ W, Below w.heap.size w W → W.cell? ⟨b, o + i, none⟩ = some (.slice (A i) (M i) (C i))) := fun W h => below_cell hx0 h hlx
        have d7 := hcl.out _ (hb7'.drew)
        refine wp_region_held_drew (S := fun W => W.cell? ⟨b, o + i, none⟩ = some (.slice (A i) (M i) (C i))) (by kernel_rfl) d7 (fun hHeld => ?_)
        refine wpAnyH_ready (rs := [0]) (by kernel_rfl) (by simp) ?_
        refine AllReadyH.cons (o := { dst := some 99, op := .call { callee := .value (.func 21), args := #[.tmp 15], argTypes := #[_] }, type := _, pos := _, after := _, guard := _ }) rfl (fun K hK => ?_) AllReadyH.nil
        go_simp
        refine (CA.out _ (Below.refl _ _).drew).mono ?_
        rintro e w8 ⟨rfl, hb8, hT8, ht8⟩
        have d8 := hcl.out _ hb8
        go_wp2_with fail
        refine hK.out _ _ d8 (fun _ => ?_)
        clear hK K
        try simp only [Act.put, List.setIfInBounds_toArray, List.set_cons_zero, List.set_cons_succ]
        refine wpAnyH_take (i := 1) (oi := { dst := some 100, op := .unOp .not _ (.tmp 99), type := _, pos := _, after := _, guard := _ }) (v := ?_) rfl (by kernel_rfl) (by kernel_rfl) (by kernel_rfl) (fun _ _ _ h => h) (Or.inl ⟨by rfl, ?_⟩) (by assumption) ?_
        rotate_left
        · (intro w hSw; go_simp) <;> with_reducible rfl
        simp only [Act.put, List.setIfInBounds_toArray, List.set_cons_zero, List.set_cons_succ]
        refine wpAnyH_take (i := 2) (oi := { dst := some 101, op := .move (.tmp 100), type := _, pos := _, after := _, guard := _ }) (v := ?_) rfl (by kernel_rfl) (by kernel_rfl) (by kernel_rfl) (fun _ _ _ h => h) (Or.inl ⟨by rfl, ?_⟩) (by assumption) ?_
        rotate_left
        · (intro w hSw; go_simp) <;> with_reducible rfl
        simp only [Act.put, List.setIfInBounds_toArray, List.set_cons_zero, List.set_cons_succ]
        refine wpAnyH_take (i := 3) (oi := { dst := some 102, op := .move (.tmp 5), type := _, pos := _, after := _, guard := _ }) (v := ?_) rfl (by kernel_rfl) (by kernel_rfl) (by kernel_rfl) (fun _ _ _ h => h) (Or.inl ⟨by rfl, ?_⟩) (by assumption) ?_
        rotate_left
        · (intro w hSw; go_simp) <;> with_reducible rfl
        simp only [Act.put, List.setIfInBounds_toArray, List.set_cons_zero, List.set_cons_succ]
        refine wpAnyH_take (i := 4) (oi := { dst := some 103, op := .move (.tmp 16), type := _, pos := _, after := _, guard := _ }) (v := ?_) rfl (by kernel_rfl) (by kernel_rfl) (by kernel_rfl) (fun _ _ _ h => h) (Or.inl ⟨by rfl, ?_⟩) (by assumption) ?_
        rotate_left
        · (intro w hSw; go_simp) <;> with_reducible rfl
        simp only [Act.put, List.setIfInBounds_toArray, List.set_cons_zero, List.set_cons_succ]
        refine wpAnyH_take (i := 6) (oi := { dst := some 105, op := .move (.tmp 7), type := _, pos := _, after := _, guard := _ }) (v := ?_) rfl (by kernel_rfl) (by kernel_rfl) (by kernel_rfl) (fun _ _ _ h => h) (Or.inl ⟨by rfl, ?_⟩) (by assumption) ?_
        rotate_left
        · (intro w hSw; go_simp) <;> with_reducible rfl
        simp only [Act.put, List.setIfInBounds_toArray, List.set_cons_zero, List.set_cons_succ]
        refine wpAnyH_take (i := 7) (oi := { dst := some 106, op := .move (.tmp 1), type := _, pos := _, after := _, guard := _ }) (v := ?_) rfl (by kernel_rfl) (by kernel_rfl) (by kernel_rfl) (fun _ _ _ h => h) (Or.inl ⟨by rfl, ?_⟩) (by assumption) ?_
        rotate_left
        · (intro w hSw; go_simp) <;> with_reducible rfl
        simp only [Act.put, List.setIfInBounds_toArray, List.set_cons_zero, List.set_cons_succ]
        refine wpAnyH_take (i := 8) (oi := { dst := some 107, op := .move (.tmp 9), type := _, pos := _, after := _, guard := _ }) (v := ?_) rfl (by kernel_rfl) (by kernel_rfl) (by kernel_rfl) (fun _ _ _ h => h) (Or.inl ⟨by rfl, ?_⟩) (by assumption) ?_
        rotate_left
        · (intro w hSw; go_simp) <;> with_reducible rfl
        simp only [Act.put, List.setIfInBounds_toArray, List.set_cons_zero, List.set_cons_succ]
        refine wpAnyH_take (i := 9) (oi := { dst := some 108, op := .indexAddr _ (.tmp 106) (.tmp 107), type := _, pos := _, after := _, guard := _ }) (v := ?_) rfl (by kernel_rfl) (by kernel_rfl) (by kernel_rfl) (fun _ _ _ h => h) (Or.inl ⟨by rfl, ?_⟩) (by assumption) ?_
        rotate_left
        · (intro w hSw; go_simp) <;> with_reducible rfl
        simp only [Act.put, List.setIfInBounds_toArray, List.set_cons_zero, List.set_cons_succ]
        refine wpAnyH_take (i := 10) (oi := { dst := some 109, op := .load _ (.tmp 108), type := _, pos := _, after := _, guard := _ }) (v := ?_) rfl (by kernel_rfl) (by kernel_rfl) (by kernel_rfl) (fun _ _ _ h => h) (Or.inl ⟨by rfl, ?_⟩) (by assumption) ?_
        rotate_left
        · (intro w hSw; go_simp) <;> with_reducible rfl
        simp only [Act.put, List.setIfInBounds_toArray, List.set_cons_zero, List.set_cons_succ]
        refine wpAnyH_ready (rs := [5]) (by kernel_rfl) (by simp) ?_
        refine AllReadyH.cons (o := { dst := some 104, op := .call { callee := .value (.func 22), args := #[.tmp 102, .tmp 103], argTypes := #[_, _] }, type := _, pos := _, after := _, guard := _ }) rfl (fun K hK => ?_) AllReadyH.nil
        go_simp
        refine (CX.out _ hb8 hT8 ht8).mono ?_
        rintro e w9 ⟨rfl, hb9, hA9, hR9, ht9⟩
        have d9 := hcl.out _ hb9
        go_wp2_with fail
        refine hK.out _ _ d9 (fun _ => ?_)
        clear hK K
        try simp only [Act.put, List.setIfInBounds_toArray, List.set_cons_zero, List.set_cons_succ]
        refine wpAnyH_ready (rs := [11]) (by kernel_rfl) (by simp) ?_
        refine AllReadyH.cons (o := { dst := some 110, op := .call { callee := .value (.func 23), args := #[.tmp 105, .tmp 109], argTypes := #[_, _] }, type := _, pos := _, after := _, guard := _ }) rfl (fun K hK => ?_) AllReadyH.nil
        go_simp
        refine (CY.out _ hb9 hA9 hR9 ht9).mono ?_
        rintro e w10 ⟨rfl, hb10, ⟨v', hT10⟩, ht10⟩
        have d10 := hcl.out _ hb10
        obtain ⟨ao, cp, rfl, _⟩ := hT10.2.1.slice
        have hy : w10.cell? ⟨bR, 1, none⟩ = some (.slice ao (List.length S') cp) := hT10.2.1.blk.cell (i := 1) rfl
        go_wp2_with fail
        refine hK.out _ _ d10 (fun _ => ?_)
        clear hK K
        try simp only [Act.put, List.setIfInBounds_toArray, List.set_cons_zero, List.set_cons_succ]
        refine wpAnyH_mono (S := fun W => ∃ m, W = w10.drewN m) (fun W ⟨m, hW⟩ => by rw [hW]; exact d10) ?_
        clear hHeld d7 d8 d9
        refine wpAnyH_take (i := 12) (oi := { dst := some 111, op := .binOp .neq _ (.tmp 104) (.tmp 110) _, type := _, pos := _, after := _, guard := _ }) (v := ?_) rfl (by kernel_rfl) (by kernel_rfl) (by kernel_rfl) (fun _ _ _ h => h) (Or.inl ⟨by rfl, ?_⟩) ⟨0, rfl⟩ ?_
        rotate_left
        · (intro w hSw; obtain ⟨m, rfl⟩ := hSw; go_simp) <;> with_reducible rfl
        simp only [Act.put, List.setIfInBounds_toArray, List.set_cons_zero, List.set_cons_succ]
        refine wpAnyH_take (i := 13) (oi := { dst := some 112, op := .pick (.tmp 101) (.const (.bool true)) (.tmp 111), type := _, pos := _, after := _, guard := _ }) (v := ?_) rfl (by kernel_rfl) (by kernel_rfl) (by kernel_rfl) (fun _ _ _ h => h) (Or.inl ⟨by rfl, ?_⟩) ⟨0, rfl⟩ ?_
        rotate_left
        · (intro w hSw; obtain ⟨m, rfl⟩ := hSw; go_simp) <;> with_reducible rfl
        simp only [Act.put, List.setIfInBounds_toArray, List.set_cons_zero, List.set_cons_succ]
        refine wpAnyH_take (i := 14) (oi := { dst := some 113, op := .move (.tmp 112), type := _, pos := _, after := _, guard := _ }) (v := ?_) rfl (by kernel_rfl) (by kernel_rfl) (by kernel_rfl) (fun _ _ _ h => h) (Or.inl ⟨by rfl, ?_⟩) ⟨0, rfl⟩ ?_
        rotate_left
        · (intro w hSw; obtain ⟨m, rfl⟩ := hSw; go_simp) <;> with_reducible rfl
        simp only [Act.put, List.setIfInBounds_toArray, List.set_cons_zero, List.set_cons_succ]
        refine wpAnyH_take (i := 15) (oi := { dst := some 114, op := .move (.tmp 5), type := _, pos := _, after := _, guard := _ }) (v := ?_) rfl (by kernel_rfl) (by kernel_rfl) (by kernel_rfl) (fun _ _ _ h => h) (Or.inl ⟨by rfl, ?_⟩) ⟨0, rfl⟩ ?_
        rotate_left
        · (intro w hSw; obtain ⟨m, rfl⟩ := hSw; go_simp) <;> with_reducible rfl
        simp only [Act.put, List.setIfInBounds_toArray, List.set_cons_zero, List.set_cons_succ]
        refine wpAnyH_take (i := 17) (oi := { dst := some 116, op := .move (.tmp 7), type := _, pos := _, after := _, guard := _ }) (v := ?_) rfl (by kernel_rfl) (by kernel_rfl) (by kernel_rfl) (fun _ _ _ h => h) (Or.inl ⟨by rfl, ?_⟩) ⟨0, rfl⟩ ?_
        rotate_left
        · (intro w hSw; obtain ⟨m, rfl⟩ := hSw; go_simp) <;> with_reducible rfl
        simp only [Act.put, List.setIfInBounds_toArray, List.set_cons_zero, List.set_cons_succ]
        refine wpAnyH_take (i := 18) (oi := { dst := some 117, op := .nilCheck (.tmp 116), type := _, pos := _, after := _, guard := _ }) (v := ?_) rfl (by kernel_rfl) (by kernel_rfl) (by kernel_rfl) (fun _ _ _ h => h) (Or.inl ⟨by rfl, ?_⟩) ⟨0, rfl⟩ ?_
        rotate_left
        · (intro w hSw; obtain ⟨m, rfl⟩ := hSw; go_simp) <;> with_reducible rfl
        simp only [Act.put, List.setIfInBounds_toArray, List.set_cons_zero, List.set_cons_succ]
        refine wpAnyH_take (i := 19) (oi := { dst := some 118, op := .fieldAddr _ (.tmp 117) 1, type := _, pos := _, after := _, guard := _ }) (v := ?_) rfl (by kernel_rfl) (by kernel_rfl) (by kernel_rfl) (fun _ _ _ h => h) (Or.inl ⟨by rfl, ?_⟩) ⟨0, rfl⟩ ?_
        rotate_left
        · (intro w hSw; obtain ⟨m, rfl⟩ := hSw; go_simp) <;> with_reducible rfl
        simp only [Act.put, List.setIfInBounds_toArray, List.set_cons_zero, List.set_cons_succ]
        refine wpAnyH_take (i := 20) (oi := { dst := some 119, op := .load _ (.tmp 118), type := _, pos := _, after := _, guard := _ }) (v := ?_) rfl (by kernel_rfl) (by kernel_rfl) (by kernel_rfl) (fun _ _ _ h => h) (Or.inl ⟨by rfl, ?_⟩) ⟨0, rfl⟩ ?_
        rotate_left
        · (intro w hSw; obtain ⟨m, rfl⟩ := hSw; go_simp) <;> with_reducible rfl
        simp only [Act.put, List.setIfInBounds_toArray, List.set_cons_zero, List.set_cons_succ]
        refine wpAnyH_take (i := 21) (oi := { dst := some 120, op := .call { callee := .builtin .len, args := #[.tmp 119], argTypes := #[_] }, type := _, pos := _, after := _, guard := _ }) (v := ?_) rfl (by kernel_rfl) (by kernel_rfl) (by kernel_rfl) (fun _ _ _ h => h) (Or.inl ⟨by rfl, ?_⟩) ⟨0, rfl⟩ ?_
        rotate_left
        · (intro w hSw; obtain ⟨m, rfl⟩ := hSw; go_simp) <;> with_reducible rfl
        simp only [Act.put, List.setIfInBounds_toArray, List.set_cons_zero, List.set_cons_succ]
        refine wpAnyH_ready (rs := [16]) (by kernel_rfl) (by simp) ?_
        refine AllReadyH.cons (o := { dst := some 115, op := .call { callee := .value (.func 24), args := #[.tmp 114], argTypes := #[_] }, type := _, pos := _, after := _, guard := _ }) rfl (fun K hK => ?_) AllReadyH.nil
        go_simp
        refine (ticksInt _ _ _ _ _ _ (by omega) hT10.1).mono ?_
        rintro e _ ⟨rfl, rfl⟩
        go_wp2_with fail
        refine hK.out _ _ ⟨0, rfl⟩ (fun _ => ?_)
        clear hK K
        try simp only [Act.put, List.setIfInBounds_toArray, List.set_cons_zero, List.set_cons_succ]
        refine wpAnyH_take (i := 22) (oi := { dst := some 121, op := .binOp .neq _ (.tmp 115) (.tmp 120) _, type := _, pos := _, after := _, guard := _ }) (v := ?_) rfl (by kernel_rfl) (by kernel_rfl) (by kernel_rfl) (fun _ _ _ h => h) (Or.inl ⟨by rfl, ?_⟩) ⟨0, rfl⟩ ?_
        rotate_left
        · (intro w hSw; obtain ⟨m, rfl⟩ := hSw; go_simp) <;> with_reducible rfl
        simp only [Act.put, List.setIfInBounds_toArray, List.set_cons_zero, List.set_cons_succ]
        refine wpAnyH_take (i := 23) (oi := { dst := some 122, op := .pick (.tmp 113) (.const (.bool true)) (.tmp 121), type := _, pos := _, after := _, guard := _ }) (v := ?_) rfl (by kernel_rfl) (by kernel_rfl) (by kernel_rfl) (fun _ _ _ h => h) (Or.inl ⟨by rfl, ?_⟩) ⟨0, rfl⟩ ?_
        rotate_left
        · (intro w hSw; obtain ⟨m, rfl⟩ := hSw; go_simp) <;> with_reducible rfl
        simp only [Act.put, List.setIfInBounds_toArray, List.set_cons_zero, List.set_cons_succ]
        refine wpAnyH_take (i := 24) (oi := { dst := some 123, op := .move (.tmp 122), type := _, pos := _, after := _, guard := _ }) (v := ?_) rfl (by kernel_rfl) (by kernel_rfl) (by kernel_rfl) (fun _ _ _ h => h) (Or.inl ⟨by rfl, ?_⟩) ⟨0, rfl⟩ ?_
        rotate_left
        · (intro w hSw; obtain ⟨m, rfl⟩ := hSw; go_simp) <;> with_reducible rfl
        simp only [Act.put, List.setIfInBounds_toArray, List.set_cons_zero, List.set_cons_succ]
        refine wpAnyH_take (i := 25) (oi := { dst := some 124, op := .move (.tmp 16), type := _, pos := _, after := _, guard := _ }) (v := ?_) rfl (by kernel_rfl) (by kernel_rfl) (by kernel_rfl) (fun _ _ _ h => h) (Or.inl ⟨by rfl, ?_⟩) ⟨0, rfl⟩ ?_
        rotate_left
        · (intro w hSw; obtain ⟨m, rfl⟩ := hSw; go_simp) <;> with_reducible rfl
        simp only [Act.put, List.setIfInBounds_toArray, List.set_cons_zero, List.set_cons_succ]
        refine wpAnyH_take (i := 26) (oi := { dst := some 125, op := .move (.tmp 1), type := _, pos := _, after := _, guard := _ }) (v := ?_) rfl (by kernel_rfl) (by kernel_rfl) (by kernel_rfl) (fun _ _ _ h => h) (Or.inl ⟨by rfl, ?_⟩) ⟨0, rfl⟩ ?_
        rotate_left
        · (intro w hSw; obtain ⟨m, rfl⟩ := hSw; go_simp) <;> with_reducible rfl
        simp only [Act.put, List.setIfInBounds_toArray, List.set_cons_zero, List.set_cons_succ]
        refine wpAnyH_take (i := 27) (oi := { dst := some 126, op := .move (.tmp 9), type := _, pos := _, after := _, guard := _ }) (v := ?_) rfl (by kernel_rfl) (by kernel_rfl) (by kernel_rfl) (fun _ _ _ h => h) (Or.inl ⟨by rfl, ?_⟩) ⟨0, rfl⟩ ?_
        rotate_left
        · (intro w hSw; obtain ⟨m, rfl⟩ := hSw; go_simp) <;> with_reducible rfl
        simp only [Act.put, List.setIfInBounds_toArray, List.set_cons_zero, List.set_cons_succ]
        refine wpAnyH_take (i := 28) (oi := { dst := some 127, op := .indexAddr _ (.tmp 125) (.tmp 126), type := _, pos := _, after := _, guard := _ }) (v := ?_) rfl (by kernel_rfl) (by kernel_rfl) (by kernel_rfl) (fun _ _ _ h => h) (Or.inl ⟨by rfl, ?_⟩) ⟨0, rfl⟩ ?_
        rotate_left
        · (intro w hSw; obtain ⟨m, rfl⟩ := hSw; go_simp) <;> with_reducible rfl
        simp only [Act.put, List.setIfInBounds_toArray, List.set_cons_zero, List.set_cons_succ]
        refine wpAnyH_take (i := 29) (oi := { dst := some 128, op := .load _ (.tmp 127), type := _, pos := _, after := _, guard := _ }) (v := ?_) rfl (by kernel_rfl) (by kernel_rfl) (by kernel_rfl) (fun _ _ _ h => h) (Or.inl ⟨by rfl, ?_⟩) ⟨0, rfl⟩ ?_
        rotate_left
        · (intro w hSw; obtain ⟨m, rfl⟩ := hSw; go_simp) <;> with_reducible rfl
        simp only [Act.put, List.setIfInBounds_toArray, List.set_cons_zero, List.set_cons_succ]
        refine wpAnyH_ready (rs := [30]) (by kernel_rfl) (by simp) ?_
        refine AllReadyH.cons (o := { dst := some 129, op := .call { callee := .value (.func 25), args := #[.tmp 124, .tmp 128], argTypes := #[_, _] }, type := _, pos := _, after := _, guard := _ }) rfl (fun K hK => ?_) AllReadyH.nil
        go_simp
        refine (leftNums _ _ _ _ _ _ _ ht10 (hrd.out.below hb10 (Nat.le_refl _))).mono ?_
        rintro e w12 ⟨rfl, m12, rfl⟩
        have hb12 := bdrewN hb10 m12
        have d12 := hcl.out _ hb12
        go_wp2_with fail
        refine hK.out _ _ ⟨m12, rfl⟩ (fun _ => ?_)
        clear hK K
        try simp only [Act.put, List.setIfInBounds_toArray, List.set_cons_zero, List.set_cons_succ]
        refine wpAnyH_take (i := 31) (oi := { dst := some 130, op := .unOp .not _ (.tmp 129), type := _, pos := _, after := _, guard := _ }) (v := ?_) rfl (by kernel_rfl) (by kernel_rfl) (by kernel_rfl) (fun _ _ _ h => h) (Or.inl ⟨by rfl, ?_⟩) ⟨m12, rfl⟩ ?_
        rotate_left
        · (intro w hSw; obtain ⟨m, rfl⟩ := hSw; go_simp) <;> with_reducible rfl
        simp only [Act.put, List.setIfInBounds_toArray, List.set_cons_zero, List.set_cons_succ]
        refine wpAnyH_take (i := 32) (oi := { dst := some 131, op := .pick (.tmp 123) (.const (.bool true)) (.tmp 130), type := _, pos := _, after := _, guard := _ }) (v := ?_) rfl (by kernel_rfl) (by kernel_rfl) (by kernel_rfl) (fun _ _ _ h => h) (Or.inl ⟨by rfl, ?_⟩) ⟨m12, rfl⟩ ?_
        rotate_left
        · (intro w hSw; obtain ⟨m, rfl⟩ := hSw; go_simp) <;> with_reducible rfl
        simp only [Act.put, List.setIfInBounds_toArray, List.set_cons_zero, List.set_cons_succ]
        refine wpAnyH_done (by kernel_rfl) ?_ _
        go_wp2_with fail
        refine hK' _ _ trivial ⟨⟨hb12, _, S', by omega, hT10.below (bdrewN (Below.refl _ _) m12)⟩, by kernel_rfl, rfl, by kernel_rfl, by kernel_rfl, by kernel_rfl, by kernel_rfl, by kernel_rfl⟩
      clear hx CX CY CA hr7
      rintro a wx ⟨⟨hbr, v', S1, hS1, hT⟩, hs', hd', k1', k5', k7', k9', k131'⟩; rw [fr133 a hs' hd']; simp only [k1', k5', k7', k9', k131']; clear hs' hd' k1' k5' k7' k9' k131'
      go_wp2_with fail
      refine hK (n - (i + 1)) _ _ (by omega) ⟨i + 1, v', S1, by omega, hS1, hbr, hT, by kernel_rfl, rfl, by kernel_rfl, by kernel_rfl, by kernel_rfl, ?_⟩
      show Value.int _ _ = Value.int _ _
      simp
    · have hm1 : decide ((100 : Int) < (M i : Int)) = true := by simp; omega
      go_wp2_with fail
      refine (lives07 _).mono ?_
      rintro e wx ⟨rfl, hbL⟩
      go_wp2_with fail
      go_ret
      exact ⟨rfl, hbr.trans (hbL.mono hbr.size)⟩
  · go_wp2_with fail
    refine (lives07 _).mono ?_
    rintro e wx ⟨rfl, hbL⟩
    go_wp2_with fail
    go_ret
    exact ⟨rfl, hbr.trans (hbL.mono hbr.size)⟩
end Go.Proofs.Ytagmbdoajafejaa
