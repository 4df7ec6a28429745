/- CatchesChain: the walk. -/
import Derived.Test.YtbfbpagfmhdblaaCatchesCutW
import Derived.Laws.StructEq
namespace Go.Proofs.Ytbfbpagfmhdblaa
open Go.RowKit
set_option linter.unusedSimpArgs false
set_option linter.unusedVariables false
set_option maxRecDepth 100000
theorem elemSS : (Try.prog.info? 40).map (fun i => (i.zero, i.size, i.bytes)) = some (some (.slice none 0 0), 1, 24) := by kernel_rfl
/-- Where the two inputs are unlike at a place a catch is not high. -/
theorem high_unlike {o : Int} {N F : Nat → Int} {i : Nat} (hi : i < 114) (h : N i ≠ F i) : highQ o N F = false := by
  cases hh : highQ o N F with
  | false => rfl
  | true =>
    obtain ⟨_, h2, _, h4, h5⟩ := high_iff.1 hh
    rcases Nat.lt_or_ge i 113 with h3 | h3
    · exact absurd (h2 i h3).1 h
    · obtain rfl : i = 113 := by omega
      exact absurd (h4.trans h5.symm) h
theorem high_last {o : Int} {X : Nat → Int} {F : Nat → Int} (h : X 113 ≠ 1) : highQ o (knL X 114) F = false := by
  cases hh : highQ o (knL X 114) F with
  | false => rfl
  | true =>
    obtain ⟨_, _, _, h4, _⟩ := high_iff.1 hh
    have := (knL_some (X := X) (n := 114) (i := 113) (by rw [h4]; decide)).2.1
    exact absurd (this.symm.trans h4) h
/-- The list that is another one. -/
def badL (SL : Nat → Int) (place : Nat) (x : Int) (i : Nat) : Int := if i = place then x else SL i
theorem badL_known {SL : Nat → Int} {place : Nat} {x : Int} (hS : ∀ p, p < 114 → SL p = 1 ∨ SL p = 2) (hp : place < 114) (hx : x = 0 ∨ x = 3 - SL place) : knL (badL SL place x) 114 place ≠ SL place := by
  have h1 := hS place hp
  rw [knL, if_pos hp, badL, if_pos rfl]
  rcases hx with rfl | rfl
  · have : knownI 0 = 0 := rfl
    omega
  · rw [knownI_one (by omega)]
    omega
theorem own_lower {w : World} {B n : Nat} {e : TypeId} {v : Value} {xs : List Value} (h : w.ownsRow B e 1 v n xs) : w.ownsRow 0 e 1 v n xs :=
  ⟨h.1, h.2.imp id (fun ⟨g, cap, cur, h1, h2, h3⟩ => ⟨g, cap, cur, h1, Nat.zero_le _, h3⟩)⟩
theorem Mine.grown {k : IntKind} {E e : TypeId} {B B' m : Nat} {w w' : World} {a : Option Addr} {n : Nat} {L : Nat → Int} {v : Value} {xs : List Value} (h : Mine k E B w a n L) (hg : w.grownBy w' v.ownBlock) (hown : w.ownsRow B' e 1 v m xs) (hne : e ≠ E) : Mine k E B w' a n L := fun hn => by
  obtain ⟨g, cur, h1, h2, h3, h4⟩ := h hn
  exact ⟨g, cur, h1, h2, Blk.grown h3 hg (fun e' => own_ne hown h3 hne e'.symm), h4⟩
/-- A cell of a list of the call's own. -/
theorem own_cell {w : World} {B n i : Nat} {e : TypeId} {v u : Value} {xs : List Value} (h : w.ownsRow B e 1 v n xs) (hi : xs[i]? = some u) : ∃ g c, v = .slice (some ⟨g, 0, none⟩) n c ∧ n ≤ c ∧ c ≤ 9223372036854775807 ∧ w.cell? ⟨g, i, none⟩ = some u ∧ B ≤ g ∧ g < w.heap.size := by
  have hl := h.1
  have hil : i < xs.length := (List.getElem?_eq_some_iff.1 hi).1
  rcases h.2 with ⟨rfl, h0⟩ | ⟨g, cap, cur, rfl, h2, h3, h4, h5, h6, h7⟩
  · omega
  · refine ⟨g, cap, rfl, h4, by unfold maxLen at h5; omega, Blk.cell (show Blk w g cur e from h3) ?_, h2, (show Blk w g cur e from h3).lt⟩
    rw [← h7, List.getElem?_take] at hi
    split at hi
    · simpa using hi
    · simp at hi
def InvCh (w2 : World) (P Z : Nat) (oo : Int) (s : Option Addr) (many bad place : Nat) (SL : Nat → Int) (k' : Nat) (a : Act) (wr : World) : Prop :=
  ∃ (k : Nat) (vo : Value) (xs : List Value) (a1 : Option Addr) (c1 : Nat) (a2 : Option Addr) (c2 : Nat) (X1 X2 : Nat → Int), k + k' = many ∧ Below w2.heap.size w2 wr ∧ wr.ownsRow w2.heap.size 40 1 vo (k + 2) xs ∧ xs[k + 1]? = some (.slice a1 114 c1) ∧ xs[k]? = some (.slice a2 114 c2) ∧
    Mine .u8 77 0 wr a1 114 X1 ∧ Mine .u8 77 0 wr a2 114 X2 ∧ (114 ≤ c1 ∧ c1 ≤ 9223372036854775807) ∧ (114 ≤ c2 ∧ c2 ≤ 9223372036854775807) ∧
    (k ≤ bad → (∀ i, i < 114 → X1 i = SL i) ∧ ∀ i, i < 114 → X2 i = SL i) ∧ (bad < k → X1 113 ≠ 1) ∧ a.tmps.size = 135 ∧ a.defers = [] ∧ slot a 4 = .pointer (some ⟨P, 0, none⟩) ∧ slot a 5 = .pointer (some ⟨Z, 0, none⟩) ∧ slot a 7 = .int .i64 oo ∧ slot a 8 = .slice s 114 114 ∧ slot a 9 = .int .i64 many ∧ slot a 10 = .int .i64 bad ∧ slot a 11 = .int .i64 place ∧ slot a 12 = vo ∧ slot a 13 = .int .i64 k
set_option maxHeartbeats 8000000 in
theorem catchesChain_any (w : World) (o k st sq v : Int) (z0 z1 z2 z3 : Nat) (ho : 0 ≤ o ∧ o < 256) (hk : 0 ≤ k ∧ k < 256) (hst : 0 ≤ st ∧ st < 256) (hsq : 0 ≤ sq ∧ sq < 4294967296) (hv : 0 ≤ v ∧ v < 4294967296) (hz0 : z0 < 256) (hz1 : z1 < 256) (hz2 : z2 < 256) (hz3 : z3 < 256) :
    Calls Try.prog 9 #[.int .u8 o, payV k st sq v, .agg #[.int .u8 z0, .int .u8 z1, .int .u8 z2, .int .u8 z3]] w fun e w' => e = .returned (.bool true) ∧ Below w.heap.size w w' := by
  obtain ⟨j0, hj0, hy0, hy1, hy2⟩ := info_parts elemS
  obtain ⟨i0, hi0, hx0, hx1, hx2⟩ := info_parts elemSS
  obtain ⟨kk, hkk, hkk2⟩ : ∃ kk : Int, 1 + k % 2 = kk ∧ (kk = 1 ∨ kk = 2) := ⟨_, rfl, by omega⟩
  obtain ⟨oo, hoo, hoo2⟩ : ∃ oo : Int, o % 8 = oo ∧ 0 ≤ oo ∧ oo < 8 := ⟨_, rfl, by omega⟩
  have u1 : IntKind.u8.wrap (1 + k % 2) = kk := by rw [IntKind.wrap_u8]; omega
  have u2 : IntKind.i64.wrap oo = oo := wrap_i64_small _ (by omega) (by omega)
  obtain ⟨many, hmn, hmn2⟩ : ∃ F : Nat, 3 + (z0 : Int) % 16 = (F : Int) ∧ 3 ≤ F ∧ F < 19 := ⟨3 + z0 % 16, by omega, by omega⟩
  obtain ⟨bad, hbd, hbd2⟩ : ∃ F : Nat, (z1 : Int) % ((many : Int) + 1) = (F : Int) ∧ F ≤ many := ⟨z1 % (many + 1), by simp, by have := Nat.mod_lt z1 (show 0 < many + 1 by omega); omega⟩
  obtain ⟨place, hpl, hpl2⟩ : ∃ F : Nat, (z2 : Int) % 114 = (F : Int) ∧ F < 114 := ⟨z2 % 114, by omega, by omega⟩
  have u3 : IntKind.i64.wrap (many : Int) = many := wrap_i64_small _ (by omega) (by omega)
  have u4 : IntKind.i64.wrap ((many : Int) + 1) = many + 1 := wrap_i64_small _ (by omega) (by omega)
  have u5 : IntKind.i64.wrap (z1 : Int) = z1 := wrap_i64_small _ (by omega) (by omega)
  have u6 : IntKind.i64.wrap (z0 : Int) = z0 := wrap_i64_small _ (by omega) (by omega)
  have u7 : IntKind.i64.wrap (z2 : Int) = z2 := wrap_i64_small _ (by omega) (by omega)
  have u8' : ((many : Int) + 1 == 0) = false := by simp; omega
  have u9 : ¬ ((many : Int) + 1 = 0) := by omega
  have u10 : Int.tmod (z1 : Int) ((many : Int) + 1) = bad := by rw [Int.tmod_eq_emod_of_nonneg (by omega)]; exact hbd
  have hm : mayB oo kk = true := by simp [mayB]; omega
  have G := Lib.hid (fun W => lawGood W oo kk st sq v (by omega) hm hst hsq hv)
  have O := Lib.hid (fun W => lawOf W oo kk st sq v)
  have hSL := Lib.hid (frSL_one (o := oo) (k := kk) (st := st) (sq := sq) (v := v))
  have RG := Lib.hid (fun W a1 c1 X a2 c2 Y h1 h2 hX hY => runGood W oo kk st sq v hm hst hsq hv a1 c1 X a2 c2 Y h1 h2 hX hY)
  have RL := Lib.hid (fun W a1 c1 X a2 c2 Y (h1 : Rd .u8 W a1 114 X) (h2 : Rd .u8 W a2 114 Y) (hq : highQ oo (knL X 114) (knL Y 114) = false) => by
    have := lawRun W oo a1 114 c1 X a2 114 c2 Y hoo2 h1 h2 (.inl ⟨rfl, by omega⟩)
    rw [if_neg (by rw [hq]; simp), hq] at this
    exact this)
  generalize frSL oo kk st sq v true false = SL at *
  clear hm hsq hv hst
  unfold payV at *
  unfold frV at *
  go_enter Try.func9, Try.ntmps9
  go_wp2_with fail
  refine calls_abs (fun W => Below w.heap.size w W ∧ Blk W w.heap.size #[.int .u8 kk, .int .u8 st, .int .u32 sq, .int .u32 v] 25 ∧ Blk W (w.heap.size + 1) #[.int .u8 z0, .int .u8 z1, .int .u8 z2, .int .u8 z3] 79) ⟨(below_alloc _ _).trans ((below_alloc _ _).mono (by simp)), (Blk.new w _ _).alloc _, by have := Blk.new (w.alloc (.cells #[.int .u8 kk, .int .u8 st, .int .u32 sq, .int .u32 v] 25)) #[.int .u8 z0, .int .u8 z1, .int .u8 z2, .int .u8 z3] 79; simpa using this⟩ ?_
  rintro w1 ⟨hb1, hP1, hZ1⟩
  refine (G.out w1).mono ?_
  rintro e w2 ⟨s, rfl, m2, hb2⟩
  have hb02 := bthen hb1 hb2
  have hP2 := Lib.hid (hP1.below hb2 hP1.lt)
  have hZ2 := Lib.hid (hZ1.below hb2 hZ1.lt)
  obtain ⟨z00, z01, z02, z03⟩ := py_cells hZ2.out
  have hlP := hP2.out.lt
  have hlZ := hZ2.out.lt
  replace m2 := Lib.hid m2
  clear hZ1 hP1 hb1 hb2 G
  go_wp2_with fail
  have hb23 := below_alloc w2 (.cells #[.slice s 114 114, .slice s 114 114] 40)
  have hO3 : (w2.alloc (.cells #[.slice s 114 114, .slice s 114 114] 40)).ownsRow w2.heap.size 40 1 (.slice (some ⟨w2.heap.size, 0, none⟩) 2 2) 2 [.slice s 114 114, .slice s 114 114] :=
    ⟨rfl, .inr ⟨_, 2, _, rfl, Nat.le_refl _, Blk.new w2 _ _, Nat.le_refl _, by unfold maxLen; omega, rfl, rfl⟩⟩
  have m3 := (m2.out.mono (Nat.zero_le _)).below hb23 (Nat.le_refl _)
  generalize w2.alloc (.cells #[.slice s 114 114, .slice s 114 114] 40) = w3 at *
  simp only [hpl]
  refine wp_loop_k (InvCh w2 w.heap.size (w.heap.size + 1) oo s many bad place SL) many ?_ ?_
  · exact ⟨0, _, _, s, 114, s, 114, SL, SL, by omega, hb23, hO3, rfl, rfl, m3, m3, ⟨by omega, by omega⟩, ⟨by omega, by omega⟩, fun _ => ⟨fun _ _ => rfl, fun _ _ => rfl⟩, fun h => absurd h (by omega), by kernel_rfl, rfl, by kernel_rfl, by kernel_rfl, by kernel_rfl, by kernel_rfl, by kernel_rfl, by kernel_rfl, by kernel_rfl, by kernel_rfl, by kernel_rfl⟩
  clear m3 hO3 hb23 z00 z01 z02 z03 u1 u2 u3 u4 u5 u6 u7 u8' u9 u10 hmn hbd hpl
  intro gk a wr hI K hK
  obtain ⟨i, vo, xs, a1, c1, a2, c2, X1, X2, hi, hbw, hown, e1, e2, m1, m2', hc1, hc2, hgd, hbd', hs', hd', k4', k5', k7', k8', k9', k10', k11', k12', k13'⟩ := hI
  rw [fr135 a hs' hd']; simp only [k4', k5', k7', k8', k9', k10', k11', k12', k13']; clear hs' hd' k4' k5' k7' k8' k9' k10' k11' k12' k13'
  have hsz := hbw.size
  by_cases hil : i < many
  · have g1 : decide ((i : Int) < (many : Int)) = true := by simp; omega
    obtain ⟨g, cv, rfl, hcv, hcv', hcell1, hBg, hgl⟩ := own_cell hown e1
    obtain ⟨g', cv', e3, _, _, hcell2, _, _⟩ := own_cell hown e2
    simp only [Value.slice.injEq, Option.some.injEq, Addr.mk.injEq, and_true, true_and] at e3
    obtain ⟨rfl, rfl⟩ := e3
    have w1' : IntKind.i64.wrap (((i + 2 : Nat) : Int) - 1) = ((i + 1 : Nat) : Int) := by rw [wrap_i64_small _ (by omega) (by omega)]; omega
    have w2' : IntKind.i64.wrap (((i + 2 : Nat) : Int) - 2) = (i : Int) := by rw [wrap_i64_small _ (by omega) (by omega)]; omega
    have w3' : IntKind.i64.wrap ((i : Int) + 2 - 1) = ((i + 1 : Nat) : Int) := by rw [wrap_i64_small _ (by omega) (by omega)]; omega
    have w4' : IntKind.i64.wrap ((i : Int) + 2 - 2) = (i : Int) := by rw [wrap_i64_small _ (by omega) (by omega)]; omega
    have w5' : ((i + 1 : Nat) : Int) < ((i + 2 : Nat) : Int) := by omega
    have w6' : (i : Int) < ((i + 2 : Nat) : Int) := by omega
    replace hown := Lib.hid hown
    replace m1 := Lib.hid m1
    replace m2' := Lib.hid m2'
    replace hgd := Lib.hid hgd
    replace hbd' := Lib.hid hbd'
    replace e1 := Lib.hid e1
    replace e2 := Lib.hid e2
    go_upto_if 71 with fail
    refine wp_cut (fun a wx => ((∃ an cn af cf X Y, Below wr.heap.size wr wx ∧ Rd .u8 wx an 114 X ∧ Rd .u8 wx af 114 Y ∧ (i < bad → (∀ j, j < 114 → X j = SL j) ∧ ∀ j, j < 114 → Y j = SL j) ∧ (bad ≤ i → highQ oo (knL X 114) (knL Y 114) = false) ∧ slot a 14 = .slice an 114 cn ∧ slot a 15 = .slice af 114 cf)) ∧ a.tmps.size = 135 ∧ a.defers = [] ∧ slot a 4 = .pointer (some ⟨w.heap.size, 0, none⟩) ∧ slot a 5 = .pointer (some ⟨w.heap.size + 1, 0, none⟩) ∧ slot a 7 = .int .i64 oo ∧ slot a 8 = .slice s 114 114 ∧ slot a 9 = .int .i64 many ∧ slot a 10 = .int .i64 bad ∧ slot a 11 = .int .i64 place ∧ slot a 12 = .slice (some ⟨g, 0, none⟩) (i + 2) cv ∧ slot a 13 = .int .i64 i) ?_ ?_
    · intro K' hK'
      by_cases hib : i = bad
      · subst hib
        have b1 : decide ((i : Int) = (i : Int)) = true := by simp
        have b2 : ((i : Int) == (i : Int)) = true := by simp
        have b3 : decide (i = i) = true := by simp
        have b4 : (i == i) = true := by simp
        obtain ⟨hX1, hX2⟩ := hgd.out (by omega)
        have hsub : IntKind.u8.wrap (3 - SL place) = 3 - SL place := by have := hSL.out place hpl2; rw [IntKind.wrap_u8]; omega
        obtain ⟨ga1, e', -, -, -, -⟩ := m1.out.some (by omega)
        subst e'
        obtain ⟨ga2, e', -, -, -, -⟩ := m2'.out.some (by omega)
        subst e'
        replace hX1 := Lib.hid hX1
        replace hX2 := Lib.hid hX2
        have ipl : (place : Int) < 114 := by omega
        simp only [b1, b2, b3, b4]
        go_wp2_with (at_builtin; refine append_src rfl _ _ 40 rfl wr.heap.size 77 j0 (.int .u8 0) 1 Try.underlying40 hj0 hy0 hy1 hy2 rfl _ _ _ rfl (World.ownsRow_nil _ _ _ _) (some ⟨ga1, 0, none⟩) 114 c1 (nums .u8 X1 114) rfl (fun e => by simp at e) (nums_len _ _ _) (nums_news m1.out.rd) (nums_one _ _ _) (by omega) (by omega) (Nat.le_refl _) ?_)
        intro v5 w5 hown5 hg5 _
        have hb5 : Below wr.heap.size wr w5 := Below.grown (Below.refl _ _) hg5 (Nat.le_refl _) (by simp [Value.ownBlock])
        try simp only [Nat.zero_add, List.nil_append] at hown5
        obtain ⟨a5, c5, rfl, h5a, h5b, h5c, m5⟩ := own_mine hown5
        obtain ⟨g5, rfl, hg5a, hg5b, -, -⟩ := m5.some (by omega)
        clear hown5 hg5
        have hz5 := (py_cells (hZ2.out.below (hbw.trans (hb5.mono hsz)) hZ2.out.lt)).2.2.2
        cases hq2 : (bits .and .u8 (z3 : Int) 2 == 2) with
        | false =>
          have m6 := m5.congr hX1.out
          have hg6 := hg5a
          have hb6 := hb5
          clear m5 hb5 hg5a
          go_upto_region 19 with fail
          generalize w5 = w6 at *
          generalize g5 = g6 at *
          generalize c5 = c6 at *
          clear hz5
          have hz6 := (py_cells (hZ2.out.below (hbw.trans (hb6.mono hsz)) hZ2.out.lt)).2.2.2
          have hk6 := rd_cell m6.rd hpl2
          have hf6 : w6.frozen? ⟨g6, place, none⟩ = false := by
            obtain ⟨g', e', _, _, _, hf⟩ := m6.some (by omega)
            simp only [Option.some.injEq, Addr.mk.injEq, and_true] at e'
            subst e'
            exact hf place
          replace m6 := Lib.hid m6
          go_upto_region 20 with fail
          have m7 := m6.out.set place hpl2 (3 - SL place) (badL SL place (3 - SL place)) (fun j _ => rfl)
          have hb7 := hb6.setCell (p := ⟨g6, place, none⟩) hg6 (.int .u8 (3 - SL place))
          generalize w6.setCell ⟨g6, place, none⟩ (.int .u8 (3 - SL place)) = w7 at *
          clear hz6 hk6 hf6 m6 hb6
          have hz7 := (py_cells (hZ2.out.below (hbw.trans (hb7.mono hsz)) hZ2.out.lt)).2.2.2
          cases hq1 : (bits .and .u8 (z3 : Int) 1 == 1) with
          | false =>
            have x7 := Lib.hid m7.rd
            have hb8 := Lib.hid hb7
            clear m7 hb7
            go_wp2_with fail
            exact hK' _ _ trivial ⟨⟨some ⟨g6, 0, none⟩, c6, some ⟨ga2, 0, none⟩, c2, badL SL place (3 - SL place), X2, hb8.out, x7.out, m2'.out.rd.below hb8.out (Nat.le_refl _), fun h => absurd h (by omega), fun _ => high_unlike hpl2 (by rw [knL_one (X := X2) hpl2 (by rw [hX2 place hpl2]; exact hSL.out place hpl2), hX2 place hpl2]; exact badL_known hSL.out hpl2 (.inr rfl)), rfl, rfl⟩, by kernel_rfl, rfl, by kernel_rfl, by kernel_rfl, by kernel_rfl, by kernel_rfl, by kernel_rfl, by kernel_rfl, by kernel_rfl, by kernel_rfl, by kernel_rfl⟩
          | true =>
            have hf7 : w7.frozen? ⟨g6, place, none⟩ = false := by
              obtain ⟨g', e', _, _, _, hf⟩ := m7.some (by omega)
              simp only [Option.some.injEq, Addr.mk.injEq, and_true] at e'
              subst e'
              exact hf place
            have hk7 := rd_cell m7.rd hpl2
            replace m7 := Lib.hid m7
            go_upto_region 22 with fail
            have m8 := m7.out.set place hpl2 0 (badL SL place 0) (fun j _ => by unfold badL; split <;> rfl)
            have hb8 := hb7.setCell (p := ⟨g6, place, none⟩) hg6 (.int .u8 0)
            generalize w7.setCell ⟨g6, place, none⟩ (.int .u8 0) = w8 at *
            clear hz7 hk7 hf7 m7 hb7
            have hz8 := (py_cells (hZ2.out.below (hbw.trans (hb8.mono hsz)) hZ2.out.lt)).2.2.2
            have x8 := Lib.hid m8.rd
            replace hb8 := Lib.hid hb8
            clear m8
            go_wp2_with fail
            exact hK' _ _ trivial ⟨⟨some ⟨g6, 0, none⟩, c6, some ⟨ga2, 0, none⟩, c2, badL SL place 0, X2, hb8.out, x8.out, m2'.out.rd.below hb8.out (Nat.le_refl _), fun h => absurd h (by omega), fun _ => high_unlike hpl2 (by rw [knL_one (X := X2) hpl2 (by rw [hX2 place hpl2]; exact hSL.out place hpl2), hX2 place hpl2]; exact badL_known hSL.out hpl2 (.inl rfl)), rfl, rfl⟩, by kernel_rfl, rfl, by kernel_rfl, by kernel_rfl, by kernel_rfl, by kernel_rfl, by kernel_rfl, by kernel_rfl, by kernel_rfl, by kernel_rfl, by kernel_rfl⟩
        | true =>
          have x5 := Lib.hid (m2'.out.rd.below hb5 (Nat.le_refl _))
          go_wp2_with (at_builtin; refine append_src rfl _ _ 40 rfl w5.heap.size 77 j0 (.int .u8 0) 1 Try.underlying40 hj0 hy0 hy1 hy2 rfl _ _ _ rfl (World.ownsRow_nil _ _ _ _) (some ⟨ga2, 0, none⟩) 114 c2 (nums .u8 X2 114) rfl (fun e => by simp at e) (nums_len _ _ _) (nums_news x5.out) (nums_one _ _ _) (by omega) (by omega) (Nat.le_refl _) ?_)
          intro v6 w6 hown6 hg6' _
          have hb56 : Below w5.heap.size w5 w6 := Below.grown (Below.refl _ _) hg6' (Nat.le_refl _) (by simp [Value.ownBlock])
          try simp only [Nat.zero_add, List.nil_append] at hown6
          obtain ⟨a6, c6, rfl, h6a, h6b, h6c, m6⟩ := own_mine hown6
          obtain ⟨g6, rfl, hg6a, hg6b, -, -⟩ := m6.some (by omega)
          replace m6 := m6.congr hX2.out
          have hg6 := Nat.le_trans hb5.size hg6a
          have hb6 := bthen hb5 hb56
          clear hown6 hg6' m5 x5 hb5 hb56 hz5 hg6a
          go_upto_region 19 with fail
          have hz6 := (py_cells (hZ2.out.below (hbw.trans (hb6.mono hsz)) hZ2.out.lt)).2.2.2
          have hk6 := rd_cell m6.rd hpl2
          have hf6 : w6.frozen? ⟨g6, place, none⟩ = false := by
            obtain ⟨g', e', _, _, _, hf⟩ := m6.some (by omega)
            simp only [Option.some.injEq, Addr.mk.injEq, and_true] at e'
            subst e'
            exact hf place
          replace m6 := Lib.hid m6
          go_upto_region 20 with fail
          have m7 := m6.out.set place hpl2 (3 - SL place) (badL SL place (3 - SL place)) (fun j _ => rfl)
          have hb7 := hb6.setCell (p := ⟨g6, place, none⟩) hg6 (.int .u8 (3 - SL place))
          generalize w6.setCell ⟨g6, place, none⟩ (.int .u8 (3 - SL place)) = w7 at *
          clear hz6 hk6 hf6 m6 hb6
          have hz7 := (py_cells (hZ2.out.below (hbw.trans (hb7.mono hsz)) hZ2.out.lt)).2.2.2
          cases hq1 : (bits .and .u8 (z3 : Int) 1 == 1) with
          | false =>
            have x7 := Lib.hid m7.rd
            have hb8 := Lib.hid hb7
            clear m7 hb7
            go_wp2_with fail
            exact hK' _ _ trivial ⟨⟨some ⟨ga1, 0, none⟩, c1, some ⟨g6, 0, none⟩, c6, X1, badL SL place (3 - SL place), hb8.out, m1.out.rd.below hb8.out (Nat.le_refl _), x7.out, fun h => absurd h (by omega), fun _ => high_unlike hpl2 (by rw [knL_one hpl2 (by rw [hX1 place hpl2]; exact hSL.out place hpl2), hX1 place hpl2]; exact fun e => badL_known hSL.out hpl2 (.inr rfl) e.symm), rfl, rfl⟩, by kernel_rfl, rfl, by kernel_rfl, by kernel_rfl, by kernel_rfl, by kernel_rfl, by kernel_rfl, by kernel_rfl, by kernel_rfl, by kernel_rfl, by kernel_rfl⟩
          | true =>
            have hf7 : w7.frozen? ⟨g6, place, none⟩ = false := by
              obtain ⟨g', e', _, _, _, hf⟩ := m7.some (by omega)
              simp only [Option.some.injEq, Addr.mk.injEq, and_true] at e'
              subst e'
              exact hf place
            have hk7 := rd_cell m7.rd hpl2
            replace m7 := Lib.hid m7
            go_upto_region 22 with fail
            have m8 := m7.out.set place hpl2 0 (badL SL place 0) (fun j _ => by unfold badL; split <;> rfl)
            have hb8 := hb7.setCell (p := ⟨g6, place, none⟩) hg6 (.int .u8 0)
            generalize w7.setCell ⟨g6, place, none⟩ (.int .u8 0) = w8 at *
            clear hz7 hk7 hf7 m7 hb7
            have hz8 := (py_cells (hZ2.out.below (hbw.trans (hb8.mono hsz)) hZ2.out.lt)).2.2.2
            have x8 := Lib.hid m8.rd
            replace hb8 := Lib.hid hb8
            clear m8
            go_wp2_with fail
            exact hK' _ _ trivial ⟨⟨some ⟨ga1, 0, none⟩, c1, some ⟨g6, 0, none⟩, c6, X1, badL SL place 0, hb8.out, m1.out.rd.below hb8.out (Nat.le_refl _), x8.out, fun h => absurd h (by omega), fun _ => high_unlike hpl2 (by rw [knL_one hpl2 (by rw [hX1 place hpl2]; exact hSL.out place hpl2), hX1 place hpl2]; exact fun e => badL_known hSL.out hpl2 (.inl rfl) e.symm), rfl, rfl⟩, by kernel_rfl, rfl, by kernel_rfl, by kernel_rfl, by kernel_rfl, by kernel_rfl, by kernel_rfl, by kernel_rfl, by kernel_rfl, by kernel_rfl, by kernel_rfl⟩
      · have b1 : decide ((i : Int) = (bad : Int)) = false := by simp; omega
        have b2 : ((i : Int) == (bad : Int)) = false := by simp; omega
        have b3 : decide (i = bad) = false := by simp; omega
        have b4 : (i == bad) = false := by simp; omega
        simp only [b1, b2, b3, b4]
        go_wp2_with fail
        exact hK' _ _ trivial ⟨⟨a1, c1, a2, c2, X1, X2, Below.refl _ _, m1.out.rd, m2'.out.rd, fun h => hgd.out (by omega), fun h => high_last (hbd'.out (by omega)), rfl, rfl⟩, by kernel_rfl, rfl, by kernel_rfl, by kernel_rfl, by kernel_rfl, by kernel_rfl, by kernel_rfl, by kernel_rfl, by kernel_rfl, by kernel_rfl, by kernel_rfl⟩
    clear e2 hcell1 hcell2
    rintro a wx ⟨⟨an, cn, af, cf, X, Y, hbx, rX, rY, hl, hh, k14, k15⟩, hs', hd', k4', k5', k7', k8', k9', k10', k11', k12', k13'⟩; rw [fr135 a hs' hd']; simp only [k4', k5', k7', k8', k9', k10', k11', k12', k13']; clear hs' hd' k4' k5' k7' k8' k9' k10' k11' k12' k13'
    simp only [k14, k15]
    clear k14 k15
    replace rX := Lib.hid rX
    replace rY := Lib.hid rY
    by_cases hib : i < bad
    · have b1 : decide ((i : Int) < (bad : Int)) = true := by simp; omega
      have b2 : (i : Int) < (bad : Int) := by omega
      have R := Lib.hid (RG.out wx an cn X af cf Y rX.out rY.out (hl hib).1 (hl hib).2)
      obtain ⟨OL, hOL⟩ : ∃ OL, SL = OL := ⟨_, rfl⟩
      go_wp2_with fail
      refine R.out.mono ?_
      rintro e w4 ⟨a3, c3, rfl, hc3, hc3', mo, hb4⟩
      have hb45 := below_alloc w4 (.cells #[.int .i64 oo, .int .u8 kk, .int .u8 st, .int .u32 sq, .int .u32 v] 34)
      have hf5 := Blk.new w4 #[.int .i64 oo, .int .u8 kk, .int .u8 st, .int .u32 sq, .int .u32 v] 34
      have mo5 := mo.below hb45 (Nat.le_refl _)
      have hbx5 := bthen hb4 hb45
      go_upto_region 26 with fail
      generalize w4.alloc (.cells #[.int .i64 oo, .int .u8 kk, .int .u8 st, .int .u32 sq, .int .u32 v] 34) = w5 at *
      have hb56 : Below w5.heap.size w5 w5.drew := below_drewN w5 1
      have mo5r := Lib.hid mo5.rd
      have hm2 := Lib.hid m2.out.rd
      have hbs : Hid (Below w2.heap.size w2 w5) := hbw.trans ((bthen hbx hbx5).mono hsz)
      have SS := Lib.hid (fun W (hb : Below w5.heap.size w5 W) => sameSyms W a3 s 114 c3 114 SL (mo5r.out.below hb (Nat.le_refl _)) (hm2.out.below (hbs.out.trans (hb.mono hbs.out.size)) (Nat.le_refl _)) (by omega))
      have hcl : Hid (∀ W, Below w5.heap.size w5 W → (W.cell? ⟨w4.heap.size, 0, none⟩ = some (.int .i64 oo) ∧ W.cell? ⟨w4.heap.size, 1, none⟩ = some (.int .u8 kk) ∧ W.cell? ⟨w4.heap.size, 2, none⟩ = some (.int .u8 st) ∧ W.cell? ⟨w4.heap.size, 3, none⟩ = some (.int .u32 sq) ∧ W.cell? ⟨w4.heap.size, 4, none⟩ = some (.int .u32 v)) ∧ (W.cell? ⟨w.heap.size, 0, none⟩ = some (.int .u8 kk) ∧ W.cell? ⟨w.heap.size, 1, none⟩ = some (.int .u8 st) ∧ W.cell? ⟨w.heap.size, 2, none⟩ = some (.int .u32 sq) ∧ W.cell? ⟨w.heap.size, 3, none⟩ = some (.int .u32 v))) :=
        fun W hb => ⟨(fr_cells (hf5.below hb hf5.lt)).1, py_cells (hP2.out.below (hbs.out.trans (hb.mono hbs.out.size)) hP2.out.lt)⟩
      clear hf5
      have d5 := hcl.out w5.drew hb56
      go_region_held3 (fun W => (W.cell? ⟨w4.heap.size, 0, none⟩ = some (.int .i64 oo) ∧ W.cell? ⟨w4.heap.size, 1, none⟩ = some (.int .u8 kk) ∧ W.cell? ⟨w4.heap.size, 2, none⟩ = some (.int .u8 st) ∧ W.cell? ⟨w4.heap.size, 3, none⟩ = some (.int .u32 sq) ∧ W.cell? ⟨w4.heap.size, 4, none⟩ = some (.int .u32 v)) ∧ (W.cell? ⟨w.heap.size, 0, none⟩ = some (.int .u8 kk) ∧ W.cell? ⟨w.heap.size, 1, none⟩ = some (.int .u8 st) ∧ W.cell? ⟨w.heap.size, 2, none⟩ = some (.int .u32 sq) ∧ W.cell? ⟨w.heap.size, 3, none⟩ = some (.int .u32 v)))
        (first | exact d5 | exact d6 | exact d7)
        (first
          | (go_at_call 15
             (with_reducible refine (O.out _).mono ?_)
             rintro e w6 ⟨rfl, hb6⟩
             have hb56' := bthen hb56 hb6
             have d6 := hcl.out _ hb56')
          | (go_at_call 20
             (with_reducible refine (SS.out _ hb56').mono ?_)
             rintro e w7 ⟨rfl, hq7⟩
             have hb57' : Below w5.heap.size w5 w7 := by
               obtain ⟨q, rfl⟩ := hq7
               exact bthen hb56' (below_drewN _ q)
             clear hq7
             have d7 := hcl.out _ hb57')
          | fail)
      have hbr7 := bthen hbx (bthen hbx5 hb57')
      have m37 := (mo5.mono (Nat.zero_le _)).below hb57' (Nat.le_refl _)
      have hB : Hid (bad < i + 1 → SL 113 ≠ 1) := fun h => absurd h (by omega)
      clear d5 d6 d7 hb56 hb56' hcl SS mo5r hm2 hbs hb6 R rX rY hl hh mo hb4 hb45 hbx5 hOL
      have hown7 := own_touch (S := []) hown.out (Touch.of_below hbr7 (Nat.le_refl _) []) (by simp)
      have m17 := m1.out.below hbr7 (Nat.le_refl _)
      have hbw7 := hbw.trans (hbr7.mono hsz)
      have hsz7 := hbw7.size
      have hlo := Lib.hid (own_lower hown7)
      replace hown7 := Lib.hid hown7
      replace m17 := Lib.hid m17
      replace m37 := Lib.hid m37
      clear hown m1 m2' hbx hb57' hbr7
      go_wp2_with (at_builtin; refine append_at rfl _ _ 52 rfl 40 i0 (.slice none 0 0) 24 Try.underlying52 hi0 hx0 hx1 hx2 rfl _ (i + 2) _ rfl hlo.out _ w7.heap.size (by simp) rfl rfl (by omega) (by omega) ?_)
      intro g8 c8 w8 hown8 hg8 hat8
      have hbw8 := Lib.hid (Below.grown hbw7 hg8 hsz7 (fun k hk => (hown7.out.lt k hk).1))
      have m18 := Lib.hid (m17.out.grown hg8 hown7.out (by decide))
      have m38 := Lib.hid (m37.out.grown hg8 hown7.out (by decide))
      have hge8 : w2.heap.size ≤ g8 := by
        rcases hat8 with e | e
        · simp only [Value.ownBlock, Option.some.injEq] at e
          omega
        · omega
      have hl := hown7.out.1
      have hx1' : (xs ++ [Value.slice a3 114 c3])[i + 1 + 1]? = some (.slice a3 114 c3) := by
        rw [List.getElem?_append_right (by omega)]
        have : i + 1 + 1 - xs.length = 0 := by omega
        rw [this]
        rfl
      have hx2' : (xs ++ [Value.slice a3 114 c3])[i + 1]? = some (.slice a1 114 c1) := by
        rw [List.getElem?_append_left (by omega)]
        exact e1.out
      have hr8 := Lib.hid (own_raise hown8 (B := w2.heap.size) (fun g hg => by
        simp only [Value.ownBlock, Option.some.injEq] at hg
        omega))
      clear hown8 hown7 hlo hg8 hat8 m17 m37 hbw7 hl
      go_wp2_with fail
      exact hK (many - (i + 1)) _ _ (by omega) ⟨i + 1, _, _, a3, c3, a1, c1, SL, X1, by omega, hbw8.out, hr8.out, hx1', hx2', m38.out, m18.out, ⟨hc3, hc3'⟩, hc1, (fun _ => ⟨fun _ _ => rfl, (hgd.out (by omega)).1⟩), hB.out, by kernel_rfl, rfl, by kernel_rfl, by kernel_rfl, by kernel_rfl, by kernel_rfl, by kernel_rfl, by kernel_rfl, by kernel_rfl, by kernel_rfl, by kernel_rfl⟩
    · have b1 : decide ((i : Int) < (bad : Int)) = false := by simp; omega
      have b2 : ¬ (i : Int) < (bad : Int) := by omega
      have R := Lib.hid (RL.out wx an cn X af cf Y rX.out rY.out (hh (by omega)))
      have hlow := Lib.hid (low_out (hh (by omega)))
      generalize outI oo (knL X 114) (knL Y 114) = OL at *
      go_wp2_with fail
      refine R.out.mono ?_
      rintro e w4 ⟨a3, c3, rfl, hc3, hc3', mo, hb4⟩
      have hb45 := below_alloc w4 (.cells #[.int .i64 0, .int .u8 0, .int .u8 0, .int .u32 0, .int .u32 0] 34)
      have mo5 := (mo.mono (Nat.zero_le _)).below hb45 (Nat.le_refl _)
      have hbx5 := bthen hb4 hb45
      go_upto_region 26 with fail
      generalize w4.alloc (.cells #[.int .i64 0, .int .u8 0, .int .u8 0, .int .u32 0, .int .u32 0] 34) = w5 at *
      clear R rX rY hl hh mo hb4 hb45
      go_quiet (fail)
      generalize hw7 : w5.drewN nq = w7 at *
      have hb57' : Below w5.heap.size w5 w7 := by rw [← hw7]; exact below_drewN w5 nq
      have hbr7 := bthen hbx (bthen hbx5 hb57')
      have m37 := mo5.below hb57' (Nat.le_refl _)
      have hB : Hid (bad < i + 1 → OL 113 ≠ 1) := fun _ => hlow.out
      clear hw7 hbx5 hlow mo5
      have hown7 := own_touch (S := []) hown.out (Touch.of_below hbr7 (Nat.le_refl _) []) (by simp)
      have m17 := m1.out.below hbr7 (Nat.le_refl _)
      have hbw7 := hbw.trans (hbr7.mono hsz)
      have hsz7 := hbw7.size
      have hlo := Lib.hid (own_lower hown7)
      replace hown7 := Lib.hid hown7
      replace m17 := Lib.hid m17
      replace m37 := Lib.hid m37
      clear hown m1 m2' hbx hb57' hbr7
      go_wp2_with (at_builtin; refine append_at rfl _ _ 52 rfl 40 i0 (.slice none 0 0) 24 Try.underlying52 hi0 hx0 hx1 hx2 rfl _ (i + 2) _ rfl hlo.out _ w7.heap.size (by simp) rfl rfl (by omega) (by omega) ?_)
      intro g8 c8 w8 hown8 hg8 hat8
      have hbw8 := Lib.hid (Below.grown hbw7 hg8 hsz7 (fun k hk => (hown7.out.lt k hk).1))
      have m18 := Lib.hid (m17.out.grown hg8 hown7.out (by decide))
      have m38 := Lib.hid (m37.out.grown hg8 hown7.out (by decide))
      have hge8 : w2.heap.size ≤ g8 := by
        rcases hat8 with e | e
        · simp only [Value.ownBlock, Option.some.injEq] at e
          omega
        · omega
      have hl := hown7.out.1
      have hx1' : (xs ++ [Value.slice a3 114 c3])[i + 1 + 1]? = some (.slice a3 114 c3) := by
        rw [List.getElem?_append_right (by omega)]
        have : i + 1 + 1 - xs.length = 0 := by omega
        rw [this]
        rfl
      have hx2' : (xs ++ [Value.slice a3 114 c3])[i + 1]? = some (.slice a1 114 c1) := by
        rw [List.getElem?_append_left (by omega)]
        exact e1.out
      have hr8 := Lib.hid (own_raise hown8 (B := w2.heap.size) (fun g hg => by
        simp only [Value.ownBlock, Option.some.injEq] at hg
        omega))
      clear hown8 hown7 hlo hg8 hat8 m17 m37 hbw7 hl
      go_wp2_with fail
      exact hK (many - (i + 1)) _ _ (by omega) ⟨i + 1, _, _, a3, c3, a1, c1, OL, X1, by omega, hbw8.out, hr8.out, hx1', hx2', m38.out, m18.out, ⟨hc3, hc3'⟩, hc1, (fun h => absurd h (by omega)), hB.out, by kernel_rfl, rfl, by kernel_rfl, by kernel_rfl, by kernel_rfl, by kernel_rfl, by kernel_rfl, by kernel_rfl, by kernel_rfl, by kernel_rfl, by kernel_rfl⟩
  · have g1 : decide ((i : Int) < (many : Int)) = false := by simp; omega
    go_wp2_with fail
    refine (lives09 _).mono ?_
    rintro e w11 ⟨rfl, hb11⟩
    go_wp2_with fail
    go_ret
    exact ⟨rfl, bthen (bthen hb02 hbw) hb11⟩
end Go.Proofs.Ytbfbpagfmhdblaa
