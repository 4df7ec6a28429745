/- Rings: Path; slices.Reverse by its contract off the shelf. -/
import Derived.Test.YtodmkbbfmojifaaDoorRingsE
import Derived.Ground.NamesProg
import Derived.Shelf.Lay
import Derived.Shelf.Slices.Cells
namespace Go.Proofs
open Go.Shelf
shelf_lay Lays.n112 Nm 112 at Tryd as Tryd.laysReverse
end Go.Proofs
namespace Go.Proofs.YtodmkbbfmojifaaDoor
open Go.RowKit Go.Shelf
set_option linter.unusedSimpArgs false
set_option linter.unusedVariables false
set_option maxRecDepth 100000
theorem elemN : (Tryd.prog.info? 3).map (fun i => (i.zero, i.size, i.bytes)) = some (some (.int .i64 0), 1, 8) := by kernel_rfl
theorem Blk.setCells {b : Nat} {t : TypeId} : ∀ (vs : List Value) (o : Nat) {w : World} {cur : Array Value}, Blk w b cur t → o + vs.length ≤ cur.size →
    ∃ cur', Blk (w.setCells b o vs) b cur' t ∧ cur'.size = cur.size ∧ (∀ i, i < o → cur'[i]? = cur[i]?) ∧ ∀ i, i < vs.length → cur'[o + i]? = vs[i]?
  | [], o, w, cur, h, _ => ⟨cur, h, rfl, fun _ _ => rfl, fun i hi => by simp at hi⟩
  | v :: r, o, w, cur, h, hl => by
    simp at hl
    obtain ⟨cur', h1, h2, h3, h4⟩ := Blk.setCells r (o + 1) (h.set o v) (by simp; omega)
    refine ⟨cur', h1, by simpa using h2, fun i hi => ?_, fun i hi => ?_⟩
    · rw [h3 i (by omega), Array.getElem?_setIfInBounds, if_neg (by omega)]
    · cases i with
      | zero =>
        rw [Nat.add_zero, h3 o (by omega), Array.getElem?_setIfInBounds, if_pos rfl, if_pos (by omega)]
        rfl
      | succ i =>
        have := h4 i (by simpa using hi)
        rw [show o + (i + 1) = o + 1 + i by omega, this]
        rfl
theorem belowCells {B b : Nat} (hb : B ≤ b) : ∀ (vs : List Value) (o : Nat) {a w : World}, Below B a w → Below B a (w.setCells b o vs)
  | [], _, _, _, h => h
  | v :: r, o, a, w, h => belowCells hb r (o + 1) (h.setCell hb v)
/-- slices.Reverse of a list of one's own. -/
theorem reverseNums (w : World) (B : Nat) (a : Option Addr) (n c : Nat) (L : Nat → Int) (h : Mine .i64 3 B w a n L) (hn : n ≤ 1000000) :
    Calls Tryd.prog 36 #[.slice a n c] w fun e w' => e = .returned (.tuple #[]) ∧ Mine .i64 3 B w' a n (fun i => L (n - 1 - i)) ∧ Below B w w' := by
  rcases Nat.eq_zero_or_pos n with rfl | hp
  · refine (Any.slices_Reverse_int_empty Tryd.laysReverse a c _).mono ?_
    rintro e w' ⟨rfl, rfl⟩
    exact ⟨rfl, Mine.nil _ _ _ _ _ _, Below.refl _ _⟩
  · obtain ⟨g, cur, rfl, h2, h3, h4, h5⟩ := h hp
    have hz : ∀ j, j < n → ((List.range n).map L).getD j 0 = L j := fun j hj => by simp [hj]
    refine (Any.slices_Reverse_int_cells Tryd.laysReverse g 0 n c ((List.range n).map L) w (by simp) (by omega) (fun j hj => by
      have hj' : j < n := by simpa using hj
      rw [hz j hj', Nat.zero_add]
      exact h3.cell (h5 j hj')) (fun j _ => by rw [Nat.zero_add]; exact h3.free j)).mono ?_
    rintro e w' ⟨rfl, q, rfl⟩
    obtain ⟨cur', k1, k2, -, k4⟩ := Blk.setCells ((((List.range n).map L).take n).reverse.map (Value.int .i64)) 0 (h3.drewN q) (by simp; omega)
    refine ⟨rfl, fun _ => ⟨g, cur', rfl, h2, k1, by omega, fun i hi => ?_⟩, belowCells h2 _ _ (bdrewN (Below.refl _ _) q)⟩
    have := k4 i (by simp; omega)
    rw [Nat.zero_add] at this
    rw [this]
    simp [List.getElem?_reverse, hi, List.take_of_length_le]
theorem noGoto_ret {Q : Exit → Act → World → Prop} {a : Act} {w : World} (h : Q .ret a w) : Exit.noGoto Q .ret a w := h
/-- What Path answers. -/
abbrev pathV (n d f t h : Int) (a : Option Addr) : Value := .tuple #[.slice a (pathN n d f t h) (pathN n d f t h), .bool (pathOk n d f t h)]
def InvPath (w : World) (n d t h D : Int) (k : Nat) (a : Act) (wr : World) : Prop :=
  ∃ (j : Nat) (v : Value), (k : Int) + h + 2 * j = D ∧ wr.ownsRow w.heap.size 3 1 v j (nums .i64 (fwdL n d t h) j) ∧ Below w.heap.size w wr ∧
    a.tmps.size = 56 ∧ a.defers = [] ∧ slot a 0 = .int .i64 n ∧ slot a 1 = .int .u8 d ∧ slot a 4 = .int .i64 (hopJ h j) ∧ slot a 12 = .int .i64 (k + hopJ h j) ∧ slot a 13 = v ∧ slot a 14 = .int .i64 (atJ n d t h j)
set_option maxHeartbeats 1000000 in
theorem ringsPath (w : World) (n d f t h : Int) (hs : Signs w) (hd : 0 ≤ d) : Calls Tryd.prog 21 #[.int .i64 n, .int .u8 d, .int .i64 f, .int .i64 t, .int .i64 h] w fun e w' =>
    ∃ a, e = .returned (pathV n d f t h a) ∧ Mine .i64 3 w.heap.size w' a (pathN n d f t h) (pathL n d f t h) ∧ Below w.heap.size w w' := by
  obtain ⟨i0, hf0, hz0, hz1, hz2⟩ := info_parts elemN
  cases hok : pathOk n d f t h with
  | false =>
    have hN : pathN n d f t h = 0 := by simp [pathN, hok]
    have hv : pathV n d f t h none = .tuple #[.slice none 0 0, .bool false] := by simp [pathV, hN, hok]
    replace hv := Lib.hid hv
    replace hN := Lib.hid hN
    by_cases hD : distI n d f t ≤ 0
    · have g1 : decide (distI n d f t ≤ 0) = true := by simp [hD]
      clear hok hD
      go_enter Tryd.func21, Tryd.ntmps21
      go_wp2_with fail
      refine wp_scope_straight ?_
      go_wp2_with fail
      refine (ringsDistance _ _ _ _ _ hs hd).mono ?_
      rintro e w1 ⟨rfl, q1, rfl⟩
      have hb1 := below_drewN w q1
      generalize distI n d f t = D at *
      go_wp2
      refine noGoto_ret (bodyPost_ret (v := .tuple #[.slice none 0 0, .bool false]) (by simp [results, Tryd.results21, go_sem]) rfl ⟨none, by rw [hv.out], by rw [hN.out]; exact Mine.nil _ _ _ _ _ _, hb1⟩)
    · have g1 : decide (distI n d f t ≤ 0) = false := by simp; omega
      cases hh : okH h with
      | false =>
        clear hok hD
        go_enter Tryd.func21, Tryd.ntmps21
        go_wp2_with fail
        refine wp_scope_straight ?_
        go_wp2_with fail
        refine (ringsDistance _ _ _ _ _ hs hd).mono ?_
        rintro e w1 ⟨rfl, q1, rfl⟩
        have hb1 := below_drewN w q1
        generalize distI n d f t = D at *
        go_wp2_with fail
        refine (ringsHops _ _).mono ?_
        rintro e _ ⟨rfl, rfl⟩
        rw [hh]
        go_wp2
        refine noGoto_ret (bodyPost_ret (v := .tuple #[.slice none 0 0, .bool false]) (by simp [results, Tryd.results21, go_sem]) rfl ⟨none, by rw [hv.out], by rw [hN.out]; exact Mine.nil _ _ _ _ _ _, hb1⟩)
      | true =>
        have g2 : decide (distI n d f t < h) = true := by
          simp [pathOk, hh] at hok
          simp
          omega
        clear hok hD
        go_enter Tryd.func21, Tryd.ntmps21
        go_wp2_with fail
        refine wp_scope_straight ?_
        go_wp2_with fail
        refine (ringsDistance _ _ _ _ _ hs hd).mono ?_
        rintro e w1 ⟨rfl, q1, rfl⟩
        have hb1 := below_drewN w q1
        generalize distI n d f t = D at *
        go_wp2_with fail
        refine (ringsHops _ _).mono ?_
        rintro e _ ⟨rfl, rfl⟩
        rw [hh]
        go_wp2
        refine noGoto_ret (bodyPost_ret (v := .tuple #[.slice none 0 0, .bool false]) (by simp [results, Tryd.results21, go_sem]) rfl ⟨none, by rw [hv.out], by rw [hN.out]; exact Mine.nil _ _ _ _ _ _, hb1⟩)
  | true =>
    have ho : 0 < distI n d f t ∧ okH h = true ∧ h ≤ distI n d f t := by simpa [pathOk, and_assoc] using hok
    obtain ⟨hD0, hh, hhD⟩ := ho
    obtain ⟨hR, hF, hT, hDn⟩ := distI_le hD0
    have h16 := okR_true hR
    have hh2 := okH_true hh
    have hN : (pathN n d f t h : Int) = (distI n d f t - h + 1) / 2 := by simp [pathN, hok]; omega
    have g1 : decide (distI n d f t ≤ 0) = false := by simp; omega
    have g2 : decide (distI n d f t < h) = false := by simp; omega
    have hv := Lib.hid (show ∀ al m, pathN n d f t h = m → pathV n d f t h al = .tuple #[.slice al m m, .bool true] by rintro al m rfl; simp [pathV, hok])
    have hL := Lib.hid (show ∀ m i, pathN n d f t h = m → fwdL n d t h (m - 1 - i) = pathL n d f t h i by rintro m i rfl; rfl)
    clear hok
    go_enter Tryd.func21, Tryd.ntmps21
    go_wp2_with fail
    refine wp_scope_straight ?_
    go_wp2_with fail
    refine (ringsDistance _ _ _ _ _ hs hd).mono ?_
    rintro e w1 ⟨rfl, q1, rfl⟩
    have hb1 := below_drewN w q1
    generalize distI n d f t = D at *
    go_wp2_with fail
    refine (ringsHops _ _).mono ?_
    rintro e _ ⟨rfl, rfl⟩
    rw [hh]
    go_wp2
    go_step3
    go_wp2
    refine wp_loop_k (InvPath w n d t h D) (D - h).toNat ?_ ?_
    · exact ⟨0, .slice none 0 0, by omega, World.ownsRow_nil _ _ _ _, hb1, by kernel_rfl, rfl, by kernel_rfl, by kernel_rfl, by show Value.int _ _ = Value.int _ _; simp [hopJ], by show Value.int _ _ = Value.int _ _; congr 1; simp [hopJ]; omega, by kernel_rfl, by show Value.int _ _ = Value.int _ _; simp [atJ]⟩
    · intro k a wr hI K hK
      obtain ⟨j, v, hkj, hown, hb, hs', hd', k0', k1', k4', k12', k13', k14'⟩ := hI
      rw [fr56 a hs' hd']; simp only [k0', k1', k4', k12', k13', k14']; clear hs' hd' k0' k1' k4' k12' k13' k14'
      have hx : 1 ≤ hopJ h j ∧ hopJ h j ≤ 2 := by unfold hopJ; split <;> omega
      have hst := step_at (h := h) (j := j) hR hT
      generalize hopJ h j = x at *
      generalize hat : atJ n d t h j = y at *
      have e1 : min x (k + x) = x := by omega
      have e2 : IntKind.i64.wrap ((k : Int) + x - x) = k := by rw [wrap_near _ (by omega) (by omega)]; omega
      by_cases hk0 : k = 0
      · subst hk0
        obtain ⟨al, cl, rfl, c1, c2, c3, hm⟩ := own_mine hown
        have hNj : pathN n d f t h = j := by omega
        have hj16 : j ≤ 16 := by omega
        have hm' := Lib.hid hm
        have c3' := Lib.hid c3
        have e9 := Lib.hid (hv.out al _ hNj)
        have hbb := Lib.hid hb
        clear hm c3 hown hK hst hat hN hkj hb
        go_wp2_with fail
        refine (reverseNums _ w.heap.size _ _ _ _ hm'.out (by omega)).mono ?_
        rintro e w2 ⟨rfl, hm2, hb2⟩
        have hm2' := Lib.hid hm2
        clear hm2
        go_wp2
        refine noGoto_ret (bodyPost_ret (v := .tuple #[.slice al (j) (j), .bool true]) (by simp [results, Tryd.results21, go_sem]) rfl ⟨al, by rw [e9.out], ?_, hbb.out.trans hb2⟩)
        rw [hNj]
        exact hm2'.out.congr fun i hi => hL.out _ _ hNj
      · have e3 : ((k : Int) == 0) = false := by simp; omega
        have e4 : IntKind.i64.wrap (-x) = -x := wrap_near _ (by omega) (by omega)
        have hown' := Lib.hid hown
        clear hown
        go_wp2_with fail
        refine (ringsStep _ _ _ _ _ (hs.to hb) hd).mono ?_
        rintro e wq ⟨rfl, q2, rfl⟩
        rw [hst]
        replace hown' := Lib.hid (show (wr.drewN q2).ownsRow w.heap.size 3 1 v j (nums .i64 (fwdL n d t h) j) from hown'.out)
        replace hb := hb.trans (bdrewN (Below.refl _ wr) q2)
        generalize wr.drewN q2 = wr at *
        go_wp2_with (at_builtin; refine append_one rfl _ _ 30 rfl w.heap.size 3 i0 (.int .i64 0) 8 Tryd.underlying30 hf0 hz0 hz1 hz2 rfl _ _ _ rfl hown'.out _ rfl rfl (by omega) (by omega) hb.size ?_)
        intro g c w3 hown3 hg3 hb3
        rw [← nums_succ] at hown3
        have hown := hown3
        replace hb := hb.trans hb3
        clear hown3 hb3 hg3 hown'
        by_cases hk1 : k = 1
        · subst hk1
          obtain ⟨al, cl, hal, c1, c2, c3, hm⟩ := own_mine hown
          simp only [Value.slice.injEq, true_and] at hal
          obtain ⟨rfl, rfl⟩ := hal
          have hNj : pathN n d f t h = j + 1 := by omega
          have hj16 : j + 1 ≤ 16 := by omega
          have hm' := Lib.hid hm
          have c3' := Lib.hid c3
          have e9 := Lib.hid (hv.out (some ⟨g, 0, none⟩) _ hNj)
          have hbb := Lib.hid hb
          clear hm c3 hown hK hst hat hN hkj hb
          go_wp2_with fail
          refine (reverseNums _ w.heap.size _ _ _ _ hm'.out (by omega)).mono ?_
          rintro e w4 ⟨rfl, hm2, hb2⟩
          have hm2' := Lib.hid hm2
          clear hm2
          go_wp2
          refine noGoto_ret (bodyPost_ret (v := .tuple #[.slice (some ⟨g, 0, none⟩) (j + 1) (j + 1), .bool true]) (by simp [results, Tryd.results21, go_sem]) rfl ⟨some ⟨g, 0, none⟩, by rw [e9.out], ?_, hbb.out.trans hb2⟩)
          rw [hNj]
          exact hm2'.out.congr fun i hi => hL.out _ _ hNj
        · have e5 : ((k : Int) == 1) = false := by simp; omega
          have hown' := Lib.hid hown
          clear hown
          go_wp2
          refine hK (k - 2) _ _ (by omega) ⟨j + 1, _, by omega, hown'.out, hb, by kernel_rfl, rfl, by kernel_rfl, by kernel_rfl, ?_, ?_, by kernel_rfl, by kernel_rfl⟩
          · show Value.int _ _ = Value.int _ _
            simp [hopJ]
          · show Value.int _ _ = Value.int _ _
            congr 1
            simp [hopJ]
            omega
end Go.Proofs.YtodmkbbfmojifaaDoor
