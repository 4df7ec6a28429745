/- RingsPlaces: the walk. -/
import Derived.Test.YtodmkbbfmojifaaDoorRingsNumbersW
import Derived.Deep.OwnRows
namespace Go.Proofs.YtodmkbbfmojifaaDoor
open Go.RowKit
set_option linter.unusedSimpArgs false
set_option linter.unusedVariables false
set_option maxRecDepth 100000
theorem place_cw {m f i : Int} (h : 4 ≤ m ∧ m ≤ 16) (hf : 0 ≤ f ∧ f < m) (hi : 0 ≤ i ∧ i < m) : placeI m 0 f i = (i - f) % m := by
  have e : placeI m 0 f i = distI m 0 f i := by simp [placeI]
  rw [e, dist_ok h (by decide) hf hi]
  simp [sgn]
theorem place_ccw {m f i : Int} (h : 4 ≤ m ∧ m ≤ 16) (hf : 0 ≤ f ∧ f < m) (hi : 0 ≤ i ∧ i < m) : placeI m 1 f i = ((f + 1) % m - i) % m := by
  have e : placeI m 1 f i = distI m 1 (stepI m 0 f 1) i := by simp [placeI]
  rw [e, step_ok h (by decide) hf, dist_ok h (by decide) (emod_in h.1) hi]
  simp only [sgn]
  congr 1
  simp
  omega
theorem place_facts {m d f : Int} (h : 4 ≤ m ∧ m ≤ 16) (hd : d = 0 ∨ d = 1) (hf : 0 ≤ f ∧ f < m) :
    (∀ i, 0 ≤ i ∧ i < m → 0 ≤ placeI m d f i ∧ placeI m d f i < m) ∧ (∀ i j, 0 ≤ i ∧ i < m → 0 ≤ j ∧ j < m → placeI m d f i = placeI m d f j → i = j) ∧
      ∀ i q, 0 ≤ i ∧ i < m → q = 1 ∨ q = 2 → q ≤ placeI m d f i → placeI m d f (srcI m d i q) = placeI m d f i - q := by
  have hs : ∀ i q, 0 ≤ i ∧ i < m → q = 1 ∨ q = 2 → srcI m d i q = (i + sgn d * -q) % m := fun i q hi hq => srcI_val (by simp [okR_ok h (show d ≤ 1 by omega), inR_ok hi, okH]; omega)
  rcases hd with rfl | rfl
  · refine ⟨fun i hi => ?_, fun i j hi hj => ?_, fun i q hi hq hle => ?_⟩
    · rw [place_cw h hf hi]
      exact emod_in h.1
    · rw [place_cw h hf hi, place_cw h hf hj]
      rcases sizes h.1 h.2 with rfl | rfl | rfl | rfl | rfl | rfl | rfl | rfl | rfl | rfl | rfl | rfl | rfl <;> omega
    · rw [hs i q hi hq, place_cw h hf (emod_in h.1)]
      rw [place_cw h hf hi] at hle ⊢
      simp only [sgn]
      rcases sizes h.1 h.2 with rfl | rfl | rfl | rfl | rfl | rfl | rfl | rfl | rfl | rfl | rfl | rfl | rfl <;> simp <;> omega
  · refine ⟨fun i hi => ?_, fun i j hi hj => ?_, fun i q hi hq hle => ?_⟩
    · rw [place_ccw h hf hi]
      exact emod_in h.1
    · rw [place_ccw h hf hi, place_ccw h hf hj]
      rcases sizes h.1 h.2 with rfl | rfl | rfl | rfl | rfl | rfl | rfl | rfl | rfl | rfl | rfl | rfl | rfl <;> omega
    · rw [hs i q hi hq, place_ccw h hf (emod_in h.1)]
      rw [place_ccw h hf hi] at hle ⊢
      simp only [sgn]
      rcases sizes h.1 h.2 with rfl | rfl | rfl | rfl | rfl | rfl | rfl | rfl | rfl | rfl | rfl | rfl | rfl <;> simp <;> omega
theorem place_halves {m f : Int} (h : 4 ≤ m ∧ m ≤ 16) (hf : 0 ≤ f ∧ f < m) : placeI m 0 f f = 0 ∧ placeI m 0 f ((f + 1) % m) = 1 ∧ placeI m 1 f ((f + 1) % m) = 0 ∧ placeI m 1 f f = 1 := by
  rw [place_cw h hf hf, place_cw h hf (emod_in h.1), place_ccw h hf hf, place_ccw h hf (emod_in h.1)]
  rcases sizes h.1 h.2 with rfl | rfl | rfl | rfl | rfl | rfl | rfl | rfl | rfl | rfl | rfl | rfl | rfl <;> refine ⟨?_, ?_, ?_, ?_⟩ <;> omega
theorem elemBool : (Tryd.prog.info? 4).map (fun i => (i.zero, i.size, i.bytes)) = some (some (.bool false), 1, 1) := by kernel_rfl
theorem made_get {z : Value} {n j : Nat} (h : j < n) : (madeCells #[z] n)[j]? = some z := by
  have h1 : j % 1 = 0 := Nat.mod_one j
  simp [madeCells, h, h1]
theorem made_size {z : Value} {n : Nat} : (madeCells #[z] n).size = n := by simp [madeCells]
def InvPl1 (w : World) (n : Int) (M : Nat) (f : Int) (k : Nat) (a : Act) (wr : World) : Prop :=
  ∃ d : Nat, d + k = 2 ∧ Below w.heap.size w wr ∧ a.tmps.size = 104 ∧ a.defers = [] ∧ slot a 0 = .int .u8 n ∧ slot a 5 = .int .i64 M ∧ slot a 6 = .int .i64 f ∧ slot a 8 = .int .u8 d
def InvPl2 (w : World) (n : Int) (M : Nat) (f : Int) (d : Nat) (g : Nat) (k : Nat) (a : Act) (wr : World) : Prop :=
  ∃ i : Nat, i + k = M ∧ Below w.heap.size w wr ∧ (∃ cur, Blk wr g cur 4 ∧ cur.size = M ∧ ∀ j : Nat, i ≤ j → j < M → cur[(placeI M d f j).toNat]? = some (.bool false)) ∧
    a.tmps.size = 104 ∧ a.defers = [] ∧ slot a 0 = .int .u8 n ∧ slot a 5 = .int .i64 M ∧ slot a 6 = .int .i64 f ∧ slot a 8 = .int .u8 d ∧ slot a 9 = .slice (some ⟨g, 0, none⟩) M M ∧ slot a 10 = .int .i64 i
def InvPl3 (w : World) (n : Int) (M : Nat) (f : Int) (d : Nat) (g : Nat) (i : Nat) (k : Nat) (a : Act) (wr : World) : Prop :=
  ∃ q : Nat, q + k = 2 ∧ Below w.heap.size w wr ∧ (∃ cur, Blk wr g cur 4 ∧ cur.size = M ∧ ∀ j : Nat, i + 1 ≤ j → j < M → cur[(placeI M d f j).toNat]? = some (.bool false)) ∧
    a.tmps.size = 104 ∧ a.defers = [] ∧ slot a 0 = .int .u8 n ∧ slot a 5 = .int .i64 M ∧ slot a 6 = .int .i64 f ∧ slot a 8 = .int .u8 d ∧ slot a 9 = .slice (some ⟨g, 0, none⟩) M M ∧ slot a 10 = .int .i64 i ∧ slot a 11 = .int .i64 (placeI M d f i) ∧ slot a 12 = .int .i64 (q + 1)
set_option maxHeartbeats 8000000 in
theorem ringsPlaces_any (w : World) (n x : Int) (hs : Signs w) (hn : 0 ≤ n ∧ n < 256) (hx : 0 ≤ x ∧ x < 256) :
    Calls Tryd.prog 9 #[.int .u8 n, .int .u8 x] w fun e w' => e = .returned (.bool true) ∧ Below w.heap.size w w' := by
  have P0 : Hid (∀ W, Calls Tryd.prog 28 #[.int .u8 n] W fun e w' => e = .returned (.int .i64 (nodesI n)) ∧ W = w') := fun W => lawNodes W n hn.1 hn.2
  have hm := @nodesI_in n
  generalize nodesI n = m at *
  obtain ⟨M, rfl⟩ : ∃ M : Nat, m = M := ⟨m.toNat, by omega⟩
  have hf := emod_in (x := x) hm.1
  have t1 : Int.tmod x M = x % M := Int.tmod_eq_emod_of_nonneg hx.1
  have u1 : IntKind.i64.wrap x = x := wrap_near _ (by omega) (by omega)
  have hm0 : (M : Int) ≠ 0 := by omega
  generalize x % M = f at *
  have u2 : IntKind.i64.wrap f = f := wrap_near _ (by omega) (by omega)
  have u3 : IntKind.i64.wrap (f + 1) = f + 1 := wrap_near _ (by omega) (by omega)
  have t2 : Int.tmod (f + 1) M = (f + 1) % M := Int.tmod_eq_emod_of_nonneg (by omega)
  have hg := emod_in (x := f + 1) hm.1
  have u4 : IntKind.i64.wrap ((f + 1) % M) = (f + 1) % M := wrap_near _ (by omega) (by omega)
  obtain ⟨v1, v2, v3, v4⟩ := place_halves hm hf
  generalize (f + 1) % M = f2 at *
  replace v1 := Lib.hid v1
  replace v2 := Lib.hid v2
  replace v3 := Lib.hid v3
  replace v4 := Lib.hid v4
  have hs' := Lib.hid hs
  have b2 := Below.refl w.heap.size w
  clear hs
  go_enter Tryd.func9, Tryd.ntmps9
  go_wp2_with fail
  refine (P0.out _).mono ?_
  rintro e _ ⟨rfl, rfl⟩
  go_wp2_with fail
  refine (ringsPlace _ _ _ _ _ hs'.out (by decide)).mono ?_
  rintro e w2 ⟨rfl, q2, rfl⟩
  rw [v1.out]
  replace b2 := bthen b2 (below_drewN w q2)
  generalize w.drewN q2 = w2 at *
  go_wp2_with fail
  refine (ringsPlace _ _ _ _ _ (hs'.out.to b2) (by decide)).mono ?_
  rintro e w3 ⟨rfl, q3, rfl⟩
  rw [v2.out]
  replace b2 := bthen b2 (below_drewN w2 q3)
  generalize w2.drewN q3 = w3 at *
  go_wp2_with fail
  refine (ringsPlace _ _ _ _ _ (hs'.out.to b2) (by decide)).mono ?_
  rintro e w4 ⟨rfl, q4, rfl⟩
  rw [v3.out]
  replace b2 := bthen b2 (below_drewN w3 q4)
  generalize w3.drewN q4 = w4 at *
  go_wp2_with fail
  refine (ringsPlace _ _ _ _ _ (hs'.out.to b2) (by decide)).mono ?_
  rintro e w5 ⟨rfl, q5, rfl⟩
  rw [v4.out]
  replace b2 := bthen b2 (below_drewN w4 q5)
  generalize w4.drewN q5 = w5 at *
  go_wp2
  refine wp_loop_k (InvPl1 w n M f) 2 ?_ ?_
  · exact ⟨0, by omega, b2, by kernel_rfl, rfl, by kernel_rfl, by kernel_rfl, by kernel_rfl, by kernel_rfl⟩
  · clear b2 v1 v2 v3 v4 hg u4 t2 u3 u1 t1 P0
    intro gk1 a wr hI K1 hK1
    obtain ⟨d, hd, hb, hs', hd', k0', k5', k6', k8'⟩ := hI
    rw [fr104 a hs' hd']; simp only [k0', k5', k6', k8']; clear hs' hd' k0' k5' k6' k8'
    by_cases hltd : d < 2
    · have g1 : decide ((d : Int) ≤ 1) = true := by simp; omega
      have ud : IntKind.u8.wrap ((d : Int) + 1) = ((d + 1 : Nat) : Int) := by rw [IntKind.wrap_u8]; omega
      obtain ⟨p1, p2, p3⟩ := place_facts (d := (d : Int)) hm (by omega) hf
      replace p1 := Lib.hid p1
      replace p2 := Lib.hid p2
      replace p3 := Lib.hid p3
      have hmk := fun (W : World) => run_make_row' (P := Tryd.prog) 44 4 (.bool false) 1 Tryd.underlying44 elemBool rfl .i64 .i64 M (by omega) (by omega) W
      have hsz := hb.size
      go_wp2
      refine wp_loop_k (InvPl2 w n M f d wr.heap.size) M ?_ ?_
      · exact ⟨0, by omega, hb.trans ((Below.refl _ _).alloc (by omega) _), ⟨_, Blk.new _ _ _, made_size, fun j _ hj => made_get (by have := p1.out j (by omega); omega)⟩, by kernel_rfl, rfl, by kernel_rfl, by kernel_rfl, by kernel_rfl, by kernel_rfl, by kernel_rfl, by kernel_rfl⟩
      · clear hmk hb
        generalize hgg : wr.heap.size = g at *
        clear hgg wr
        intro gk2 a wr hI K2 hK2
        obtain ⟨i, hi, hb, ⟨cur, hB, hcs, hun⟩, hs', hd', k0', k5', k6', k8', k9', k10'⟩ := hI
        rw [fr104 a hs' hd']; simp only [k0', k5', k6', k8', k9', k10']; clear hs' hd' k0' k5' k6' k8' k9' k10'
        have hsr := Lib.hid (hs'.out.to hb)
        by_cases hlt : i < M
        · have g2 : decide ((i : Int) < (M : Int)) = true := by simp; omega
          have hpi := p1.out i (by omega)
          have hun0 := hun i (Nat.le_refl _) hlt
          obtain ⟨p, hp⟩ : ∃ p : Nat, placeI M d f i = p := ⟨(placeI M d f i).toNat, by omega⟩
          have hpM : p < M := by omega
          have hlater := Lib.hid (show ∀ j : Nat, i + 1 ≤ j → j < M → (cur.setIfInBounds p (.bool true))[(placeI M d f j).toNat]? = some (.bool false) from fun j hj hjM => by
            have hne : placeI M d f j ≠ placeI M d f i := fun e => by have := p2.out j i (by omega) (by omega) e; omega
            have hpj := p1.out j (by omega)
            rw [Array.getElem?_setIfInBounds, if_neg (by omega)]
            exact hun j (by omega) hjM)
          rw [hp, Int.toNat_natCast] at hun0
          have e1 : decide ((p : Int) < 0) = false := by simp <;> omega
          have e2 : decide ((M : Int) ≤ (p : Int)) = false := by simp; omega
          have hcell : ∀ q, (wr.drewN q).cell? ⟨g, p, none⟩ = some (.bool false) := fun q => (hB.drewN q).cell hun0
          have hfree : ∀ q, (wr.drewN q).frozen? ⟨g, p, none⟩ = false := fun q => (hB.drewN q).free p
          have hun' := Lib.hid hun
          have hB' := Lib.hid hB
          clear hun hB hun0
          go_wp2_with fail
          refine (ringsPlace _ _ _ _ _ hsr.out (by omega)).mono ?_
          rintro e w2 ⟨rfl, q2, rfl⟩
          rw [hp]
          have hc := hcell q2
          have hf' := hfree q2
          have hB2 := Lib.hid (hB'.out.drewN q2)
          have hb2 := hb.trans (bdrewN (Below.refl _ wr) q2)
          clear hcell hfree hB'
          generalize wr.drewN q2 = w2 at *
          have hgB : w.heap.size ≤ g := hsz
          go_wp2
          refine wp_loop_k (InvPl3 w n M f d g i) 2 ?_ ?_
          · exact ⟨0, by omega, hb2.setCell hgB _, ⟨_, hB2.out.set p _, by simp [hcs], hlater.out⟩, by kernel_rfl, rfl, by kernel_rfl, by kernel_rfl, by kernel_rfl, by kernel_rfl, by kernel_rfl, by kernel_rfl, by show Value.int _ _ = Value.int _ _; rw [hp], by kernel_rfl⟩
          · clear hlater hun' hc hf' hB2 hb2 hsr hb e1 e2
            intro gk3 a wr3 hI K3 hK3
            obtain ⟨q, hq, hb, ⟨cur3, hB, hcs3, hun⟩, hs', hd', k0', k5', k6', k8', k9', k10', k11', k12'⟩ := hI
            rw [fr104 a hs' hd']; simp only [k0', k5', k6', k8', k9', k10', k11', k12']; clear hs' hd' k0' k5' k6' k8' k9' k10' k11' k12'
            rw [hp]
            have hsr := Lib.hid (hs'.out.to hb)
            have hun' := Lib.hid hun
            have hB' := Lib.hid hB
            clear hun hB
            by_cases hlq : q < 2
            · have g3 : decide ((q : Int) + 1 ≤ 2) = true := by simp; omega
              have uq : IntKind.i64.wrap ((q : Int) + 1 + 1) = ((q + 1 : Nat) : Int) + 1 := wrap_near _ (by omega) (by omega)
              by_cases hle : (q : Int) + 1 ≤ p
              · have g4 : decide ((q : Int) + 1 ≤ p) = true := by simp [hle]
                have up : IntKind.i64.wrap ((p : Int) - (q + 1)) = (p : Int) - (q + 1) := wrap_near _ (by omega) (by omega)
                have hv := Lib.hid (p3.out i (q + 1) (by omega) (by omega) (by omega))
                rw [hp] at hv
                have g5 : ((p : Int) - (q + 1) != (p : Int) - (q + 1)) = false := by simp
                clear hle
                go_wp2_with fail
                refine (ringsSource _ _ _ _ _ hsr.out (by omega)).mono ?_
                rintro e w4 ⟨rfl, q4, rfl⟩
                go_wp2_with fail
                refine (ringsPlace _ _ _ _ _ (hsr.out.drew q4) (by omega)).mono ?_
                rintro e w5 ⟨rfl, q5, rfl⟩
                rw [hv.out]
                have hb5 := bdrewN (bdrewN hb q4) q5
                have hB5 := Lib.hid ((hB'.out.drewN q4).drewN q5)
                generalize (wr3.drewN q4).drewN q5 = w5 at *
                go_wp2
                exact hK3 (2 - (q + 1)) _ _ (by omega) ⟨q + 1, by omega, hb5, ⟨_, hB5.out, hcs3, hun'.out⟩, by kernel_rfl, rfl, by kernel_rfl, by kernel_rfl, by kernel_rfl, by kernel_rfl, by kernel_rfl, by kernel_rfl, by show Value.int _ _ = Value.int _ _; rw [hp], by kernel_rfl⟩
              · have g4 : decide ((q : Int) + 1 ≤ p) = false := by simp; omega
                clear hle
                go_wp2
                exact hK3 (2 - (q + 1)) _ _ (by omega) ⟨q + 1, by omega, hb, ⟨_, hB'.out, hcs3, hun'.out⟩, by kernel_rfl, rfl, by kernel_rfl, by kernel_rfl, by kernel_rfl, by kernel_rfl, by kernel_rfl, by kernel_rfl, by show Value.int _ _ = Value.int _ _; rw [hp], by kernel_rfl⟩
            · obtain rfl : q = 2 := by omega
              have g3 : decide ((2 : Int) + 1 ≤ 2) = false := by decide
              have ui : IntKind.i64.wrap ((i : Int) + 1) = ((i + 1 : Nat) : Int) := wrap_near _ (by omega) (by omega)
              go_wp2
              exact hK2 (M - (i + 1)) _ _ (by omega) ⟨i + 1, by omega, hb, ⟨_, hB'.out, hcs3, hun'.out⟩, by kernel_rfl, rfl, by kernel_rfl, by kernel_rfl, by kernel_rfl, by kernel_rfl, by kernel_rfl, by kernel_rfl⟩
        · obtain rfl : i = M := by omega
          have g2 : decide ((i : Int) < (i : Int)) = false := by simp
          clear hun hB
          go_wp2
          exact hK1 (2 - (d + 1)) _ _ (by omega) ⟨d + 1, by omega, hb, by kernel_rfl, rfl, by kernel_rfl, by kernel_rfl, by kernel_rfl, by kernel_rfl⟩
    · obtain rfl : d = 2 := by omega
      have g1 : decide ((2 : Int) ≤ 1) = false := by decide
      go_wp2_with fail
      refine (lives03 _ (hs'.out.to hb)).mono ?_
      rintro e wx ⟨rfl, hbL⟩
      go_wp2_with fail
      go_ret
      exact ⟨rfl, bthen hb hbL⟩
end Go.Proofs.YtodmkbbfmojifaaDoor
