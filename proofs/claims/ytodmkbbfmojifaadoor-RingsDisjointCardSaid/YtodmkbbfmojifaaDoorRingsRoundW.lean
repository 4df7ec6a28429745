/- RingsRound: the walk. -/
import Derived.Test.YtodmkbbfmojifaaDoorLives03
namespace Go.Proofs.YtodmkbbfmojifaaDoor
open Go.RowKit
set_option linter.unusedSimpArgs false
set_option linter.unusedVariables false
set_option maxRecDepth 100000
def nodesI (x : Int) : Int := 4 + x % 13
theorem nodesI_in {x : Int} : 4 ≤ nodesI x ∧ nodesI x ≤ 16 := by unfold nodesI; omega
theorem lawNodes (w : World) (x : Int) (hx : 0 ≤ x) (hx' : x < 256) : Calls Tryd.prog 28 #[.int .u8 x] w fun e w' => e = .returned (.int .i64 (nodesI x)) ∧ w = w' := by
  have e1 : IntKind.i64.wrap x = x := wrap_near _ (by omega) (by omega)
  have e2 : Int.tmod x 13 = x % 13 := Int.tmod_eq_emod_of_nonneg hx
  have e3 : IntKind.i64.wrap (x % 13) = x % 13 := wrap_near _ (by omega) (by omega)
  have e4 : IntKind.i64.wrap (4 + x % 13) = nodesI x := by rw [wrap_near _ (by omega) (by omega)]; rfl
  clear hx hx'
  go_enter Tryd.func28, Tryd.ntmps28
  go_wp2
  go_ret
  exact ⟨by simp [*], rfl⟩
theorem okR_ok {m d : Int} (h : 4 ≤ m ∧ m ≤ 16) (hd : d ≤ 1) : okR m d = true := by simp [okR]; omega
theorem inR_ok {m a : Int} (h : 0 ≤ a ∧ a < m) : inR m a = true := by simp [inR]; omega
theorem inR_ok' {m x : Int} (h : 4 ≤ m) : inR m (x % m) = true := inR_ok (emod_in h)
theorem step_ok {m d a s : Int} (h : 4 ≤ m ∧ m ≤ 16) (hd : d ≤ 1) (ha : 0 ≤ a ∧ a < m) : stepI m d a s = (a + sgn d * s) % m := by simp [stepI, okR_ok h hd, inR_ok ha]
theorem dist_ok {m d a b : Int} (h : 4 ≤ m ∧ m ≤ 16) (hd : d ≤ 1) (ha : 0 ≤ a ∧ a < m) (hb : 0 ≤ b ∧ b < m) : distI m d a b = (sgn d * (b - a)) % m := by simp [distI, okR_ok h hd, inR_ok ha, inR_ok hb]
theorem round_facts {m a b s : Int} (h : 4 ≤ m ∧ m ≤ 16) (ha : 0 ≤ a ∧ a < m) (hb : 0 ≤ b ∧ b < m) :
    stepI m 1 (stepI m 0 a s) s = a ∧ stepI m 1 a (-s) = stepI m 0 a s ∧ stepI m 0 a (s + m) = stepI m 0 a s ∧
    (a = b ↔ distI m 0 a b = 0) ∧ (a = b ↔ distI m 1 a b = 0) ∧ (a ≠ b → distI m 0 a b + distI m 1 a b = m) ∧ stepI m 0 a (distI m 0 a b) = b ∧ stepI m 1 a (distI m 1 a b) = b ∧
    0 ≤ distI m 0 a b ∧ distI m 0 a b < m ∧ 0 ≤ distI m 1 a b ∧ distI m 1 a b < m := by
  have hE := emod_in (x := a + sgn 0 * s) h.1
  rw [step_ok (d := 0) (s := s) h (by decide) ha, step_ok (d := 1) h (by decide) hE, step_ok (d := 1) h (by decide) ha, step_ok (d := 0) (s := s + m) h (by decide) ha,
    dist_ok (d := 0) h (by decide) ha hb, dist_ok (d := 1) h (by decide) ha hb, step_ok (d := 0) h (by decide) ha, step_ok (d := 1) h (by decide) ha]
  clear hE
  rcases sizes h.1 h.2 with rfl | rfl | rfl | rfl | rfl | rfl | rfl | rfl | rfl | rfl | rfl | rfl | rfl <;> simp only [sgn] <;> refine ⟨?_, ?_, ?_, ?_, ?_, ?_, ?_, ?_, ?_, ?_, ?_, ?_⟩ <;> simp <;> omega
set_option maxHeartbeats 8000000 in
theorem ringsRound_any (w : World) (n x y st : Int) (hs : Signs w) (hn : 0 ≤ n ∧ n < 256) (hx : 0 ≤ x ∧ x < 256) (hy : 0 ≤ y ∧ y < 256) :
    Calls Tryd.prog 6 #[.int .u8 n, .agg #[.int .u8 x, .int .u8 y], .int .i64 st] w fun e w' => e = .returned (.bool true) ∧ Below w.heap.size w w' := by
  have P0 : Hid (∀ W, Calls Tryd.prog 28 #[.int .u8 n] W fun e w' => e = .returned (.int .i64 (nodesI n)) ∧ W = w') := fun W => lawNodes W n hn.1 hn.2
  have hm := @nodesI_in n
  generalize nodesI n = m at *
  have ha := emod_in (x := x) hm.1
  have hb := emod_in (x := y) hm.1
  have t1 : Int.tmod x m = x % m := Int.tmod_eq_emod_of_nonneg hx.1
  have t2 : Int.tmod y m = y % m := Int.tmod_eq_emod_of_nonneg hy.1
  have u1 : IntKind.i64.wrap x = x := wrap_near _ (by omega) (by omega)
  have u2 : IntKind.i64.wrap y = y := wrap_near _ (by omega) (by omega)
  have hm0 : m ≠ 0 := by omega
  have s1 := Int.tmod_lt_of_pos st (show (0 : Int) < 1000000 by decide)
  have s2 : -1000000 < Int.tmod st 1000000 := Int.lt_tmod_of_pos st (by decide)
  generalize x % m = a at *
  generalize y % m = b at *
  have u3 : IntKind.i64.wrap a = a := wrap_near _ (by omega) (by omega)
  have u4 : IntKind.i64.wrap b = b := wrap_near _ (by omega) (by omega)
  have u5 : IntKind.i64.wrap (Int.tmod st 1000000) = Int.tmod st 1000000 := by rw [IntKind.wrap_i64]; omega
  have u6 : IntKind.i64.wrap (-Int.tmod st 1000000) = -Int.tmod st 1000000 := by rw [IntKind.wrap_i64]; omega
  have u7 : IntKind.i64.wrap (Int.tmod st 1000000 + m) = Int.tmod st 1000000 + m := by rw [IntKind.wrap_i64]; omega
  obtain ⟨v2, v3, v4, v5, v6, v7, v8, v9, v10, v11, v12, v13⟩ := round_facts (s := Int.tmod st 1000000) hm ha hb
  have v1 : Hid (stepI m 0 a (Int.tmod st 1000000) = stepI m 0 a (Int.tmod st 1000000)) := rfl
  generalize hth : stepI m 0 a (Int.tmod st 1000000) = th at *
  generalize hcw : distI m 0 a b = cw at *
  generalize hcc : distI m 1 a b = cc at *
  have w1' : (cw + cc : Int) ≤ 40 := by omega
  have u8 : IntKind.i64.wrap (cw + cc) = cw + cc := wrap_near _ (by omega) (by omega)
  have g1 : decide (0 ≤ cw) = true := by simp; omega
  have g2 : decide (cw < m) = true := by simp; omega
  have hs' : Hid (Signs (w.alloc (.cells #[.int .u8 x, .int .u8 y] 41))) := hs.to (below_alloc _ _)
  have hb' : Hid (Below w.heap.size w (w.alloc (.cells #[.int .u8 x, .int .u8 y] 41))) := below_alloc _ _
  have d0 : (w.alloc (.cells #[.int .u8 x, .int .u8 y] 41)).cell? ⟨w.heap.size, 0, none⟩ = some (.int .u8 x) := (Blk.new _ _ _).cell rfl
  have d1 : (w.alloc (.cells #[.int .u8 x, .int .u8 y] 41)).cell? ⟨w.heap.size, 1, none⟩ = some (.int .u8 y) := (Blk.new _ _ _).cell rfl
  replace v1 := Lib.hid hth
  replace v2 := Lib.hid v2
  replace v3 := Lib.hid v3
  replace v4 := Lib.hid v4
  have v5' := Lib.hid hcw
  have v6' := Lib.hid hcc
  have v7' := Lib.hid v8
  have v8' := Lib.hid v9
  by_cases hab : a = b
  · have c1 : cw = 0 := v5.1 hab
    have c2 : cc = 0 := v6.1 hab
    have c3 : (a == b) = true := by simp [hab]
    have c4 : (a != b) = false := by simp [hab]
    have c5 : (cw == 0) = true := by simp [c1]
    have c6 : (cc == 0) = true := by simp [c2]
    have v5 := v5'
    have v6 := v6'
    have v7 := v7'
    have v8 := v8'
    clear hth hcw hcc v9 v5' v6' v7' v8' hab c1 c2 w1' v10 v11 v12 v13 ha hb s1 s2
    go_enter Tryd.func6, Tryd.ntmps6
    go_wp2_with fail
    generalize w.alloc (.cells #[.int .u8 x, .int .u8 y] 41) = w1 at *
    refine (P0.out _).mono ?_
    rintro e _ ⟨rfl, rfl⟩
    go_wp2_with fail
    refine (ringsStep _ _ _ _ _ hs'.out (by decide)).mono ?_
    rintro e w2 ⟨rfl, q2, rfl⟩
    rw [v1.out]
    have b2 := below_drewN w1 q2
    generalize w1.drewN q2 = w2 at *
    go_wp2_with fail
    refine (ringsStep _ _ _ _ _ (hs'.out.to b2) (by decide)).mono ?_
    rintro e w3 ⟨rfl, q3, rfl⟩
    rw [v2.out]
    replace b2 := bthen b2 (below_drewN w2 q3)
    generalize w2.drewN q3 = w3 at *
    go_wp2_with fail
    refine (ringsStep _ _ _ _ _ (hs'.out.to b2) (by decide)).mono ?_
    rintro e w4 ⟨rfl, q4, rfl⟩
    rw [v3.out]
    replace b2 := bthen b2 (below_drewN w3 q4)
    generalize w3.drewN q4 = w4 at *
    go_wp2_with fail
    refine (ringsStep _ _ _ _ _ (hs'.out.to b2) (by decide)).mono ?_
    rintro e w5 ⟨rfl, q5, rfl⟩
    rw [v4.out]
    replace b2 := bthen b2 (below_drewN w4 q5)
    generalize w4.drewN q5 = w5 at *
    go_wp2_with fail
    refine (ringsDistance _ _ _ _ _ (hs'.out.to b2) (by decide)).mono ?_
    rintro e w6 ⟨rfl, q6, rfl⟩
    rw [v5.out]
    replace b2 := bthen b2 (below_drewN w5 q6)
    generalize w5.drewN q6 = w6 at *
    go_wp2_with fail
    refine (ringsDistance _ _ _ _ _ (hs'.out.to b2) (by decide)).mono ?_
    rintro e w7 ⟨rfl, q7, rfl⟩
    rw [v6.out]
    replace b2 := bthen b2 (below_drewN w6 q7)
    generalize w6.drewN q7 = w7 at *
    go_wp2_with fail
    refine (ringsStep _ _ _ _ _ (hs'.out.to b2) (by decide)).mono ?_
    rintro e w8 ⟨rfl, q8, rfl⟩
    rw [v7.out]
    replace b2 := bthen b2 (below_drewN w7 q8)
    generalize w7.drewN q8 = w8 at *
    go_wp2_with fail
    refine (ringsStep _ _ _ _ _ (hs'.out.to b2) (by decide)).mono ?_
    rintro e w9 ⟨rfl, q9, rfl⟩
    rw [v8.out]
    replace b2 := bthen b2 (below_drewN w8 q9)
    generalize w8.drewN q9 = w9 at *
    go_wp2_with fail
    refine (lives03 _ (hs'.out.to b2)).mono ?_
    rintro e wx ⟨rfl, hbL⟩
    go_wp2_with fail
    go_ret
    exact ⟨rfl, bthen (bthen hb'.out b2) hbL⟩
  · have c0 : cw + cc = m := v7 hab
    have c1 : ¬cw = 0 := fun h => hab (v5.2 h)
    have c2 : ¬cc = 0 := fun h => hab (v6.2 h)
    have c3 : (a == b) = false := by simp [hab]
    have c4 : (a != b) = true := by simp [hab]
    have c5 : (cw == 0) = false := by simp [c1]
    have c6 : (cc == 0) = false := by simp [c2]
    have c7 : (cw + cc != m) = false := by simp [c0]
    have v5 := v5'
    have v6 := v6'
    have v7 := v7'
    have v8 := v8'
    clear hth hcw hcc v9 v5' v6' v7' v8' hab c1 c2 c0 w1' v10 v11 v12 v13 ha hb s1 s2
    go_enter Tryd.func6, Tryd.ntmps6
    go_wp2_with fail
    generalize w.alloc (.cells #[.int .u8 x, .int .u8 y] 41) = w1 at *
    refine (P0.out _).mono ?_
    rintro e _ ⟨rfl, rfl⟩
    go_wp2_with fail
    refine (ringsStep _ _ _ _ _ hs'.out (by decide)).mono ?_
    rintro e w2 ⟨rfl, q2, rfl⟩
    rw [v1.out]
    have b2 := below_drewN w1 q2
    generalize w1.drewN q2 = w2 at *
    go_wp2_with fail
    refine (ringsStep _ _ _ _ _ (hs'.out.to b2) (by decide)).mono ?_
    rintro e w3 ⟨rfl, q3, rfl⟩
    rw [v2.out]
    replace b2 := bthen b2 (below_drewN w2 q3)
    generalize w2.drewN q3 = w3 at *
    go_wp2_with fail
    refine (ringsStep _ _ _ _ _ (hs'.out.to b2) (by decide)).mono ?_
    rintro e w4 ⟨rfl, q4, rfl⟩
    rw [v3.out]
    replace b2 := bthen b2 (below_drewN w3 q4)
    generalize w3.drewN q4 = w4 at *
    go_wp2_with fail
    refine (ringsStep _ _ _ _ _ (hs'.out.to b2) (by decide)).mono ?_
    rintro e w5 ⟨rfl, q5, rfl⟩
    rw [v4.out]
    replace b2 := bthen b2 (below_drewN w4 q5)
    generalize w4.drewN q5 = w5 at *
    go_wp2_with fail
    refine (ringsDistance _ _ _ _ _ (hs'.out.to b2) (by decide)).mono ?_
    rintro e w6 ⟨rfl, q6, rfl⟩
    rw [v5.out]
    replace b2 := bthen b2 (below_drewN w5 q6)
    generalize w5.drewN q6 = w6 at *
    go_wp2_with fail
    refine (ringsDistance _ _ _ _ _ (hs'.out.to b2) (by decide)).mono ?_
    rintro e w7 ⟨rfl, q7, rfl⟩
    rw [v6.out]
    replace b2 := bthen b2 (below_drewN w6 q7)
    generalize w6.drewN q7 = w7 at *
    go_wp2_with fail
    refine (ringsStep _ _ _ _ _ (hs'.out.to b2) (by decide)).mono ?_
    rintro e w8 ⟨rfl, q8, rfl⟩
    rw [v7.out]
    replace b2 := bthen b2 (below_drewN w7 q8)
    generalize w7.drewN q8 = w8 at *
    go_wp2_with fail
    refine (ringsStep _ _ _ _ _ (hs'.out.to b2) (by decide)).mono ?_
    rintro e w9 ⟨rfl, q9, rfl⟩
    rw [v8.out]
    replace b2 := bthen b2 (below_drewN w8 q9)
    generalize w8.drewN q9 = w9 at *
    go_wp2_with fail
    refine (lives03 _ (hs'.out.to b2)).mono ?_
    rintro e wx ⟨rfl, hbL⟩
    go_wp2_with fail
    go_ret
    exact ⟨rfl, bthen (bthen hb'.out b2) hbL⟩
end Go.Proofs.YtodmkbbfmojifaaDoor
