/- Catches: the chapter's examples. -/
import Derived.Test.YtbfbpagfmhdblaaCatchF
namespace Go.Proofs.Ytbfbpagfmhdblaa
open Go.RowKit
set_option linter.unusedSimpArgs false
set_option linter.unusedVariables false
set_option maxRecDepth 100000
/-- A catch of a good frame's symbols, twice. -/
theorem runGood (w : World) (o k st sq v : Int) (hm : mayB o k = true) (hst : 0 ≤ st ∧ st < 256) (hsq : 0 ≤ sq ∧ sq < 4294967296) (hv : 0 ≤ v ∧ v < 4294967296) (a1 : Option Addr) (c1 : Nat) (X : Nat → Int) (a2 : Option Addr) (c2 : Nat) (Y : Nat → Int)
    (h1 : Rd .u8 w a1 114 X) (h2 : Rd .u8 w a2 114 Y) (hX : ∀ i, i < 114 → X i = frSL o k st sq v true false i) (hY : ∀ i, i < 114 → Y i = frSL o k st sq v true false i) :
    Calls Try.prog 40 #[.int .i64 o, .slice a1 114 c1, .slice a2 114 c2] w fun e w' => ∃ a c, e = .returned (.tuple #[.slice a 114 c, frV o k st sq v, .bool true]) ∧
      114 ≤ c ∧ c ≤ 9223372036854775807 ∧ Mine .u8 77 w.heap.size w' a 114 (frSL o k st sq v true false) ∧ Below w.heap.size w w' := by
  have hr := mayB_in hm
  have R := lawRun w o a1 114 c1 X a2 114 c2 Y (by simp [mayB] at hm; omega) h1 h2 (.inl ⟨rfl, by omega⟩)
  have kX : ∀ i, i < 114 → knL X 114 i = frSL o k st sq v true false i := fun i hi => by rw [knL_one hi (by rw [hX i hi]; exact frSL_one i hi), hX i hi]
  have kY : ∀ i, i < 114 → knL Y 114 i = frSL o k st sq v true false i := fun i hi => by rw [knL_one hi (by rw [hY i hi]; exact frSL_one i hi), hY i hi]
  obtain ⟨g1, g2, g3⟩ := run_good hm hst hsq hv kX kY
  rw [if_pos g1, g1, g2] at R
  refine R.mono ?_
  rintro e w' ⟨a, c, rfl, h3, h4, h5, h6⟩
  exact ⟨a, c, rfl, h3, h4, h5.congr g3, h6⟩
theorem runNone (w : World) (o k st sq v : Int) (hm : mayB o k = true) (hst : 0 ≤ st ∧ st < 256) (hsq : 0 ≤ sq ∧ sq < 4294967296) (hv : 0 ≤ v ∧ v < 4294967296) (a2 : Option Addr) (c2 : Nat) (Y : Nat → Int)
    (h2 : Rd .u8 w a2 114 Y) (hY : ∀ i, i < 114 → Y i = frSL o k st sq v true false i) :
    Calls Try.prog 40 #[.int .i64 o, .slice none 0 0, .slice a2 114 c2] w fun e w' => ∃ L, (∀ i, i < 112 → L i = frSL o k st sq v true false i) ∧ L 112 = 1 ∧ L 113 = 2 ∧ ∃ a c, e = .returned (.tuple #[.slice a 114 c, frV 0 0 0 0 0, .bool false]) ∧
      114 ≤ c ∧ c ≤ 9223372036854775807 ∧ Mine .u8 77 w.heap.size w' a 114 L ∧ Below w.heap.size w w' := by
  have R := lawRun w o none 0 0 (fun _ => 0) a2 114 c2 Y (by simp [mayB] at hm; omega) (fun i hi => absurd hi (by omega)) h2 (.inr ⟨by omega, rfl⟩)
  have kX : ∀ i, i < 114 → knL (fun _ => 0) 0 i = 0 := fun i hi => by simp [knL, knownI]
  have kY : ∀ i, i < 114 → knL Y 114 i = frSL o k st sq v true false i := fun i hi => by rw [knL_one hi (by rw [hY i hi]; exact frSL_one i hi), hY i hi]
  obtain ⟨g1, g2, g3, g4⟩ := run_none hm hst hsq hv kX kY
  rw [if_neg (by rw [g1]; simp), g1] at R
  refine R.mono ?_
  rintro e w' ⟨a, c, rfl, h3, h4, h5, h6⟩
  exact ⟨_, g2, g3, g4, a, c, rfl, h3, h4, h5, h6⟩
theorem py_cells {W : World} {g : Nat} {t : TypeId} {a b c d : Value} (h : Blk W g #[a, b, c, d] t) :
    W.cell? ⟨g, 0, none⟩ = some a ∧ W.cell? ⟨g, 1, none⟩ = some b ∧ W.cell? ⟨g, 2, none⟩ = some c ∧ W.cell? ⟨g, 3, none⟩ = some d :=
  ⟨h.cell (i := 0) rfl, h.cell (i := 1) rfl, h.cell (i := 2) rfl, h.cell (i := 3) rfl⟩
set_option maxHeartbeats 4000000 in
theorem lives09 (w : World) : Calls Try.prog 41 #[] w fun e w' => e = .returned (.bool true) ∧ Below w.heap.size w w' := by
  have G := Lib.hid (fun W => lawGood W 1 1 0 0 9 (by decide) rfl (by decide) (by decide) (by decide))
  have R1 := Lib.hid (fun W a c (h : Rd .u8 W a 114 (frSL 1 1 0 0 9 true false)) => runGood W 1 1 0 0 9 rfl (by decide) (by decide) (by decide) a c _ a c _ h h (fun _ _ => rfl) (fun _ _ => rfl))
  have R2 := Lib.hid (fun W a c (h : Rd .u8 W a 114 (frSL 1 1 0 0 9 true false)) => runNone W 1 1 0 0 9 rfl (by decide) (by decide) (by decide) a c _ h (fun _ _ => rfl))
  have O := Lib.hid (fun W => lawOf W 1 1 0 0 9)
  generalize frSL 1 1 0 0 9 true false = SL at *
  unfold frV at *
  unfold payV at *
  have hP1 := Blk.new w #[.int .u8 1, .int .u8 0, .int .u32 0, .int .u32 9] 25
  have hb1 := below_alloc w (.cells #[.int .u8 1, .int .u8 0, .int .u32 0, .int .u32 9] 25)
  go_enter Try.func41, Try.ntmps41
  go_wp2_with fail
  generalize w.alloc (.cells #[.int .u8 1, .int .u8 0, .int .u32 0, .int .u32 9] 25) = w1 at *
  refine (G.out w1).mono ?_
  rintro e w2 ⟨a, rfl, m2, hb2⟩
  have hb02 := bthen hb1 hb2
  have hP2 := hP1.below hb2 hP1.lt
  go_wp2_with fail
  refine (R1.out w2 a 114 m2.rd).mono ?_
  rintro e w3 ⟨a3, c3, rfl, hc3, hc3', m3, hb3⟩
  have hb03 := bthen hb02 hb3
  have hP3 := hP2.below hb3 hP2.lt
  have m23 := m2.below hb3 (Nat.le_refl _)
  go_wp2_with fail
  have hb34 := below_alloc w3 (.cells #[.int .i64 1, .int .u8 1, .int .u8 0, .int .u32 0, .int .u32 9] 34)
  have hF4 := Blk.new w3 #[.int .i64 1, .int .u8 1, .int .u8 0, .int .u32 0, .int .u32 9] 34
  have hP4 := hP3.below hb34 hP3.lt
  have m24 := m23.below hb34 (Nat.le_refl _)
  have m34 := m3.below hb34 (Nat.le_refl _)
  have hb04 := bthen hb03 hb34
  generalize w3.alloc (.cells #[.int .i64 1, .int .u8 1, .int .u8 0, .int .u32 0, .int .u32 9] 34) = w4 at *
  refine (R2.out w4 a 114 m24.rd).mono ?_
  rintro e w5 ⟨L2, hL2, hL112, hL113, a5, c5, rfl, hc5, hc5', m5, hb5⟩
  have hF5 := hF4.below hb5 hF4.lt
  have hP5 := hP4.below hb5 hP4.lt
  have m25 := m24.below hb5 (Nat.le_refl _)
  have m35 := m34.below hb5 (Nat.le_refl _)
  have hb05 := bthen hb04 hb5
  have hb56 := below_alloc w5 (.cells #[.int .i64 0, .int .u8 0, .int .u8 0, .int .u32 0, .int .u32 0] 34)
  have hF6 := hF5.below hb56 hF5.lt
  have hP6 := hP5.below hb56 hP5.lt
  have m26 := Lib.hid (m25.below hb56 (Nat.le_refl _))
  have m36 := Lib.hid (m35.below hb56 (Nat.le_refl _))
  have m56 := Lib.hid (m5.below hb56 (Nat.le_refl _))
  have hb06 := bthen hb05 hb56
  replace hL2 := Lib.hid hL2
  clear hF4 hP4 m24 m34 hF5 hP5 m25 m35 hb05 hb5 hb04 hb34 hP3 m23 m3 hb03 hb3 hP2 hb02 m2 hb2 hP1 hb1 G R1 R2 m5
  go_upto_region 5 with fail
  generalize w5.alloc (.cells #[.int .i64 0, .int .u8 0, .int .u8 0, .int .u32 0, .int .u32 0] 34) = w6 at *
  clear hb56
  have S1 := Lib.hid (fun W (hb : Below w6.heap.size w6 W) => sameSyms W a3 a 114 c3 114 SL (m36.out.rd.below hb (Nat.le_refl _)) (m26.out.rd.below hb (Nat.le_refl _)) (by omega))
  have hcl : Hid (∀ W, Below w6.heap.size w6 W → (W.cell? ⟨w3.heap.size, 0, none⟩ = some (.int .i64 1) ∧ W.cell? ⟨w3.heap.size, 1, none⟩ = some (.int .u8 1) ∧ W.cell? ⟨w3.heap.size, 2, none⟩ = some (.int .u8 0) ∧ W.cell? ⟨w3.heap.size, 3, none⟩ = some (.int .u32 0) ∧ W.cell? ⟨w3.heap.size, 4, none⟩ = some (.int .u32 9)) ∧ (W.cell? ⟨w.heap.size, 0, none⟩ = some (.int .u8 1) ∧ W.cell? ⟨w.heap.size, 1, none⟩ = some (.int .u8 0) ∧ W.cell? ⟨w.heap.size, 2, none⟩ = some (.int .u32 0) ∧ W.cell? ⟨w.heap.size, 3, none⟩ = some (.int .u32 9))) :=
    fun W hb => ⟨(fr_cells (hF6.below hb hF6.lt)).1, py_cells (hP6.below hb hP6.lt)⟩
  clear hF6 hP6
  have hb67 : Below w6.heap.size w6 w6.drew := below_drewN w6 1
  have d7 := hcl.out w6.drew hb67
  go_region_held3 (fun W => (W.cell? ⟨w3.heap.size, 0, none⟩ = some (.int .i64 1) ∧ W.cell? ⟨w3.heap.size, 1, none⟩ = some (.int .u8 1) ∧ W.cell? ⟨w3.heap.size, 2, none⟩ = some (.int .u8 0) ∧ W.cell? ⟨w3.heap.size, 3, none⟩ = some (.int .u32 0) ∧ W.cell? ⟨w3.heap.size, 4, none⟩ = some (.int .u32 9)) ∧ (W.cell? ⟨w.heap.size, 0, none⟩ = some (.int .u8 1) ∧ W.cell? ⟨w.heap.size, 1, none⟩ = some (.int .u8 0) ∧ W.cell? ⟨w.heap.size, 2, none⟩ = some (.int .u32 0) ∧ W.cell? ⟨w.heap.size, 3, none⟩ = some (.int .u32 9)))
    (first | exact d7 | exact d8 | exact d9)
    (first
      | (go_at_call 20
         (with_reducible refine (S1.out _ hb67).mono ?_)
         rintro e w8 ⟨rfl, hq8⟩
         have hb68 : Below w6.heap.size w6 w8 := by
           obtain ⟨q, rfl⟩ := hq8
           exact bthen hb67 (below_drewN _ q)
         clear hq8
         have d8 := hcl.out _ hb68)
      | (go_at_call 15
         (with_reducible refine (O.out _).mono ?_)
         rintro e w9 ⟨rfl, hb9⟩
         have hb69 := bthen hb68 hb9
         have d9 := hcl.out _ hb69)
      | fail)
  have hb09 := bthen hb06 hb69
  have m29 := Lib.hid (m26.out.below hb69 (Nat.le_refl _))
  have m59 := Lib.hid (m56.out.below hb69 (Nat.le_refl _))
  clear d7 d8 d9 hb67 hb68 hb9 hb69 hcl S1 O m26 m36 m56 hb06
  obtain ⟨g5, rfl, hg1, hg2, hg3, hg4⟩ := m59.out.some (by omega)
  have k112 := hg3 112 (by omega)
  have k113 := hg3 113 (by omega)
  rw [hL112] at k112
  rw [hL113] at k113
  have hcl : Hid (∀ W, Below w9.heap.size w9 W → W.cell? ⟨g5, 112, none⟩ = some (.int .u8 1) ∧ W.cell? ⟨g5, 113, none⟩ = some (.int .u8 2)) := fun W hb => ⟨below_cell k112 hb hg2, below_cell k113 hb hg2⟩
  have S2 := Lib.hid (fun W (hb : Below w9.heap.size w9 W) => sameSyms W (some ⟨g5, 0, none⟩) a 112 c5 114 SL (((show Rd .u8 w9 (some ⟨g5, 0, none⟩) 112 L2 from fun i hi => m59.out.rd i (by omega)).congr hL2.out).below hb (Nat.le_refl _)) ((show Rd .u8 w9 a 112 SL from fun i hi => m29.out.rd i (by omega)).below hb (Nat.le_refl _)) (by omega))
  have hb910 : Below w9.heap.size w9 w9.drew := below_drewN w9 1
  have d10 := hcl.out w9.drew hb910
  have i1 : (112 : Int) ≤ (c5 : Int) := by omega
  have i2 : (114 : Int) ≤ (c5 : Int) := by omega
  clear hg1 hg2 hg3 hg4 k112 k113 hL2 hL112 hL113
  go_wp2_with fail
  go_region_held3 (fun W => W.cell? ⟨g5, 112, none⟩ = some (.int .u8 1) ∧ W.cell? ⟨g5, 113, none⟩ = some (.int .u8 2))
    (first | exact d10 | exact d11)
    (first
      | (go_at_call 20
         (with_reducible refine (S2.out _ hb910).mono ?_)
         rintro e w11 ⟨rfl, hq8⟩
         have hb911 : Below w9.heap.size w9 w11 := by
           obtain ⟨q, rfl⟩ := hq8
           exact bthen hb910 (below_drewN _ q)
         clear hq8
         have d11 := hcl.out _ hb911)
      | fail)
  go_wp2_with fail
  go_ret
  exact ⟨rfl, bthen hb09 hb911⟩
end Go.Proofs.Ytbfbpagfmhdblaa
