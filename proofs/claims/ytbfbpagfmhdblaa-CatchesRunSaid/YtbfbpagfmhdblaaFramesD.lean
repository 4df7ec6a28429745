/- Frames: Get. -/
import Derived.Test.YtbfbpagfmhdblaaFramesC
namespace Go.Proofs.Ytbfbpagfmhdblaa
open Go.RowKit
set_option linter.unusedSimpArgs false
set_option linter.unusedVariables false
set_option maxRecDepth 100000
/-- What is wrong first with n bytes as a frame; the frame that they are. -/
def getE (L : Nat → Int) (n : Nat) : Int := if n = 14 then if okS L 14 then if mayB (L 0 % 16) (L 0 / 16) then 0 else 4 else 5 else 4
def sqOf (L : Nat → Int) : Int := (numU (fun i => L (2 + i)) 4 : Nat)
def vlOf (L : Nat → Int) : Int := (numU (fun i => L (6 + i)) 4 : Nat)
def getV (L : Nat → Int) (n : Nat) : Value := if getE L n = 0 then frV (L 0 % 16) (L 0 / 16) (L 1) (sqOf L) (vlOf L) else frV 0 0 0 0 0
theorem fr_cells {W : World} {g : Nat} {t : TypeId} {a b c d e : Value} (h : Blk W g #[a, b, c, d, e] t) :
    (W.cell? ⟨g, 0, none⟩ = some a ∧ W.cell? ⟨g, 1, none⟩ = some b ∧ W.cell? ⟨g, 2, none⟩ = some c ∧ W.cell? ⟨g, 3, none⟩ = some d ∧ W.cell? ⟨g, 4, none⟩ = some e) ∧
      (W.frozen? ⟨g, 0, none⟩ = false ∧ W.frozen? ⟨g, 1, none⟩ = false ∧ W.frozen? ⟨g, 2, none⟩ = false ∧ W.frozen? ⟨g, 3, none⟩ = false ∧ W.frozen? ⟨g, 4, none⟩ = false) :=
  ⟨⟨h.cell (i := 0) rfl, h.cell (i := 1) rfl, h.cell (i := 2) rfl, h.cell (i := 3) rfl, h.cell (i := 4) rfl⟩, h.free 0, h.free 1, h.free 2, h.free 3, h.free 4⟩
/-- A frame's block, stored anew. -/
theorem fr_set {W : World} {g : Nat} {t : TypeId} {a b c d e : Value} (h : Blk W g #[a, b, c, d, e] t) (a' b' c' d' e' : Value) :
    Blk (((((W.setCell ⟨g, 0, none⟩ a').setCell ⟨g, 1, none⟩ b').setCell ⟨g, 2, none⟩ c').setCell ⟨g, 3, none⟩ d').setCell ⟨g, 4, none⟩ e') g #[a', b', c', d', e'] t :=
  ((((((h.set 0 a').set 1 b').set 2 c').set 3 d').set 4 e')).congr (by simp)
theorem fr_below {B : Nat} {w W : World} {g : Nat} (h : Below B w W) (hg : B ≤ g) (a' b' c' d' e' : Value) :
    Below B w (((((W.setCell ⟨g, 0, none⟩ a').setCell ⟨g, 1, none⟩ b').setCell ⟨g, 2, none⟩ c').setCell ⟨g, 3, none⟩ d').setCell ⟨g, 4, none⟩ e') :=
  ((((h.setCell (p := ⟨g, 0, none⟩) hg a').setCell (p := ⟨g, 1, none⟩) hg b').setCell (p := ⟨g, 2, none⟩) hg c').setCell (p := ⟨g, 3, none⟩) hg d').setCell (p := ⟨g, 4, none⟩) hg e'
set_option maxHeartbeats 4000000 in
theorem frGet (w : World) (ao : Option Addr) (n c : Nat) (L : Nat → Int) (ha : Rd .u8 w ao n L) (hnil : NilOk ao n c) (hL : ∀ i, i < n → 0 ≤ L i ∧ L i < 256) (hn : n ≤ 900000) :
    Calls Try.prog 30 #[.slice ao n c] w fun e w' => e = .returned (.tuple #[getV L n, .int .i64 (getE L n)]) ∧ Below w.heap.size w w' := by
  by_cases h14 : n = 14
  · subst h14
    cases hok : okS L 14 with
    | false =>
      have hE : getE L 14 = 5 := by simp [getE, hok]
      have hV : getV L 14 = frV 0 0 0 0 0 := by simp [getV, hE]
      have C := Lib.hid (fun (W : World) (h : Rd .u8 W ao 14 L) => by
        have := sumsCheck W ao 14 c L h hnil hL (by omega)
        rw [hok] at this
        exact this)
      rw [hE, hV]
      unfold frV
      clear hok hE hV
      replace ha := Lib.hid ha
      go_enter Try.func30, Try.ntmps30
      go_wp2_with fail
      refine (C.out _ (ha.out.below (below_alloc _ _) (Nat.le_refl _))).mono ?_
      rintro e w1 ⟨a1, rfl, _, hb1⟩
      have hB0 := (Blk.new w #[.int .i64 0, .int .u8 0, .int .u8 0, .int .u32 0, .int .u32 0] 34)
      have hB1 := Lib.hid (hB0.below hb1 hB0.lt)
      have hb01 := bthen (below_alloc _ _) hb1
      clear hB0 hb1
      obtain ⟨⟨c0, c1, c2, c3, c4⟩, f0, f1, f2, f3, f4⟩ := fr_cells hB1.out
      go_wp2
      obtain ⟨⟨s0, s1, s2, s3, s4⟩, _⟩ := fr_cells (fr_set hB1.out (.int .i64 0) (.int .u8 0) (.int .u8 0) (.int .u32 0) (.int .u32 0))
      refine bodyPost_ret (v := .tuple #[.agg #[.int .i64 0, .int .u8 0, .int .u8 0, .int .u32 0, .int .u32 0], .int .i64 5]) (by simp [results, Try.results30, go_sem, s0, s1, s2, s3, s4]) rfl ⟨rfl, fr_below hb01 (Nat.le_refl _) _ _ _ _ _⟩
    | true =>
      have hcn : cntS L 14 = 10 := by simp [cntS, hok]
      have C := Lib.hid (fun (W : World) (h : Rd .u8 W ao 14 L) => by
        have := sumsCheck W ao 14 c L h hnil hL (by omega)
        rw [hok, hcn] at this
        exact this)
      have hL0 := hL 0 (by omega)
      have hL1 := hL 1 (by omega)
      have hE : Hid (getE L 14 = if mayB (L 0 % 16) (L 0 / 16) then 0 else 4) := by show getE L 14 = _; simp [getE, hok]
      have hV : Hid (getV L 14 = if mayB (L 0 % 16) (L 0 / 16) then frV (L 0 % 16) (L 0 / 16) (L 1) (sqOf L) (vlOf L) else frV 0 0 0 0 0) := by show getV L 14 = _; rw [getV, hE.out]; cases mayB (L 0 % 16) (L 0 / 16) <;> simp
      have N1 := Lib.hid (fun (W : World) (g : Nat) (cc : Nat) (h : Rd .u8 W (some ⟨g, 0, none⟩) 10 L) => frNumber W (some ⟨g, 2, none⟩) 4 cc (fun i => L (2 + i)) (fun i hi => by
        obtain ⟨b, o, e1, e2⟩ := h (2 + i) (by omega)
        simp only [Option.some.injEq, Addr.mk.injEq, and_true] at e1
        obtain ⟨rfl, rfl⟩ := e1
        exact ⟨g, 2, rfl, by simpa using e2⟩) (fun i hi => hL (2 + i) (by omega)) (by omega))
      have N2 := Lib.hid (fun (W : World) (g : Nat) (cc : Nat) (h : Rd .u8 W (some ⟨g, 0, none⟩) 10 L) => frNumber W (some ⟨g, 6, none⟩) 4 cc (fun i => L (6 + i)) (fun i hi => by
        obtain ⟨b, o, e1, e2⟩ := h (6 + i) (by omega)
        simp only [Option.some.injEq, Addr.mk.injEq, and_true] at e1
        obtain ⟨rfl, rfl⟩ := e1
        exact ⟨g, 6, rfl, by simpa using e2⟩) (fun i hi => hL (6 + i) (by omega)) (by omega))
      have hsq : Hid (sqOf L = (numU (fun i => L (2 + i)) 4 : Nat)) := rfl
      have hvl : Hid (vlOf L = (numU (fun i => L (6 + i)) 4 : Nat)) := rfl
      rw [hE.out, hV.out, hsq.out, hvl.out]
      generalize numU (fun i => L (2 + i)) 4 = SQ at *
      generalize numU (fun i => L (6 + i)) 4 = VL at *
      have u1 : IntKind.i64.wrap (L 0 % 16) = L 0 % 16 := wrap_i64_small _ (by omega) (by omega)
      have u2 : IntKind.u8.wrap (L 0 % 16) = L 0 % 16 := by rw [IntKind.wrap_u8]; omega
      have u3 : IntKind.u8.wrap (L 0 / 16) = L 0 / 16 := by rw [IntKind.wrap_u8]; omega
      have u4 : Int.tmod (L 0) 16 = L 0 % 16 := Int.tmod_eq_emod_of_nonneg (by omega)
      have u5 : Int.tdiv (L 0) 16 = L 0 / 16 := Int.tdiv_eq_ediv_of_nonneg (by omega)
      clear hok hcn hE hV hnil hsq hvl
      replace ha := Lib.hid ha
      have M := Lib.hid (fun W => frMay W (L 0 % 16) (L 0 / 16) (L 1) SQ VL)
      generalize mayB (L 0 % 16) (L 0 / 16) = mb at *
      go_enter Try.func30, Try.ntmps30
      go_wp2_with fail
      refine (C.out _ (ha.out.below (below_alloc _ _) (Nat.le_refl _))).mono ?_
      rintro e w1 ⟨a1, rfl, m1, hb1⟩
      have hB0 := (Blk.new w #[.int .i64 0, .int .u8 0, .int .u8 0, .int .u32 0, .int .u32 0] 34)
      have hB1 := Lib.hid (hB0.below hb1 hB0.lt)
      have hb01 := bthen (below_alloc _ _) hb1
      have hg1 : w.heap.size ≤ w1.heap.size := hb01.size
      obtain ⟨g, rfl, hgl, hgu, hcell, _⟩ := m1.some (by omega)
      have x1 := Lib.hid m1.rd
      have hgne : w.heap.size < g := by simp at hgl; omega
      have c0 := hcell 0 (by omega)
      have c1 := hcell 1 (by omega)
      clear hB0 hb1 C m1 hcell hgl
      have y1 := Lib.hid (x1.out.below (below_alloc w1 (.cells #[.int .i64 (L 0 % 16), .int .u8 0, .int .u8 0, .int .u32 0, .int .u32 0] 34)) (Nat.le_refl _)).drew
      go_wp2
      go_region_held3 (fun W => W.cell? ⟨g, 0, none⟩ = some (.int .u8 (L 0)) ∧ W.cell? ⟨g, 1, none⟩ = some (.int .u8 (L 1)))
        (first | (simp [go_sem, World.cell?_alloc_past, c0, c1, hgu]; done) | (trace_state; fail))
        (first
          | (go_at_call 67
             (with_reducible refine (N1.out _ g 8 y1.out).mono ?_)
             rintro e _ ⟨rfl, rfl⟩)
          | (go_at_call 67
             (with_reducible refine (N2.out _ g 4 y1.out).mono ?_)
             rintro e _ ⟨rfl, rfl⟩)
          | fail)
      have hF0 := (Blk.new w1 #[.int .i64 (L 0 % 16), .int .u8 (L 0 / 16), .int .u8 (L 1), .int .u32 SQ, .int .u32 VL] 34).drew
      have hB2 := (hB1.out.alloc (.cells #[.int .i64 (L 0 % 16), .int .u8 (L 0 / 16), .int .u8 (L 1), .int .u32 SQ, .int .u32 VL] 34)).drew
      have hb02 := bthen (bthen hb01 (below_alloc w1 (.cells #[.int .i64 (L 0 % 16), .int .u8 (L 0 / 16), .int .u8 (L 1), .int .u32 SQ, .int .u32 VL] 34))) (below_drewN _ 1)
      clear N1 N2 x1 y1 c0 c1 u1 u2 u3 u4 u5
      go_wp2_with fail
      refine (M.out _).mono ?_
      rintro e w3 ⟨rfl, hb3⟩
      have hF3 := hF0.below hb3 hF0.lt
      have hB3 := Lib.hid (hB2.below hb3 hB2.lt)
      have hb03 := bthen hb02 hb3
      clear hF0 hB2 hB1 hb3 hb02 M
      obtain ⟨⟨c0, c1, c2, c3, c4⟩, f0, f1, f2, f3, f4⟩ := fr_cells hB3.out
      cases mb with
      | false =>
        clear hF3
        go_wp2
        obtain ⟨⟨s0, s1, s2, s3, s4⟩, _⟩ := fr_cells (fr_set hB3.out (.int .i64 0) (.int .u8 0) (.int .u8 0) (.int .u32 0) (.int .u32 0))
        refine bodyPost_ret (v := .tuple #[.agg #[.int .i64 0, .int .u8 0, .int .u8 0, .int .u32 0, .int .u32 0], .int .i64 4]) (by simp [results, Try.results30, go_sem, s0, s1, s2, s3, s4]) rfl ⟨rfl, fr_below hb03 (Nat.le_refl _) _ _ _ _ _⟩
      | true =>
        obtain ⟨⟨d0, d1, d2, d3, d4⟩, _⟩ := fr_cells hF3
        clear hF3
        go_wp2
        obtain ⟨⟨s0, s1, s2, s3, s4⟩, _⟩ := fr_cells (fr_set hB3.out (.int .i64 (L 0 % 16)) (.int .u8 (L 0 / 16)) (.int .u8 (L 1)) (.int .u32 SQ) (.int .u32 VL))
        refine bodyPost_ret (v := .tuple #[.agg #[.int .i64 (L 0 % 16), .int .u8 (L 0 / 16), .int .u8 (L 1), .int .u32 SQ, .int .u32 VL], .int .i64 0]) (by simp [results, Try.results30, go_sem, s0, s1, s2, s3, s4]) rfl ⟨rfl, fr_below hb03 (Nat.le_refl _) _ _ _ _ _⟩
  · have hE : getE L n = 4 := by simp [getE, h14]
    have hV : getV L n = frV 0 0 0 0 0 := by simp [getV, hE]
    have g1 : decide ((n : Int) = 14) = false := by simp; omega
    have g2 : ¬ (n : Int) = 14 := by omega
    have g3 : ((n : Int) != 14) = true := by simp; omega
    rw [hE, hV]
    unfold frV
    clear hE hV h14
    go_enter Try.func30, Try.ntmps30
    go_wp2
    refine bodyPost_ret (v := .tuple #[.agg #[.int .i64 0, .int .u8 0, .int .u8 0, .int .u32 0, .int .u32 0], .int .i64 4]) (by simp [results, Try.results30, go_sem]) rfl ⟨rfl, below_alloc _ _⟩
end Go.Proofs.Ytbfbpagfmhdblaa
