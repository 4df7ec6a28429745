/- Several texts, one behind the other: FramesD FramesE FramesF FramesH FramesI. -/
import Derived.Test.YtmdohnbhogfopaaZFramesAC
import Derived.Laws.OwnMore
import Derived.Deep.AppendLies
/- Frames: Get. -/
namespace Go.Proofs.Ytmdohnbhogfopaa
open Go.RowKit
set_option linter.unusedSimpArgs false
set_option linter.unusedVariables false
set_option maxRecDepth 100000
/-- What is wrong first with n bytes as a frame; the frame that they are. -/
def getE (L : Nat → Int) (n : Nat) : Int := if n = 14 then if okS L 14 then if mayB (L 0 % 16) (L 0 / 16) then 0 else 4 else 5 else 4
def sqOf (L : Nat → Int) : Int := (numU (fun i => L (2 + i)) 4 : Nat)
def vlOf (L : Nat → Int) : Int := (numU (fun i => L (6 + i)) 4 : Nat)
def getV (L : Nat → Int) (n : Nat) : Value := if getE L n = 0 then frV (L 0 % 16) (L 0 / 16) (L 1) (sqOf L) (vlOf L) else frV 0 0 0 0 0
theorem fr_cells {W : World} {g : Nat} {t : TypeId} {a b c d e : Value} (h : Blk W g #[a, b, c, d, e] t) :
    (W.cell? ⟨g, 0, none⟩ = some a ∧ W.cell? ⟨g, 1, none⟩ = some b ∧ W.cell? ⟨g, 2, none⟩ = some c ∧ W.cell? ⟨g, 3, none⟩ = some d ∧ W.cell? ⟨g, 4, none⟩ = some e) ∧
      (W.frozen? ⟨g, 0, none⟩ = false ∧ W.frozen? ⟨g, 1, none⟩ = false ∧ W.frozen? ⟨g, 2, none⟩ = false ∧ W.frozen? ⟨g, 3, none⟩ = false ∧ W.frozen? ⟨g, 4, none⟩ = false) :=
  ⟨⟨h.cell (i := 0) rfl, h.cell (i := 1) rfl, h.cell (i := 2) rfl, h.cell (i := 3) rfl, h.cell (i := 4) rfl⟩, h.free 0, h.free 1, h.free 2, h.free 3, h.free 4⟩
/-- A frame's block, stored anew. -/
theorem fr_set {W : World} {g : Nat} {t : TypeId} {a b c d e : Value} (h : Blk W g #[a, b, c, d, e] t) (a' b' c' d' e' : Value) :
    Blk (((((W.setCell ⟨g, 0, none⟩ a').setCell ⟨g, 1, none⟩ b').setCell ⟨g, 2, none⟩ c').setCell ⟨g, 3, none⟩ d').setCell ⟨g, 4, none⟩ e') g #[a', b', c', d', e'] t :=
  ((((((h.set 0 a').set 1 b').set 2 c').set 3 d').set 4 e')).congr (by simp)
theorem fr_below {B : Nat} {w W : World} {g : Nat} (h : Below B w W) (hg : B ≤ g) (a' b' c' d' e' : Value) :
    Below B w (((((W.setCell ⟨g, 0, none⟩ a').setCell ⟨g, 1, none⟩ b').setCell ⟨g, 2, none⟩ c').setCell ⟨g, 3, none⟩ d').setCell ⟨g, 4, none⟩ e') :=
  ((((h.setCell (p := ⟨g, 0, none⟩) hg a').setCell (p := ⟨g, 1, none⟩) hg b').setCell (p := ⟨g, 2, none⟩) hg c').setCell (p := ⟨g, 3, none⟩) hg d').setCell (p := ⟨g, 4, none⟩) hg e'
set_option maxHeartbeats 4000000 in
theorem frGet (w : World) (ao : Option Addr) (n c : Nat) (L : Nat → Int) (ha : Rd .u8 w ao n L) (hnil : NilOk ao n c) (hL : ∀ i, i < n → 0 ≤ L i ∧ L i < 256) (hn : n ≤ 900000) :
    Calls Try.prog 54 #[.slice ao n c] w fun e w' => e = .returned (.tuple #[getV L n, .int .i64 (getE L n)]) ∧ Below w.heap.size w w' := by
  by_cases h14 : n = 14
  · subst h14
    cases hok : okS L 14 with
    | false =>
      have hE : getE L 14 = 5 := by simp [getE, hok]
      have hV : getV L 14 = frV 0 0 0 0 0 := by simp [getV, hE]
      have C := Lib.hid (fun (W : World) (h : Rd .u8 W ao 14 L) => by
        have := sumsCheck W ao 14 c L h hnil hL (by omega)
        rw [hok] at this
        exact this)
      rw [hE, hV]
      unfold frV
      clear hok hE hV
      replace ha := Lib.hid ha
      go_enter Try.func54, Try.ntmps54
      go_wp2_with fail
      refine (C.out _ (ha.out.below (below_alloc _ _) (Nat.le_refl _))).mono ?_
      rintro e w1 ⟨a1, rfl, _, hb1⟩
      have hB0 := (Blk.new w #[.int .i64 0, .int .u8 0, .int .u8 0, .int .u32 0, .int .u32 0] 58)
      have hB1 := Lib.hid (hB0.below hb1 hB0.lt)
      have hb01 := bthen (below_alloc _ _) hb1
      clear hB0 hb1
      obtain ⟨⟨c0, c1, c2, c3, c4⟩, f0, f1, f2, f3, f4⟩ := fr_cells hB1.out
      go_wp2
      obtain ⟨⟨s0, s1, s2, s3, s4⟩, _⟩ := fr_cells (fr_set hB1.out (.int .i64 0) (.int .u8 0) (.int .u8 0) (.int .u32 0) (.int .u32 0))
      refine bodyPost_ret (v := .tuple #[.agg #[.int .i64 0, .int .u8 0, .int .u8 0, .int .u32 0, .int .u32 0], .int .i64 5]) (by simp [results, Try.results54, go_sem, s0, s1, s2, s3, s4]) rfl ⟨rfl, fr_below hb01 (Nat.le_refl _) _ _ _ _ _⟩
    | true =>
      have hcn : cntS L 14 = 10 := by simp [cntS, hok]
      have C := Lib.hid (fun (W : World) (h : Rd .u8 W ao 14 L) => by
        have := sumsCheck W ao 14 c L h hnil hL (by omega)
        rw [hok, hcn] at this
        exact this)
      have hL0 := hL 0 (by omega)
      have hL1 := hL 1 (by omega)
      have hE : Hid (getE L 14 = if mayB (L 0 % 16) (L 0 / 16) then 0 else 4) := by show getE L 14 = _; simp [getE, hok]
      have hV : Hid (getV L 14 = if mayB (L 0 % 16) (L 0 / 16) then frV (L 0 % 16) (L 0 / 16) (L 1) (sqOf L) (vlOf L) else frV 0 0 0 0 0) := by show getV L 14 = _; rw [getV, hE.out]; cases mayB (L 0 % 16) (L 0 / 16) <;> simp
      have N1 := Lib.hid (fun (W : World) (g : Nat) (cc : Nat) (h : Rd .u8 W (some ⟨g, 0, none⟩) 10 L) => frNumber W (some ⟨g, 2, none⟩) 4 cc (fun i => L (2 + i)) (fun i hi => by
        obtain ⟨b, o, e1, e2⟩ := h (2 + i) (by omega)
        simp only [Option.some.injEq, Addr.mk.injEq, and_true] at e1
        obtain ⟨rfl, rfl⟩ := e1
        exact ⟨g, 2, rfl, by simpa using e2⟩) (fun i hi => hL (2 + i) (by omega)) (by omega))
      have N2 := Lib.hid (fun (W : World) (g : Nat) (cc : Nat) (h : Rd .u8 W (some ⟨g, 0, none⟩) 10 L) => frNumber W (some ⟨g, 6, none⟩) 4 cc (fun i => L (6 + i)) (fun i hi => by
        obtain ⟨b, o, e1, e2⟩ := h (6 + i) (by omega)
        simp only [Option.some.injEq, Addr.mk.injEq, and_true] at e1
        obtain ⟨rfl, rfl⟩ := e1
        exact ⟨g, 6, rfl, by simpa using e2⟩) (fun i hi => hL (6 + i) (by omega)) (by omega))
      have hsq : Hid (sqOf L = (numU (fun i => L (2 + i)) 4 : Nat)) := rfl
      have hvl : Hid (vlOf L = (numU (fun i => L (6 + i)) 4 : Nat)) := rfl
      rw [hE.out, hV.out, hsq.out, hvl.out]
      generalize numU (fun i => L (2 + i)) 4 = SQ at *
      generalize numU (fun i => L (6 + i)) 4 = VL at *
      have u1 : IntKind.i64.wrap (L 0 % 16) = L 0 % 16 := wrap_i64_small _ (by omega) (by omega)
      have u2 : IntKind.u8.wrap (L 0 % 16) = L 0 % 16 := by rw [IntKind.wrap_u8]; omega
      have u3 : IntKind.u8.wrap (L 0 / 16) = L 0 / 16 := by rw [IntKind.wrap_u8]; omega
      have u4 : Int.tmod (L 0) 16 = L 0 % 16 := Int.tmod_eq_emod_of_nonneg (by omega)
      have u5 : Int.tdiv (L 0) 16 = L 0 / 16 := Int.tdiv_eq_ediv_of_nonneg (by omega)
      clear hok hcn hE hV hnil hsq hvl
      replace ha := Lib.hid ha
      have M := Lib.hid (fun W => frMay W (L 0 % 16) (L 0 / 16) (L 1) SQ VL)
      generalize mayB (L 0 % 16) (L 0 / 16) = mb at *
      go_enter Try.func54, Try.ntmps54
      go_wp2_with fail
      refine (C.out _ (ha.out.below (below_alloc _ _) (Nat.le_refl _))).mono ?_
      rintro e w1 ⟨a1, rfl, m1, hb1⟩
      have hB0 := (Blk.new w #[.int .i64 0, .int .u8 0, .int .u8 0, .int .u32 0, .int .u32 0] 58)
      have hB1 := Lib.hid (hB0.below hb1 hB0.lt)
      have hb01 := bthen (below_alloc _ _) hb1
      have hg1 : w.heap.size ≤ w1.heap.size := hb01.size
      obtain ⟨g, rfl, hgl, hgu, hcell, _⟩ := m1.some (by omega)
      have x1 := Lib.hid m1.rd
      have hgne : w.heap.size < g := by simp at hgl; omega
      have c0 := hcell 0 (by omega)
      have c1 := hcell 1 (by omega)
      clear hB0 hb1 C m1 hcell hgl
      have y1 := Lib.hid (x1.out.below (below_alloc w1 (.cells #[.int .i64 (L 0 % 16), .int .u8 0, .int .u8 0, .int .u32 0, .int .u32 0] 58)) (Nat.le_refl _)).drew
      go_wp2
      go_region_held3 (fun W => W.cell? ⟨g, 0, none⟩ = some (.int .u8 (L 0)) ∧ W.cell? ⟨g, 1, none⟩ = some (.int .u8 (L 1)))
        (first | (simp [go_sem, World.cell?_alloc_past, c0, c1, hgu]; done) | (trace_state; fail))
        (first
          | (go_at_call 98
             (with_reducible refine (N1.out _ g 8 y1.out).mono ?_)
             rintro e _ ⟨rfl, rfl⟩)
          | (go_at_call 98
             (with_reducible refine (N2.out _ g 4 y1.out).mono ?_)
             rintro e _ ⟨rfl, rfl⟩)
          | fail)
      have hF0 := (Blk.new w1 #[.int .i64 (L 0 % 16), .int .u8 (L 0 / 16), .int .u8 (L 1), .int .u32 SQ, .int .u32 VL] 58).drew
      have hB2 := (hB1.out.alloc (.cells #[.int .i64 (L 0 % 16), .int .u8 (L 0 / 16), .int .u8 (L 1), .int .u32 SQ, .int .u32 VL] 58)).drew
      have hb02 := bthen (bthen hb01 (below_alloc w1 (.cells #[.int .i64 (L 0 % 16), .int .u8 (L 0 / 16), .int .u8 (L 1), .int .u32 SQ, .int .u32 VL] 58))) (below_drewN _ 1)
      clear N1 N2 x1 y1 c0 c1 u1 u2 u3 u4 u5
      go_wp2_with fail
      refine (M.out _).mono ?_
      rintro e w3 ⟨rfl, hb3⟩
      have hF3 := hF0.below hb3 hF0.lt
      have hB3 := Lib.hid (hB2.below hb3 hB2.lt)
      have hb03 := bthen hb02 hb3
      clear hF0 hB2 hB1 hb3 hb02 M
      obtain ⟨⟨c0, c1, c2, c3, c4⟩, f0, f1, f2, f3, f4⟩ := fr_cells hB3.out
      cases mb with
      | false =>
        clear hF3
        go_wp2
        obtain ⟨⟨s0, s1, s2, s3, s4⟩, _⟩ := fr_cells (fr_set hB3.out (.int .i64 0) (.int .u8 0) (.int .u8 0) (.int .u32 0) (.int .u32 0))
        refine bodyPost_ret (v := .tuple #[.agg #[.int .i64 0, .int .u8 0, .int .u8 0, .int .u32 0, .int .u32 0], .int .i64 4]) (by simp [results, Try.results54, go_sem, s0, s1, s2, s3, s4]) rfl ⟨rfl, fr_below hb03 (Nat.le_refl _) _ _ _ _ _⟩
      | true =>
        obtain ⟨⟨d0, d1, d2, d3, d4⟩, _⟩ := fr_cells hF3
        clear hF3
        go_wp2
        obtain ⟨⟨s0, s1, s2, s3, s4⟩, _⟩ := fr_cells (fr_set hB3.out (.int .i64 (L 0 % 16)) (.int .u8 (L 0 / 16)) (.int .u8 (L 1)) (.int .u32 SQ) (.int .u32 VL))
        refine bodyPost_ret (v := .tuple #[.agg #[.int .i64 (L 0 % 16), .int .u8 (L 0 / 16), .int .u8 (L 1), .int .u32 SQ, .int .u32 VL], .int .i64 0]) (by simp [results, Try.results54, go_sem, s0, s1, s2, s3, s4]) rfl ⟨rfl, fr_below hb03 (Nat.le_refl _) _ _ _ _ _⟩
  · have hE : getE L n = 4 := by simp [getE, h14]
    have hV : getV L n = frV 0 0 0 0 0 := by simp [getV, hE]
    have g1 : decide ((n : Int) = 14) = false := by simp; omega
    have g2 : ¬ (n : Int) = 14 := by omega
    have g3 : ((n : Int) != 14) = true := by simp; omega
    rw [hE, hV]
    unfold frV
    clear hE hV h14
    go_enter Try.func54, Try.ntmps54
    go_wp2
    refine bodyPost_ret (v := .tuple #[.agg #[.int .i64 0, .int .u8 0, .int .u8 0, .int .u32 0, .int .u32 0], .int .i64 4]) (by simp [results, Try.results54, go_sem]) rfl ⟨rfl, below_alloc _ _⟩
end Go.Proofs.Ytmdohnbhogfopaa
/- Frames: Read. -/
namespace Go.Proofs.Ytmdohnbhogfopaa
open Go.RowKit
set_option linter.unusedSimpArgs false
set_option linter.unusedVariables false
set_option maxRecDepth 100000
/-- What n symbols are read as. -/
def readOk (L : Nat → Int) (n : Nat) : Bool := decide (n = 114) && wholeL L n
def readE (L : Nat → Int) (n : Nat) : Int := if readOk L n then getE (bytesL L) 14 else 4
def readV (L : Nat → Int) (n : Nat) : Value := if readOk L n then getV (bytesL L) 14 else frV 0 0 0 0 0
def readT (L : Nat → Int) (n : Nat) : Value := if readOk L n then tailV (decide (L 112 = 2)) (decide (L 113 = 2)) else tailV false false
theorem bytesL_byte {L : Nat → Int} {q : Nat} (h : wholeL L (8 * q) = true) : ∀ i, i < q → 0 ≤ bytesL L i ∧ bytesL L i < 256 := fun i hi => by
  have h1 : wholeL (fun j => L (8 * i + j)) 8 = true := wholeL_iff.2 fun j hj => wholeL_iff.1 h _ (by omega)
  have := numL_bd h1
  exact ⟨this.1, by have h2 := this.2; have : ((2 : Int) ^ 8) = 256 := by decide
                    unfold bytesL; omega⟩
theorem frV_cells {o k st sq v : Int} : frV o k st sq v = .agg #[.int .i64 o, .int .u8 k, .int .u8 st, .int .u32 sq, .int .u32 v] := rfl
theorem getV_is (L : Nat → Int) (n : Nat) : ∃ o k st sq v, getV L n = .agg #[.int .i64 o, .int .u8 k, .int .u8 st, .int .u32 sq, .int .u32 v] := by
  unfold getV
  split
  · exact ⟨_, _, _, _, _, rfl⟩
  · exact ⟨_, _, _, _, _, rfl⟩
theorem tl_cells {W : World} {g : Nat} {t : TypeId} {a b : Value} (h : Blk W g #[a, b] t) :
    (W.cell? ⟨g, 0, none⟩ = some a ∧ W.cell? ⟨g, 1, none⟩ = some b) ∧ W.frozen? ⟨g, 0, none⟩ = false ∧ W.frozen? ⟨g, 1, none⟩ = false :=
  ⟨⟨h.cell (i := 0) rfl, h.cell (i := 1) rfl⟩, h.free 0, h.free 1⟩
theorem fr_setNe {W : World} {g h : Nat} {t : TypeId} {cs : Array Value} (hB : Blk W h cs t) (hne : h ≠ g) (a' b' c' d' e' : Value) :
    Blk (((((W.setCell ⟨g, 0, none⟩ a').setCell ⟨g, 1, none⟩ b').setCell ⟨g, 2, none⟩ c').setCell ⟨g, 3, none⟩ d').setCell ⟨g, 4, none⟩ e') h cs t :=
  ((((hB.setNe (a := ⟨g, 0, none⟩) hne a').setNe (a := ⟨g, 1, none⟩) hne b').setNe (a := ⟨g, 2, none⟩) hne c').setNe (a := ⟨g, 3, none⟩) hne d').setNe (a := ⟨g, 4, none⟩) hne e'
theorem tl_set {W : World} {g : Nat} {t : TypeId} {a b : Value} (h : Blk W g #[a, b] t) (a' b' : Value) : Blk ((W.setCell ⟨g, 0, none⟩ a').setCell ⟨g, 1, none⟩ b') g #[a', b'] t :=
  ((h.set 0 a').set 1 b').congr (by simp)
theorem tl_setNe {W : World} {g h : Nat} {t : TypeId} {cs : Array Value} (hB : Blk W h cs t) (hne : h ≠ g) (a' b' : Value) : Blk ((W.setCell ⟨g, 0, none⟩ a').setCell ⟨g, 1, none⟩ b') h cs t :=
  (hB.setNe (a := ⟨g, 0, none⟩) hne a').setNe (a := ⟨g, 1, none⟩) hne b'
theorem tl_below {B : Nat} {w W : World} {g : Nat} (h : Below B w W) (hg : B ≤ g) (a' b' : Value) : Below B w ((W.setCell ⟨g, 0, none⟩ a').setCell ⟨g, 1, none⟩ b') :=
  (h.setCell (p := ⟨g, 0, none⟩) hg a').setCell (p := ⟨g, 1, none⟩) hg b'
set_option maxHeartbeats 4000000 in
theorem frRead (w : World) (ao : Option Addr) (n c : Nat) (L : Nat → Int) (ha : Rd .u8 w ao n L) (hnil : NilOk ao n c) (hn : n ≤ 800000) :
    Calls Try.prog 25 #[.slice ao n c] w fun e w' => e = .returned (.tuple #[readV L n, readT L n, .int .i64 (readE L n)]) ∧ Below w.heap.size w w' := by
  cases hok : readOk L n with
  | false =>
    simp only [readV, readT, readE, hok, Bool.false_eq_true, if_false]
    unfold frV tailV
    by_cases h114 : n = 114
    · subst h114
      have hw : wholeL L 114 = false := by simpa [readOk] using hok
      replace ha := Lib.hid ha
      clear hok
      go_enter Try.func25, Try.ntmps25
      go_wp2_with fail
      refine (bitsWhole _ ao 114 c L (ha.out.below ((below_alloc _ _).trans ((below_alloc _ _).mono (by simp))) (Nat.le_refl _)) (by omega)).mono ?_
      rintro e _ ⟨rfl, rfl⟩
      rw [hw]
      go_wp2
      refine bodyPost_ret (v := .tuple #[.agg #[.int .i64 0, .int .u8 0, .int .u8 0, .int .u32 0, .int .u32 0], .agg #[.bool false, .bool false], .int .i64 4]) (by simp [results, Try.results25, go_sem]) rfl ⟨rfl, ((below_alloc _ _).trans ((below_alloc _ _).mono (by simp)))⟩
    · have g1 : decide ((n : Int) = 114) = false := by simp; omega
      have g2 : ¬ (n : Int) = 114 := by omega
      have g3 : ((n : Int) != 114) = true := by simp; omega
      clear hok h114
      go_enter Try.func25, Try.ntmps25
      go_wp2
      refine bodyPost_ret (v := .tuple #[.agg #[.int .i64 0, .int .u8 0, .int .u8 0, .int .u32 0, .int .u32 0], .agg #[.bool false, .bool false], .int .i64 4]) (by simp [results, Try.results25, go_sem]) rfl ⟨rfl, ((below_alloc _ _).trans ((below_alloc _ _).mono (by simp)))⟩
  | true =>
    obtain ⟨h114, hw⟩ : n = 114 ∧ wholeL L n = true := by simpa [readOk] using hok
    subst h114
    have hw2 : wholeL L 112 = true := wholeL_iff.2 fun i hi => wholeL_iff.1 hw i (by omega)
    have hob : okB L 112 = true := by simp [okB, hw2]
    have hcb : cntB L 112 = 14 := by simp [cntB, hob]
    have hby := Lib.hid (bytesL_byte (q := 14) hw2)
    simp only [readV, readT, readE, hok, if_true]
    obtain ⟨o, k, st, sq, v, hgv⟩ := getV_is (bytesL L) 14
    have G := Lib.hid (fun (W : World) (a : Option Addr) (cc : Nat) (h : Rd .u8 W a 14 (bytesL L)) (h2 : NilOk a 14 cc) => by
      have := frGet W a 14 cc (bytesL L) h h2 hby.out (by omega)
      rw [hgv] at this
      exact this)
    rw [hgv]
    generalize getE (bytesL L) 14 = E at *
    have B := Lib.hid (fun (W : World) (h : Rd .u8 W ao 112 L) => by
      have := bitsBytes W ao 112 c L h ⟨by have := hnil.1; omega, hnil.2.1, fun e => by have := hnil.2.2 e; omega⟩ (by omega)
      rw [hob, hcb] at this
      exact this)
    obtain ⟨b, off, rfl, hc112⟩ := ha 112 (by omega)
    obtain ⟨b', off', hb', hc113⟩ := ha 113 (by omega)
    simp only [Option.some.injEq, Addr.mk.injEq, and_true] at hb'
    obtain ⟨rfl, rfl⟩ := hb'
    have hlt := World.block_lt_of_cell? w _ hc112
    have hcc : 114 ≤ c := hnil.1
    have hcc2 : (112 : Int) ≤ (c : Int) := by omega
    have q2 : (L 112 == 2) = decide (L 112 = 2) := rfl
    have q3 : (L 113 == 2) = decide (L 113 = 2) := rfl
    unfold tailV
    generalize decide (L 112 = 2) = t2 at *
    generalize decide (L 113 = 2) = t3 at *
    have hA := Lib.hid (show Below w.heap.size w ((w.alloc (.cells #[.int .i64 0, .int .u8 0, .int .u8 0, .int .u32 0, .int .u32 0] 58)).alloc (.cells #[.bool false, .bool false] 60)) from (below_alloc _ _).trans ((below_alloc _ _).mono (by simp)))
    have hcl : Hid (∀ W, Below w.heap.size w W → W.cell? ⟨b, off + 112, none⟩ = some (.int .u8 (L 112)) ∧ W.cell? ⟨b, off + 113, none⟩ = some (.int .u8 (L 113))) := fun W h => ⟨below_cell hc112 h hlt, below_cell hc113 h hlt⟩
    replace ha := Lib.hid ha
    have x112 := below_cell hc112 hA.out hlt
    have x113 := below_cell hc113 hA.out hlt
    clear hok hgv hnil hob hcb hw2
    go_enter Try.func25, Try.ntmps25
    go_wp2_with fail
    refine (bitsWhole _ _ 114 c L (ha.out.below hA.out (Nat.le_refl _)) (by omega)).mono ?_
    rintro e _ ⟨rfl, rfl⟩
    rw [hw]
    go_wp2_with fail
    go_region_held3 (fun W => W.cell? ⟨b, off + 112, none⟩ = some (.int .u8 (L 112)) ∧ W.cell? ⟨b, off + 113, none⟩ = some (.int .u8 (L 113)))
      (first | exact ⟨x112, x113⟩ | exact hcl.out _ (hA.out.alloc hA.out.size _).drew) (fail)
    have hR0 := Lib.hid ((((Blk.new w #[.int .i64 0, .int .u8 0, .int .u8 0, .int .u32 0, .int .u32 0] 58).alloc (.cells #[.bool false, .bool false] 60)).drew).alloc (.cells #[.bool t2, .bool t3] 60))
    have hS0 := Lib.hid ((show Blk ((w.alloc (.cells #[.int .i64 0, .int .u8 0, .int .u8 0, .int .u32 0, .int .u32 0] 58)).alloc (.cells #[.bool false, .bool false] 60)) (w.heap.size + 1) #[.bool false, .bool false] 60 by have := Blk.new (w.alloc (.cells #[.int .i64 0, .int .u8 0, .int .u8 0, .int .u32 0, .int .u32 0] 58)) #[.bool false, .bool false] 60; simpa using this).drew.alloc (.cells #[.bool t2, .bool t3] 60))
    go_wp2_with fail
    have hb2 : Below w.heap.size w (((w.alloc (.cells #[.int .i64 0, .int .u8 0, .int .u8 0, .int .u32 0, .int .u32 0] 58)).alloc (.cells #[.bool false, .bool false] 60)).alloc (.cells #[.bool t2, .bool t3] 60)).drew := (hA.out.alloc hA.out.size _).drew
    have hT0 : Blk (((w.alloc (.cells #[.int .i64 0, .int .u8 0, .int .u8 0, .int .u32 0, .int .u32 0] 58)).alloc (.cells #[.bool false, .bool false] 60)).alloc (.cells #[.bool t2, .bool t3] 60)).drew (w.heap.size + 1 + 1) #[.bool t2, .bool t3] 60 := by
      have := (Blk.new ((w.alloc (.cells #[.int .i64 0, .int .u8 0, .int .u8 0, .int .u32 0, .int .u32 0] 58)).alloc (.cells #[.bool false, .bool false] 60)) #[.bool t2, .bool t3] 60).drew
      simpa using this
    refine calls_abs (fun W => Below w.heap.size w W ∧ Blk W w.heap.size #[.int .i64 0, .int .u8 0, .int .u8 0, .int .u32 0, .int .u32 0] 58 ∧ Blk W (w.heap.size + 1) #[.bool false, .bool false] 60 ∧ Blk W (w.heap.size + 1 + 1) #[.bool t2, .bool t3] 60) ⟨hb2, hR0.out.drew, hS0.out.drew, hT0⟩ ?_
    clear hb2 hT0 hR0 hS0 hA x112 x113 hc112 hc113 hcl
    rintro w2 ⟨hb2, hR2, hS2, hT2⟩
    refine (B.out w2 ((show Rd .u8 w (some ⟨b, off, none⟩) 112 L from fun i hi => ha.out i (by omega)).below hb2 (Nat.le_refl _))).mono ?_
    rintro e w3 ⟨a3, rfl, m3, hb3⟩
    have hR3 := hR2.below hb3 hR2.lt
    have hS3 := hS2.below hb3 hS2.lt
    have hT3 := hT2.below hb3 hT2.lt
    have hb03 := bthen hb2 hb3
    have x3 := Lib.hid m3.rd
    have n3 : a3 = none → 14 = 0 ∧ 14 = 0 := m3.none
    clear hR2 hS2 hT2 hb2 hb3 m3
    go_wp2_with fail
    refine (G.out _ a3 14 x3.out ⟨Nat.le_refl _, by omega, fun e => by have := n3 e; omega⟩).mono ?_
    rintro e w4 ⟨rfl, hb4⟩
    have hR4 := Lib.hid (hR3.below hb4 hR3.lt)
    have hS4 := Lib.hid (hS3.below hb4 hS3.lt)
    have hT4 := Lib.hid (hT3.below hb4 hT3.lt)
    have hb04 := bthen hb03 hb4
    clear hR3 hS3 hT3 hb03 hb4 n3 x3 G B
    obtain ⟨⟨c0, c1, c2, c3, c4⟩, f0, f1, f2, f3, f4⟩ := fr_cells hR4.out
    obtain ⟨⟨s0, s1⟩, fs0, fs1⟩ := tl_cells hS4.out
    obtain ⟨⟨t0, t1⟩, _⟩ := tl_cells hT4.out
    have hl1 := hR4.out.lt
    have hl2 := hS4.out.lt
    have hl3 := hT4.out.lt
    go_wp2_with fail
    have hF5 := Blk.new w4 #[.int .i64 o, .int .u8 k, .int .u8 st, .int .u32 sq, .int .u32 v] 58
    have hT5 := hT4.out.alloc (.cells #[.int .i64 o, .int .u8 k, .int .u8 st, .int .u32 sq, .int .u32 v] 58)
    have hR5 := hR4.out.alloc (.cells #[.int .i64 o, .int .u8 k, .int .u8 st, .int .u32 sq, .int .u32 v] 58)
    have hS5 := hS4.out.alloc (.cells #[.int .i64 o, .int .u8 k, .int .u8 st, .int .u32 sq, .int .u32 v] 58)
    have hb05 := bthen hb04 (below_alloc w4 (.cells #[.int .i64 o, .int .u8 k, .int .u8 st, .int .u32 sq, .int .u32 v] 58))
    generalize w4.alloc (.cells #[.int .i64 o, .int .u8 k, .int .u8 st, .int .u32 sq, .int .u32 v] 58) = w5 at *
    clear c0 c1 c2 c3 c4 f0 f1 f2 f3 f4 s0 s1 fs0 fs1 t0 t1
    obtain ⟨⟨c0, c1, c2, c3, c4⟩, f0, f1, f2, f3, f4⟩ := fr_cells hR5
    obtain ⟨⟨s0, s1⟩, fs0, fs1⟩ := tl_cells hS5
    replace hF5 := Lib.hid hF5
    replace hT5 := Lib.hid hT5
    replace hR5 := Lib.hid hR5
    replace hS5 := Lib.hid hS5
    have hcl : Hid (∀ W, Blk W w4.heap.size #[.int .i64 o, .int .u8 k, .int .u8 st, .int .u32 sq, .int .u32 v] 58 → Blk W (w.heap.size + 1 + 1) #[.bool t2, .bool t3] 60 →
        (W.cell? ⟨w4.heap.size, 0, none⟩ = some (.int .i64 o) ∧ W.cell? ⟨w4.heap.size, 1, none⟩ = some (.int .u8 k) ∧ W.cell? ⟨w4.heap.size, 2, none⟩ = some (.int .u8 st) ∧ W.cell? ⟨w4.heap.size, 3, none⟩ = some (.int .u32 sq) ∧ W.cell? ⟨w4.heap.size, 4, none⟩ = some (.int .u32 v)) ∧ W.cell? ⟨w.heap.size + 1 + 1, 0, none⟩ = some (.bool t2) ∧ W.cell? ⟨w.heap.size + 1 + 1, 1, none⟩ = some (.bool t3)) := fun W h1 h2 => ⟨(fr_cells h1).1, (tl_cells h2).1⟩
    go_region_held3 (fun W => (W.cell? ⟨w4.heap.size, 0, none⟩ = some (.int .i64 o) ∧ W.cell? ⟨w4.heap.size, 1, none⟩ = some (.int .u8 k) ∧ W.cell? ⟨w4.heap.size, 2, none⟩ = some (.int .u8 st) ∧ W.cell? ⟨w4.heap.size, 3, none⟩ = some (.int .u32 sq) ∧ W.cell? ⟨w4.heap.size, 4, none⟩ = some (.int .u32 v)) ∧ W.cell? ⟨w.heap.size + 1 + 1, 0, none⟩ = some (.bool t2) ∧ W.cell? ⟨w.heap.size + 1 + 1, 1, none⟩ = some (.bool t3))
      (first
        | with_reducible exact hcl.out _ hF5.out.drew hT5.out.drew
        | with_reducible exact hcl.out _ (fr_setNe hF5.out (by omega) _ _ _ _ _).drew (fr_setNe hT5.out (by omega) _ _ _ _ _).drew
        | with_reducible exact hcl.out _ (tl_setNe (fr_setNe hF5.out (by omega) _ _ _ _ _) (by omega) _ _).drew (tl_setNe (fr_setNe hT5.out (by omega) _ _ _ _ _) (by omega) _ _).drew
        | (trace_state; fail)) (fail)
    have hR6 := tl_setNe (g := w.heap.size + 1) (fr_set hR5.out (.int .i64 o) (.int .u8 k) (.int .u8 st) (.int .u32 sq) (.int .u32 v)) (by omega) (.bool t2) (.bool t3) |>.drew
    have hS6 := tl_set (fr_setNe (g := w.heap.size) hS5.out (by omega) (.int .i64 o) (.int .u8 k) (.int .u8 st) (.int .u32 sq) (.int .u32 v)) (.bool t2) (.bool t3) |>.drew
    have hb06 := tl_below (fr_below hb05 (Nat.le_refl _) (.int .i64 o) (.int .u8 k) (.int .u8 st) (.int .u32 sq) (.int .u32 v)) (g := w.heap.size + 1) (by omega) (.bool t2) (.bool t3) |>.drew
    go_wp2_with fail
    obtain ⟨⟨r0, r1, r2, r3, r4⟩, _⟩ := fr_cells hR6
    obtain ⟨⟨v0, v1⟩, _⟩ := tl_cells hS6
    refine bodyPost_ret (v := .tuple #[.agg #[.int .i64 o, .int .u8 k, .int .u8 st, .int .u32 sq, .int .u32 v], .agg #[.bool t2, .bool t3], .int .i64 E]) (by simp [results, Try.results25, go_sem, r0, r1, r2, r3, r4, v0, v1]) rfl ⟨rfl, hb06⟩
end Go.Proofs.Ytmdohnbhogfopaa
/- Frames: the document's Get. -/
namespace Go.Proofs.Ytmdohnbhogfopaa
open Go.RowKit
set_option linter.unusedSimpArgs false
set_option linter.unusedVariables false
set_option maxRecDepth 100000
theorem numU_step (L : Nat → Int) (i : Nat) (hn : numU L i < 16777216) : numU L (i + 1) = 256 * numU L i + (L i).toNat := by
  simp only [numU]
  omega
theorem numU_small (L : Nat → Int) (h : ∀ i, i < 4 → 0 ≤ L i ∧ L i < 256) : ∀ i, i ≤ 4 → numU L i < 256 ^ i
  | 0, _ => by simp [numU]
  | i + 1, hi => by
    have h1 := numU_small L h i (by omega)
    have h2 := h i (by omega)
    have h3 : (256 : Nat) ^ i ≤ 256 ^ 3 := Nat.pow_le_pow_right (by decide) (by omega)
    have h4 : (256 : Nat) ^ 3 = 16777216 := by decide
    rw [numU_step L i (by omega), Nat.pow_succ]
    omega
def InvRG (w1 : World) (g o gf gr cc : Nat) (L : Nat → Int) (k : Nat) (a : Act) (wr : World) : Prop :=
  ∃ (i : Nat), i + k = 4 ∧ Below w1.heap.size w1 wr ∧ Blk wr gf #[.int .i64 (L 0 % 16), .int .u8 (L 0 / 16), .int .u8 (L 1), .int .u32 (numU (fun i => L (2 + i)) i : Nat), .int .u32 (numU (fun i => L (6 + i)) i : Nat)] 110 ∧
    a.tmps.size = 72 ∧ a.defers = [] ∧ slot a 2 = .pointer (some ⟨gr, 0, none⟩) ∧ slot a 3 = .int .i64 0 ∧ slot a 4 = .slice (some ⟨g, o, none⟩) 10 cc ∧ slot a 6 = .pointer (some ⟨gf, 0, none⟩) ∧ slot a 7 = .int .i64 i
set_option maxHeartbeats 4000000 in
theorem refGet (w : World) (ao : Option Addr) (n c : Nat) (L : Nat → Int) (ha : Rd .u8 w ao n L) (hnil : NilOk ao n c) (hL : ∀ i, i < n → 0 ≤ L i ∧ L i < 256) (hn : n ≤ 100000) :
    Calls Try.prog 55 #[.slice ao n c] w fun e w' => e = .returned (.tuple #[getV L n, .int .i64 (getE L n)]) ∧ Below w.heap.size w w' := by
  by_cases h14 : n = 14
  · subst h14
    cases hok : okS L 14 with
    | false =>
      have hE : getE L 14 = 5 := by simp [getE, hok]
      have hV : getV L 14 = frV 0 0 0 0 0 := by simp [getV, hE]
      have C := Lib.hid (fun (W : World) (h : Rd .u8 W ao 14 L) => by
        have := refCheck W ao 14 c L h hnil hL (by omega)
        rw [hok] at this
        exact this)
      rw [hE, hV]
      unfold frV
      clear hok hE hV
      replace ha := Lib.hid ha
      go_enter Try.func55, Try.ntmps55
      go_wp2_with fail
      refine (C.out _ (ha.out.below (below_alloc _ _) (Nat.le_refl _))).mono ?_
      rintro e w1 ⟨a1, cc, rfl, _, hb1⟩
      have hB0 := (Blk.new w #[.int .i64 0, .int .u8 0, .int .u8 0, .int .u32 0, .int .u32 0] 110)
      have hB1 := Lib.hid (hB0.below hb1 hB0.lt)
      have hb01 := bthen (below_alloc _ _) hb1
      clear hB0 hb1
      obtain ⟨⟨c0, c1, c2, c3, c4⟩, f0, f1, f2, f3, f4⟩ := fr_cells hB1.out
      go_wp2
      obtain ⟨⟨s0, s1, s2, s3, s4⟩, _⟩ := fr_cells (fr_set hB1.out (.int .i64 0) (.int .u8 0) (.int .u8 0) (.int .u32 0) (.int .u32 0))
      refine bodyPost_ret (v := .tuple #[.agg #[.int .i64 0, .int .u8 0, .int .u8 0, .int .u32 0, .int .u32 0], .int .i64 5]) (by simp [results, Try.results55, go_sem, s0, s1, s2, s3, s4]) rfl ⟨rfl, fr_below hb01 (Nat.le_refl _) _ _ _ _ _⟩
    | true =>
      have hcn : cntS L 14 = 10 := by simp [cntS, hok]
      have C := Lib.hid (fun (W : World) (h : Rd .u8 W ao 14 L) => by
        have := refCheck W ao 14 c L h hnil hL (by omega)
        rw [hok, hcn] at this
        exact this)
      have hL0 := hL 0 (by omega)
      have hL1 := hL 1 (by omega)
      have hE : Hid (getE L 14 = if mayB (L 0 % 16) (L 0 / 16) then 0 else 4) := by show getE L 14 = _; simp [getE, hok]
      have hV : Hid (getV L 14 = if mayB (L 0 % 16) (L 0 / 16) then frV (L 0 % 16) (L 0 / 16) (L 1) (sqOf L) (vlOf L) else frV 0 0 0 0 0) := by show getV L 14 = _; rw [getV, hE.out]; cases mayB (L 0 % 16) (L 0 / 16) <;> simp
      have hsq : Hid (sqOf L = (numU (fun i => L (2 + i)) 4 : Nat)) := rfl
      have hvl : Hid (vlOf L = (numU (fun i => L (6 + i)) 4 : Nat)) := rfl
      rw [hE.out, hV.out, hsq.out, hvl.out]
      have u1 : IntKind.i64.wrap (L 0 % 16) = L 0 % 16 := wrap_i64_small _ (by omega) (by omega)
      have u3 : IntKind.u8.wrap (L 0 / 16) = L 0 / 16 := by rw [IntKind.wrap_u8]; omega
      have u4 : Int.tmod (L 0) 16 = L 0 % 16 := Int.tmod_eq_emod_of_nonneg (by omega)
      have u5 : Int.tdiv (L 0) 16 = L 0 / 16 := Int.tdiv_eq_ediv_of_nonneg (by omega)
      have s1 := Lib.hid (numU_small (fun i => L (2 + i)) (fun i hi => hL (2 + i) (by omega)))
      have s2 := Lib.hid (numU_small (fun i => L (6 + i)) (fun i hi => hL (6 + i) (by omega)))
      have M := Lib.hid (fun W => refMay W (L 0 % 16) (L 0 / 16) (L 1) (numU (fun i => L (2 + i)) 4 : Nat) (numU (fun i => L (6 + i)) 4 : Nat))
      generalize mayB (L 0 % 16) (L 0 / 16) = mb at *
      clear hok hcn hE hV hnil hsq hvl
      replace ha := Lib.hid ha
      replace hL := Lib.hid hL
      go_enter Try.func55, Try.ntmps55
      go_wp2_with fail
      refine (C.out _ (ha.out.below (below_alloc _ _) (Nat.le_refl _))).mono ?_
      rintro e w1 ⟨a1, cc, rfl, m1, hb1⟩
      have hB0 := (Blk.new w #[.int .i64 0, .int .u8 0, .int .u8 0, .int .u32 0, .int .u32 0] 110)
      have hB1 := hB0.below hb1 hB0.lt
      have hb01 := bthen (below_alloc _ _) hb1
      have hg1 : w.heap.size ≤ w1.heap.size := hb01.size
      obtain ⟨g, o, rfl, c0⟩ := m1 0 (by omega)
      obtain ⟨g', o', hgo, d1⟩ := m1 1 (by omega)
      simp only [Option.some.injEq, Addr.mk.injEq, and_true] at hgo
      obtain ⟨rfl, rfl⟩ := hgo
      have hgl := World.block_lt_of_cell? w1 _ c0
      simp only [Nat.add_zero] at c0
      have x1 := Lib.hid m1
      have hB1' := Lib.hid hB1
      clear hB0 hb1 C m1 hB1
      go_wp2
      refine wp_loop_k (InvRG w1 g o w1.heap.size w.heap.size cc L) 4 ?_ ?_
      · exact ⟨0, by omega, below_alloc _ _, Blk.new _ _ _, by kernel_rfl, rfl, by kernel_rfl, by kernel_rfl, by kernel_rfl, by kernel_rfl, by kernel_rfl⟩
      intro gk1 a wr hI K1 hK1
      obtain ⟨i, hi, hbw, hF, hs', hd', k2', k3', k4', k6', k7'⟩ := hI
      rw [fr72 a hs' hd']; simp only [k2', k3', k4', k6', k7']; clear hs' hd' k2' k3' k4' k6' k7'
      clear c0 d1 u1 u3 u4 u5
      by_cases hi4 : i < 4
      · have g1 : decide ((i : Int) < 4) = true := by simp; omega
        have hq1 := s1.out i (by omega)
        have hq2 := s2.out i (by omega)
        have hpw : (256 : Nat) ^ i ≤ 256 ^ 3 := Nat.pow_le_pow_right (by decide) (by omega)
        have hpw3 : (256 : Nat) ^ 3 = 16777216 := by decide
        obtain ⟨p1, hp1⟩ : ∃ p, 2 + i = p := ⟨_, rfl⟩
        obtain ⟨p2, hp2⟩ : ∃ p, 6 + i = p := ⟨_, rfl⟩
        obtain ⟨_, _, e, x2⟩ := x1.out p1 (by omega)
        simp only [Option.some.injEq, Addr.mk.injEq, and_true] at e
        obtain ⟨rfl, rfl⟩ := e
        obtain ⟨_, _, e, x6⟩ := x1.out p2 (by omega)
        simp only [Option.some.injEq, Addr.mk.injEq, and_true] at e
        obtain ⟨rfl, rfl⟩ := e
        have y2 := below_cell x2 hbw hgl
        have y6 := below_cell x6 hbw hgl
        have b2 := hL.out p1 (by omega)
        have b6 := hL.out p2 (by omega)
        have n2 := numU_step (fun i => L (2 + i)) i (by omega)
        have n6 := numU_step (fun i => L (6 + i)) i (by omega)
        simp only [hp1] at n2
        simp only [hp2] at n6
        have hFn := hF
        generalize hA : numU (fun i => L (2 + i)) i = A at *
        generalize hC : numU (fun i => L (6 + i)) i = C at *
        have e1 : IntKind.i64.wrap (2 + (i : Int)) = (p1 : Int) := by rw [wrap_i64_small _ (by omega) (by omega)]; omega
        have e2 : IntKind.i64.wrap (6 + (i : Int)) = (p2 : Int) := by rw [wrap_i64_small _ (by omega) (by omega)]; omega
        have w1a : IntKind.u32.wrap (256 * (A : Int)) = 256 * (A : Int) := by rw [IntKind.wrap_u32]; omega
        have w1b : IntKind.u32.wrap (256 * (A : Int) + L p1) = ((256 * A + (L p1).toNat : Nat) : Int) := by rw [IntKind.wrap_u32]; omega
        have w2a : IntKind.u32.wrap (256 * (C : Int)) = 256 * (C : Int) := by rw [IntKind.wrap_u32]; omega
        have w2b : IntKind.u32.wrap (256 * (C : Int) + L p2) = ((256 * C + (L p2).toNat : Nat) : Int) := by rw [IntKind.wrap_u32]; omega
        have l2 : IntKind.u32.wrap (L p1) = L p1 := by rw [IntKind.wrap_u32]; omega
        have l6 : IntKind.u32.wrap (L p2) = L p2 := by rw [IntKind.wrap_u32]; omega
        rw [← n2] at w1b
        rw [← n6] at w2b
        have hp1b : (p1 : Int) < 10 := by omega
        have hp2b : (p2 : Int) < 10 := by omega
        have hp1c : p1 < 10 := by omega
        have hp2c : p2 < 10 := by omega
        have hlt2 : w1.heap.size < wr.heap.size := hF.lt
        have hne : g ≠ w1.heap.size := by omega
        obtain ⟨⟨k0, k1, k2, k3, k4⟩, f0, f1, f2, f3, f4⟩ := fr_cells hF
        have hF' := Lib.hid hF
        clear hF hFn n2 n6 hA hC hq1 hq2 hpw hpw3 x2 x6 M s1 s2 hp1 hp2
        generalize hA' : numU (fun i => L (2 + i)) (i + 1) = A' at *
        generalize hC' : numU (fun i => L (6 + i)) (i + 1) = C' at *
        replace hA' := Lib.hid hA'
        replace hC' := Lib.hid hC'
        go_wp2
        refine wp_region_tail 13 (by kernel_rfl) (by kernel_rfl) ?_; simp only [List.take_succ_cons, List.take_zero, List.drop_succ_cons, List.drop_zero]; (repeat still_step); refine wpStill_nil ?_
        go_wp2
        refine wp_region_tail 13 (by kernel_rfl) (by kernel_rfl) ?_; simp only [List.take_succ_cons, List.take_zero, List.drop_succ_cons, List.drop_zero]; (repeat still_step); refine wpStill_nil ?_
        go_wp2
        refine hK1 (4 - (i + 1)) _ _ (by omega) ⟨i + 1, by omega, ((hbw.setCell (p := ⟨w1.heap.size, 3, none⟩) (Nat.le_refl _) _).setCell (p := ⟨w1.heap.size, 4, none⟩) (Nat.le_refl _) _).drew.drew, ?_, by kernel_rfl, rfl, by kernel_rfl, by kernel_rfl, by kernel_rfl, by kernel_rfl, by kernel_rfl⟩
        rw [hA'.out, hC'.out]
        exact (((hF'.out.set 3 (.int .u32 (A' : Nat))).set 4 (.int .u32 (C' : Nat))).congr (by simp)).drew.drew
      · have g1 : decide ((i : Int) < 4) = false := by simp; omega
        obtain rfl : i = 4 := by omega
        have hB2 := hB1'.out.below hbw hB1'.out.lt
        have hb02 := bthen hb01 hbw
        clear hK1 hi hbw s1 s2 x1 hB1'
        have hFx := hF
        generalize hSQ : numU (fun i => L (2 + i)) 4 = SQ at *
        generalize hVL : numU (fun i => L (6 + i)) 4 = VL at *
        replace hSQ := Lib.hid hSQ
        replace hVL := Lib.hid hVL
        obtain ⟨⟨k0, k1, k2, k3, k4⟩, _⟩ := fr_cells hFx
        clear hFx
        go_wp2_with fail
        refine (M.out _).mono ?_
        rintro e w3 ⟨rfl, hb3⟩
        have hF3 := hF.below hb3 hF.lt
        have hB3 := Lib.hid (hB2.below hb3 hB2.lt)
        have hb03 := bthen hb02 hb3
        clear hF hB2 hb3 hb02 M k0 k1 k2 k3 k4
        obtain ⟨⟨c0, c1, c2, c3, c4⟩, f0, f1, f2, f3, f4⟩ := fr_cells hB3.out
        cases mb with
        | false =>
          clear hF3
          go_wp2
          obtain ⟨⟨s0, s1, s2, s3, s4⟩, _⟩ := fr_cells (fr_set hB3.out (.int .i64 0) (.int .u8 0) (.int .u8 0) (.int .u32 0) (.int .u32 0))
          refine bodyPost_ret (v := .tuple #[.agg #[.int .i64 0, .int .u8 0, .int .u8 0, .int .u32 0, .int .u32 0], .int .i64 4]) (by simp [results, Try.results55, go_sem, s0, s1, s2, s3, s4]) rfl ⟨rfl, fr_below hb03 (Nat.le_refl _) _ _ _ _ _⟩
        | true =>
          obtain ⟨⟨d0, d1, d2, d3, d4⟩, _⟩ := fr_cells hF3
          clear hF3
          go_wp2
          obtain ⟨⟨s0, s1, s2, s3, s4⟩, _⟩ := fr_cells (fr_set hB3.out (.int .i64 (L 0 % 16)) (.int .u8 (L 0 / 16)) (.int .u8 (L 1)) (.int .u32 SQ) (.int .u32 VL))
          refine bodyPost_ret (v := .tuple #[.agg #[.int .i64 (L 0 % 16), .int .u8 (L 0 / 16), .int .u8 (L 1), .int .u32 SQ, .int .u32 VL], .int .i64 0]) (by simp [results, Try.results55, go_sem, s0, s1, s2, s3, s4]) rfl ⟨by rw [← hSQ.out, ← hVL.out]; rfl, fr_below hb03 (Nat.le_refl _) _ _ _ _ _⟩
  · have hE : getE L n = 4 := by simp [getE, h14]
    have hV : getV L n = frV 0 0 0 0 0 := by simp [getV, hE]
    have g1 : decide ((n : Int) = 14) = false := by simp; omega
    have g2 : ¬ (n : Int) = 14 := by omega
    have g3 : ((n : Int) != 14) = true := by simp; omega
    rw [hE, hV]
    unfold frV
    clear hE hV h14
    go_enter Try.func55, Try.ntmps55
    go_wp2
    refine bodyPost_ret (v := .tuple #[.agg #[.int .i64 0, .int .u8 0, .int .u8 0, .int .u32 0, .int .u32 0], .int .i64 4]) (by simp [results, Try.results55, go_sem]) rfl ⟨rfl, below_alloc _ _⟩
end Go.Proofs.Ytmdohnbhogfopaa
/- Frames: the document's Put, tails, Syms. -/
namespace Go.Proofs.Ytmdohnbhogfopaa
open Go.RowKit
set_option linter.unusedSimpArgs false
set_option linter.unusedVariables false
set_option maxRecDepth 100000
def InvFP1 (w : World) (H : Nat → Int) (o kk st : Int) (sqn vn : Nat) (k : Nat) (a : Act) (wr : World) : Prop :=
  ∃ (e : Nat) (v : Value), e + k = 4 ∧ Below w.heap.size w wr ∧ w.heap.size + 1 ≤ wr.heap.size ∧ Blk wr w.heap.size #[.int .i64 o, .int .u8 kk, .int .u8 st, .int .u32 sqn, .int .u32 vn] 110 ∧ wr.ownsRow (w.heap.size + 1) 5 1 v (2 + e) (nums .u8 H (2 + e)) ∧
    a.tmps.size = 53 ∧ a.defers = [] ∧ slot a 1 = .pointer (some ⟨w.heap.size, 0, none⟩) ∧ slot a 4 = v ∧ slot a 5 = .int .i64 (3 - e)
def InvFP2 (w : World) (H : Nat → Int) (o kk st : Int) (sqn vn : Nat) (k : Nat) (a : Act) (wr : World) : Prop :=
  ∃ (e : Nat) (v : Value), e + k = 4 ∧ Below w.heap.size w wr ∧ w.heap.size + 1 ≤ wr.heap.size ∧ Blk wr w.heap.size #[.int .i64 o, .int .u8 kk, .int .u8 st, .int .u32 sqn, .int .u32 vn] 110 ∧ wr.ownsRow (w.heap.size + 1) 5 1 v (6 + e) (nums .u8 H (6 + e)) ∧
    a.tmps.size = 53 ∧ a.defers = [] ∧ slot a 1 = .pointer (some ⟨w.heap.size, 0, none⟩) ∧ slot a 4 = v ∧ slot a 6 = .int .i64 (3 - e)
set_option maxHeartbeats 4000000 in
theorem refFrPut (w : World) (o k st sq v : Int) (hk : 0 ≤ k ∧ k < 256) (hst : 0 ≤ st ∧ st < 256) (hsq : 0 ≤ sq ∧ sq < 4294967296) (hv : 0 ≤ v ∧ v < 4294967296) :
    Calls Try.prog 42 #[frV o k st sq v] w fun e w' => ∃ a cc, e = .returned (.tuple #[.slice a (lenF o k) cc, .int .i64 (errF o k)]) ∧ NilOk a (lenF o k) cc ∧ Mine .u8 5 w.heap.size w' a (lenF o k) (frL o k st sq v) ∧ Below w.heap.size w w' := by
  obtain ⟨sqn, rfl⟩ := Int.eq_ofNat_of_zero_le hsq.1
  obtain ⟨vn, rfl⟩ := Int.eq_ofNat_of_zero_le hv.1
  obtain ⟨i0, hi0, hz0, hz1, hz2⟩ := info_parts elemHBytes
  cases hm : mayB o k with
  | false =>
    simp only [lenF, errF, hm]
    unfold frV
    go_enter Try.func42, Try.ntmps42
    go_wp2_with fail
    refine (refMay _ o k st sqn vn).mono ?_
    rintro e w1 ⟨rfl, hb1⟩
    rw [hm]
    go_wp2_with fail
    refine bodyPost_ret (v := .tuple #[.slice none 0 0, .int .i64 1]) (by simp [results, Try.results42, go_sem]) rfl ⟨_, _, rfl, ⟨Nat.le_refl _, by omega, fun _ => ⟨rfl, rfl⟩⟩, Mine.nil _ _ _ _ _ _, bthen (below_alloc _ _) hb1⟩
  | true =>
    have hr := mayB_in hm
    have hh : (0 : Int) ≤ 16 * k + o ∧ 16 * k + o < 256 := by omega
    have u1 : IntKind.i64.wrap k = k := wrap_i64_small _ (by omega) (by omega)
    have u2 : IntKind.i64.wrap (16 * k) = 16 * k := wrap_i64_small _ (by omega) (by omega)
    have u3 : IntKind.i64.wrap (16 * k + o) = 16 * k + o := wrap_i64_small _ (by omega) (by omega)
    have u4 : IntKind.u8.wrap (16 * k + o) = 16 * k + o := by rw [IntKind.wrap_u8]; omega
    have u5 : (16 * k + o) % 256 = 16 * k + o := by omega
    simp only [lenF, errF, hm, if_true]
    have hfr : Hid (frL o k st sqn vn = putS (headL (16 * k + o) st sqn vn) 10) := by show frL o k st sqn vn = _; simp [frL]
    rw [hfr.out]
    obtain ⟨p0, p1, p2, p3⟩ := tail_u8 sqn (by omega)
    obtain ⟨t0, t1, t2, t3⟩ := tail_u8 vn (by omega)
    have hH := Lib.hid (headL_byte (sq := sqn) (v := vn) hh hst)
    have hd0 : Hid (∀ i, i < 4 → headL (16 * k + o) st sqn vn (2 + i) = tailB sqn i) := fun i hi => by
      rw [headL, appL, if_pos (by omega), appL, if_neg (by omega)]; congr 1; omega
    have hd1 : Hid (∀ i, i < 4 → headL (16 * k + o) st sqn vn (6 + i) = tailB vn i) := fun i hi => by
      rw [headL, appL, if_neg (by omega)]; congr 1; omega
    have hlit : Hid ([Value.int .u8 (16 * k + o), Value.int .u8 st] = nums .u8 (headL (16 * k + o) st sqn vn) 2) := rfl
    generalize headL (16 * k + o) st sqn vn = H at *
    have M := Lib.hid (fun W => refMay W o k st sqn vn)
    rw [hm] at M
    clear hm hfr hr hh hsq hv
    unfold frV at M ⊢
    go_enter Try.func42, Try.ntmps42
    go_wp2_with fail
    have hB0 := Blk.new w #[.int .i64 o, .int .u8 k, .int .u8 st, .int .u32 sqn, .int .u32 vn] 110
    refine (M.out _).mono ?_
    rintro e w1 ⟨rfl, hb1⟩
    have hB1 := hB0.below hb1 hB0.lt
    have hb01 := bthen (below_alloc _ _) hb1
    obtain ⟨⟨c0, c1, c2, c3, c4⟩, _⟩ := fr_cells hB1
    have hsz : w.heap.size + 1 ≤ w1.heap.size := hB1.lt
    have hown1 := Lib.hid (World.ownsRow_lit (base := w.heap.size + 1) (e := 5) (size := 1) w1 #[.int .u8 (16 * k + o), .int .u8 st] 2 hsz (by unfold maxLen; omega) rfl)
    have hB1' := Lib.hid hB1
    clear hB0 hb1 hB1 M
    go_wp2
    clear u1 u2 u3 u4 u5
    refine wp_loop_k (InvFP1 w H o k st sqn vn) 4 ?_ ?_
    · refine ⟨0, .slice (some ⟨w1.heap.size, 0, none⟩) 2 2, by omega, bthen hb01 (below_alloc _ _), by simp; omega, hB1'.out.alloc _, ?_, by kernel_rfl, rfl, by kernel_rfl, by kernel_rfl, by kernel_rfl⟩
      rw [Nat.add_zero, ← hlit.out]
      exact hown1.out
    clear c0 c1 c2 c3 c4 hB1' hown1 hb01 hsz
    intro gk a wr hI K1 hK1
    obtain ⟨e, vv, he, hb, hsz, hB, hown, hs', hd', k1', k4', k5'⟩ := hI
    rw [fr53 a hs' hd']; simp only [k1', k4', k5']; clear hs' hd' k1' k4' k5'
    replace hb := Lib.hid hb
    replace hown := Lib.hid hown
    replace hB := Lib.hid hB
    by_cases hle : e < 4
    · have hrow : Hid (H (2 + e) = tailB sqn e) := hd0.out e hle
      obtain ⟨s, hs⟩ : ∃ s : Int, s = 3 - (e : Int) := ⟨_, rfl⟩
      rw [← hs]
      have hcase : (e = 0 ∧ s = 3) ∨ (e = 1 ∧ s = 2) ∨ (e = 2 ∧ s = 1) ∨ (e = 3 ∧ s = 0) := by omega
      clear hs
      obtain ⟨⟨c0, c1, c2, c3, c4⟩, _⟩ := fr_cells hB.out
      rcases hcase with ⟨rfl, rfl⟩ | ⟨rfl, rfl⟩ | ⟨rfl, rfl⟩ | ⟨rfl, rfl⟩
      all_goals
        try simp only [Nat.add_zero] at hrow
        go_wp2_with (at_builtin; refine append_one rfl _ _ 22 rfl (w.heap.size + 1) 5 i0 (.int .u8 0) 1 Try.underlying22 hi0 hz0 hz1 hz2 rfl _ _ _ rfl hown.out _ rfl rfl (by omega) (by omega) hsz ?_)
        intro g1 cc1 w3 hown3 hg3 hb3
        rw [← hrow.out, ← nums_succ] at hown3
        have hb4 := Lib.hid (hb.out.trans (hb3.mono (Nat.le_succ _)))
        have hB4 := Lib.hid (hB.out.below hb3 (Nat.lt_succ_self _))
        have hsz4 : w.heap.size + 1 ≤ w3.heap.size := hB4.out.lt
        have hown4 := Lib.hid hown3
        clear hown3 hg3 hb3 hb hown hB c0 c1 c2 c3 c4
        go_wp2
        first
          | exact hK1 (gk - 1) _ _ (by omega) ⟨1, _, by omega, hb4.out, hsz4, hB4.out, hown4.out, by kernel_rfl, rfl, by kernel_rfl, by kernel_rfl, by kernel_rfl⟩
          | exact hK1 (gk - 1) _ _ (by omega) ⟨2, _, by omega, hb4.out, hsz4, hB4.out, hown4.out, by kernel_rfl, rfl, by kernel_rfl, by kernel_rfl, by kernel_rfl⟩
          | exact hK1 (gk - 1) _ _ (by omega) ⟨3, _, by omega, hb4.out, hsz4, hB4.out, hown4.out, by kernel_rfl, rfl, by kernel_rfl, by kernel_rfl, by kernel_rfl⟩
          | exact hK1 (gk - 1) _ _ (by omega) ⟨4, _, by omega, hb4.out, hsz4, hB4.out, hown4.out, by kernel_rfl, rfl, by kernel_rfl, by kernel_rfl, by kernel_rfl⟩
    · obtain rfl : e = 4 := by omega
      have g1 : decide ((0 : Int) ≤ 3 - ((4 : Nat) : Int)) = false := by decide
      clear hK1 he
      go_wp2
      refine wp_loop_k (InvFP2 w H o k st sqn vn) 4 ?_ ?_
      · exact ⟨0, vv, by omega, hb.out, hsz, hB.out, hown.out, by kernel_rfl, rfl, by kernel_rfl, by kernel_rfl, by kernel_rfl⟩
      clear hb hsz hB hown hle g1
      intro gk2 a wr hI K2 hK2
      obtain ⟨e, vv, he, hb, hsz, hB, hown, hs', hd', k1', k4', k6'⟩ := hI
      rw [fr53 a hs' hd']; simp only [k1', k4', k6']; clear hs' hd' k1' k4' k6'
      replace hb := Lib.hid hb
      replace hown := Lib.hid hown
      replace hB := Lib.hid hB
      by_cases hle : e < 4
      · have hrow : Hid (H (6 + e) = tailB vn e) := hd1.out e hle
        obtain ⟨s, hs⟩ : ∃ s : Int, s = 3 - (e : Int) := ⟨_, rfl⟩
        rw [← hs]
        have hcase : (e = 0 ∧ s = 3) ∨ (e = 1 ∧ s = 2) ∨ (e = 2 ∧ s = 1) ∨ (e = 3 ∧ s = 0) := by omega
        clear hs
        obtain ⟨⟨c0, c1, c2, c3, c4⟩, _⟩ := fr_cells hB.out
        rcases hcase with ⟨rfl, rfl⟩ | ⟨rfl, rfl⟩ | ⟨rfl, rfl⟩ | ⟨rfl, rfl⟩
        all_goals
          try simp only [Nat.add_zero] at hrow
          go_wp2_with (at_builtin; refine append_one rfl _ _ 22 rfl (w.heap.size + 1) 5 i0 (.int .u8 0) 1 Try.underlying22 hi0 hz0 hz1 hz2 rfl _ _ _ rfl hown.out _ rfl rfl (by omega) (by omega) hsz ?_)
          intro g1 cc1 w3 hown3 hg3 hb3
          rw [← hrow.out, ← nums_succ] at hown3
          have hb4 := Lib.hid (hb.out.trans (hb3.mono (Nat.le_succ _)))
          have hB4 := Lib.hid (hB.out.below hb3 (Nat.lt_succ_self _))
          have hsz4 : w.heap.size + 1 ≤ w3.heap.size := hB4.out.lt
          have hown4 := Lib.hid hown3
          clear hown3 hg3 hb3 hb hown hB c0 c1 c2 c3 c4
          go_wp2
          first
            | exact hK2 (gk2 - 1) _ _ (by omega) ⟨1, _, by omega, hb4.out, hsz4, hB4.out, hown4.out, by kernel_rfl, rfl, by kernel_rfl, by kernel_rfl, by kernel_rfl⟩
            | exact hK2 (gk2 - 1) _ _ (by omega) ⟨2, _, by omega, hb4.out, hsz4, hB4.out, hown4.out, by kernel_rfl, rfl, by kernel_rfl, by kernel_rfl, by kernel_rfl⟩
            | exact hK2 (gk2 - 1) _ _ (by omega) ⟨3, _, by omega, hb4.out, hsz4, hB4.out, hown4.out, by kernel_rfl, rfl, by kernel_rfl, by kernel_rfl, by kernel_rfl⟩
            | exact hK2 (gk2 - 1) _ _ (by omega) ⟨4, _, by omega, hb4.out, hsz4, hB4.out, hown4.out, by kernel_rfl, rfl, by kernel_rfl, by kernel_rfl, by kernel_rfl⟩
      · obtain rfl : e = 4 := by omega
        have g1 : decide ((0 : Int) ≤ 3 - ((4 : Nat) : Int)) = false := by decide
        obtain ⟨a4, c4, rfl, hc4, hcm4, hnil4, hm4⟩ := own_mine hown.out
        replace hm4 := Lib.hid hm4
        clear hK2 hown
        go_wp2_with fail
        refine (refPut wr a4 10 c4 H hm4.out.rd ⟨hc4, hcm4, hnil4⟩ hH.out (by omega)).mono ?_
        rintro e w5 ⟨a5, c5, rfl, q1, q2, m5, hb5⟩
        have hn5 := m5.none
        have hbs := hb.out.size
        have hb05 := bthen hb.out hb5
        go_wp2_with fail
        refine bodyPost_ret (v := .tuple #[.slice a5 14 c5, .int .i64 0]) (by simp [results, Try.results42, go_sem]) rfl ⟨_, _, rfl, ⟨q1, q2, fun e => by have := hn5 e; omega⟩, m5.mono hbs, hb05⟩
end Go.Proofs.Ytmdohnbhogfopaa
/- Frames: the document's tails, Syms. -/
namespace Go.Proofs.Ytmdohnbhogfopaa
open Go.RowKit
set_option linter.unusedSimpArgs false
set_option linter.unusedVariables false
set_option maxRecDepth 100000
theorem refSym (w : World) (b : Bool) : Calls Try.prog 94 #[.bool b] w fun e w' => e = .returned (.int .u8 (symI b)) ∧ w = w' := by
  cases b
  all_goals
    go_enter Try.func94, Try.ntmps94
    go_wp2
    go_ret
    exact ⟨rfl, rfl⟩
theorem refGood (w : World) (wh un : Bool) : Calls Try.prog 46 #[tailV wh un] w fun e w' => e = .returned (.bool (goodB wh un)) ∧ Below w.heap.size w w' := by
  unfold tailV
  cases wh <;> cases un
  all_goals
    go_enter Try.func46, Try.ntmps46
    go_wp2
    go_ret
    exact ⟨rfl, below_alloc _ _⟩
set_option maxHeartbeats 1000000 in
theorem refTailSyms (w : World) (wh un : Bool) : Calls Try.prog 48 #[tailV wh un] w fun e w' => ∃ g, e = .returned (.slice (some ⟨g, 0, none⟩) 2 2) ∧ Mine .u8 35 w.heap.size w' (some ⟨g, 0, none⟩) 2 (tailSL wh un) ∧ Below w.heap.size w w' := by
  have P := Lib.hid (fun W b => refSym W b)
  have hts : Hid (tailSL wh un = at2 (symI wh) (symI un)) := rfl
  unfold tailV
  rw [hts.out]
  have hB := Lib.hid (Blk.new w #[.bool wh, .bool un] 115).drew
  have d0 := (tl_cells hB.out).1
  have hb := (below_alloc w (.cells #[.bool wh, .bool un] 115)).drew
  go_enter Try.func48, Try.ntmps48
  go_wp2_with fail
  go_region_held3 (fun W => W.cell? ⟨w.heap.size, 0, none⟩ = some (.bool wh) ∧ W.cell? ⟨w.heap.size, 1, none⟩ = some (.bool un))
    (first | exact d0 | exact (tl_cells (hB.out.alloc _)).1)
    (first
      | (go_at_call 94
         (with_reducible refine (P.out _ wh).mono ?_)
         rintro e _ ⟨rfl, rfl⟩)
      | (go_at_call 94
         (with_reducible refine (P.out _ un).mono ?_)
         rintro e _ ⟨rfl, rfl⟩)
      | fail)
  all_goals
    go_wp2
    go_ret
    have hN : Blk ((w.alloc (.cells #[.bool wh, .bool un] 115)).alloc (.cells #[.int .u8 (symI wh), .int .u8 (symI un)] 35)).drew (w.heap.size + 1) #[.int .u8 (symI wh), .int .u8 (symI un)] 35 := by
      have := (Blk.new (w.alloc (.cells #[.bool wh, .bool un] 115)) #[.int .u8 (symI wh), .int .u8 (symI un)] 35).drew
      simpa using this
    exact ⟨w.heap.size + 1, by simp, fun _ => ⟨w.heap.size + 1, #[.int .u8 (symI wh), .int .u8 (symI un)], rfl, by omega, hN, Nat.le_refl _, fun i hi => by
      rcases i with _ | _ | i
      · rfl
      · rfl
      · omega⟩, ((below_alloc _ _).trans ((below_alloc _ _).mono (by simp))).drew⟩
set_option maxHeartbeats 2000000 in
theorem refFrSyms (w : World) (o k st sq v : Int) (wh un : Bool) (hk : 0 ≤ k ∧ k < 256) (hst : 0 ≤ st ∧ st < 256) (hsq : 0 ≤ sq ∧ sq < 4294967296) (hv : 0 ≤ v ∧ v < 4294967296) :
    Calls Try.prog 44 #[frV o k st sq v, tailV wh un] w fun e w' => ∃ a cc, e = .returned (.tuple #[.slice a (lenS o k) cc, .int .i64 (errF o k)]) ∧ Rd .u8 w' a (lenS o k) (frSL o k st sq v wh un) ∧ Below w.heap.size w w' := by
  have P1 := Lib.hid (fun W => refFrPut W o k st sq v hk hst hsq hv)
  have P2 := Lib.hid (fun W => refTailSyms W wh un)
  obtain ⟨i0, hi0, hz0, hz1, hz2⟩ := info_parts elemS
  cases hm : mayB o k with
  | false =>
    simp only [lenS, errF, lenF, hm] at P1 ⊢
    unfold frV tailV
    go_enter Try.func44, Try.ntmps44
    go_wp2_with fail
    refine (P1.out _).mono ?_
    rintro e w1 ⟨a, cc, rfl, _, _, hb1⟩
    go_wp2_with fail
    refine bodyPost_ret (v := .tuple #[.slice none 0 0, .int .i64 1]) (by simp [results, Try.results44, go_sem]) rfl ⟨none, ⟨0, rfl⟩, fun i hi => absurd hi (Nat.not_lt_zero _), bthen ((below_alloc _ _).trans ((below_alloc _ _).mono (by simp))) hb1⟩
  | true =>
    have hfb := Lib.hid (frL_byte (sq := sq) (v := v) hm hst)
    simp only [lenS, errF, lenF, hm, if_true] at P1 ⊢
    clear hm
    unfold frV tailV
    go_enter Try.func44, Try.ntmps44
    go_wp2_with fail
    have hT0 : Blk ((w.alloc (.cells #[.int .i64 o, .int .u8 k, .int .u8 st, .int .u32 sq, .int .u32 v] 110)).alloc (.cells #[.bool wh, .bool un] 115)) (w.heap.size + 1) #[.bool wh, .bool un] 115 := by
      have := Blk.new (w.alloc (.cells #[.int .i64 o, .int .u8 k, .int .u8 st, .int .u32 sq, .int .u32 v] 110)) #[.bool wh, .bool un] 115
      simpa using this
    refine (P1.out _).mono ?_
    rintro e w1 ⟨a, cc, rfl, _, m1, hb1⟩
    have hT1 := hT0.below hb1 hT0.lt
    have hb01 := bthen ((below_alloc _ _).trans ((below_alloc _ _).mono (by simp))) hb1
    have x1 := Lib.hid m1.rd
    have hT1d := Lib.hid hT1.drew
    have hcl : Hid (∀ W, Blk W (w.heap.size + 1) #[.bool wh, .bool un] 115 → W.cell? ⟨w.heap.size + 1, 0, none⟩ = some (.bool wh) ∧ W.cell? ⟨w.heap.size + 1, 1, none⟩ = some (.bool un)) := fun W h => (tl_cells h).1
    have d0 := hcl.out _ hT1d.out
    clear m1 hT0 hb1 P1
    go_wp2_with fail
    unfold tailV at P2
    have P3 := Lib.hid (fun (W : World) (h : Rd .u8 W a 14 (frL o k st sq v)) => refOfN W a 14 cc _ h hfb.out (by omega))
    have hSL : Hid (nums .u8 (ofL (frL o k st sq v)) 112 ++ nums .u8 (tailSL wh un) 2 = nums .u8 (frSL o k st sq v wh un) 114) := nums_app _ _ _ _ _
    go_region_held3 (fun W => W.cell? ⟨w.heap.size + 1, 0, none⟩ = some (.bool wh) ∧ W.cell? ⟨w.heap.size + 1, 1, none⟩ = some (.bool un)) (first | exact d0 | exact d9 | exact d10 | exact d11)
      (first
        | (go_at_call 92
           (with_reducible refine (P3.out _ x1.out.drew).mono ?_)
           rintro e w9 ⟨a9, c9, rfl, own9, hb9⟩
           have hB9 := hT1d.out.below hb9 hT1d.out.lt
           have d9 := hcl.out _ hB9
           have hb09 := bthen (bthen hb01 (below_drewN w1 1)) hb9)
        | (go_at_call 48
           (with_reducible refine (P2.out _).mono ?_)
           rintro e w10 ⟨g10, rfl, m10, hb10⟩
           have hB10 := hB9.below hb10 hB9.lt
           have d10 := hcl.out _ hB10
           have hb010 := bthen hb09 hb10
           have own10 := own_below own9 hb10 (Nat.le_refl _)
           have x10 := m10.rd)
        | (refine step_append_lies _ rfl _ _ 47 rfl w1.drew.heap.size 35 i0 (.int .u8 0) 1 1 Try.underlying47 hi0 hz0 hz1 hz2 rfl (by omega) _ 112 _ rfl own10 ⟨g10, 0, none⟩ 2 2 (nums .u8 (tailSL wh un) 2) rfl (nums_len _ _ _) (nums_news x10 _ rfl) (nums_one _ _ _) (by omega) (by unfold maxLen; omega) (by omega) (Nat.le_trans hb9.size hb10.size) w10.heap.size rfl ?_
           intro g11 c11 w11 own11 hg11 hl11 hlt11
           have hb11 : Below w1.drew.heap.size w10 w11 := Below.grown (Below.refl _ _) hg11 (Nat.le_trans hb9.size hb10.size) (fun k hk => (own10.lt k hk).1)
           have d11 := hcl.out _ (hB10.below hb11 hT1d.out.lt)
           have hb011 : Below w.heap.size w w11 := hb010.trans (hb11.mono hb01.size)
           rw [hSL.out] at own11)
        | fail)
    obtain ⟨a12, c12, e12, _, _, _, m12⟩ := own_mine (n := 114) (T := frSL o k st sq v wh un) own11
    simp only [Value.slice.injEq] at e12
    obtain ⟨rfl, _, rfl⟩ := e12
    have r12 := Lib.hid m12.rd
    clear own11 own10 own9 hg11 hl11 m12
    go_wp2_with fail
    refine bodyPost_ret (v := .tuple #[.slice (some ⟨g11, 0, none⟩) 114 c11, .int .i64 0]) (by simp [results, Try.results44, go_sem]) rfl ⟨some ⟨g11, 0, none⟩, c11, rfl, r12.out, hb011⟩
end Go.Proofs.Ytmdohnbhogfopaa
