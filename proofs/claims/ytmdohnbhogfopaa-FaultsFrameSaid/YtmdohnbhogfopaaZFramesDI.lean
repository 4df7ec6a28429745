/- Several texts, one behind the other: FramesD FramesE FramesL. -/
import Derived.Test.YtmdohnbhogfopaaZFramesAC
import Derived.Test.YtmdohnbhogfopaaZHelpSyms
import Derived.Test.YtmdohnbhogfopaaZSumsAE
/- Frames: Get. -/
namespace Go.Proofs.Ytmdohnbhogfopaa
open Go.RowKit
set_option linter.unusedSimpArgs false
set_option linter.unusedVariables false
set_option maxRecDepth 100000
/-- What is wrong first with n bytes as a frame; the frame that they are. -/
def getE (L : Nat → Int) (n : Nat) : Int := if n = 14 then if okS L 14 then if mayB (L 0 % 16) (L 0 / 16) then 0 else 4 else 5 else 4
def sqOf (L : Nat → Int) : Int := (numU (fun i => L (2 + i)) 4 : Nat)
def vlOf (L : Nat → Int) : Int := (numU (fun i => L (6 + i)) 4 : Nat)
def getV (L : Nat → Int) (n : Nat) : Value := if getE L n = 0 then frV (L 0 % 16) (L 0 / 16) (L 1) (sqOf L) (vlOf L) else frV 0 0 0 0 0
theorem fr_cells {W : World} {g : Nat} {t : TypeId} {a b c d e : Value} (h : Blk W g #[a, b, c, d, e] t) :
    (W.cell? ⟨g, 0, none⟩ = some a ∧ W.cell? ⟨g, 1, none⟩ = some b ∧ W.cell? ⟨g, 2, none⟩ = some c ∧ W.cell? ⟨g, 3, none⟩ = some d ∧ W.cell? ⟨g, 4, none⟩ = some e) ∧
      (W.frozen? ⟨g, 0, none⟩ = false ∧ W.frozen? ⟨g, 1, none⟩ = false ∧ W.frozen? ⟨g, 2, none⟩ = false ∧ W.frozen? ⟨g, 3, none⟩ = false ∧ W.frozen? ⟨g, 4, none⟩ = false) :=
  ⟨⟨h.cell (i := 0) rfl, h.cell (i := 1) rfl, h.cell (i := 2) rfl, h.cell (i := 3) rfl, h.cell (i := 4) rfl⟩, h.free 0, h.free 1, h.free 2, h.free 3, h.free 4⟩
/-- A frame's block, stored anew. -/
theorem fr_set {W : World} {g : Nat} {t : TypeId} {a b c d e : Value} (h : Blk W g #[a, b, c, d, e] t) (a' b' c' d' e' : Value) :
    Blk (((((W.setCell ⟨g, 0, none⟩ a').setCell ⟨g, 1, none⟩ b').setCell ⟨g, 2, none⟩ c').setCell ⟨g, 3, none⟩ d').setCell ⟨g, 4, none⟩ e') g #[a', b', c', d', e'] t :=
  ((((((h.set 0 a').set 1 b').set 2 c').set 3 d').set 4 e')).congr (by simp)
theorem fr_below {B : Nat} {w W : World} {g : Nat} (h : Below B w W) (hg : B ≤ g) (a' b' c' d' e' : Value) :
    Below B w (((((W.setCell ⟨g, 0, none⟩ a').setCell ⟨g, 1, none⟩ b').setCell ⟨g, 2, none⟩ c').setCell ⟨g, 3, none⟩ d').setCell ⟨g, 4, none⟩ e') :=
  ((((h.setCell (p := ⟨g, 0, none⟩) hg a').setCell (p := ⟨g, 1, none⟩) hg b').setCell (p := ⟨g, 2, none⟩) hg c').setCell (p := ⟨g, 3, none⟩) hg d').setCell (p := ⟨g, 4, none⟩) hg e'
set_option maxHeartbeats 4000000 in
theorem frGet (w : World) (ao : Option Addr) (n c : Nat) (L : Nat → Int) (ha : Rd .u8 w ao n L) (hnil : NilOk ao n c) (hL : ∀ i, i < n → 0 ≤ L i ∧ L i < 256) (hn : n ≤ 900000) :
    Calls Try.prog 54 #[.slice ao n c] w fun e w' => e = .returned (.tuple #[getV L n, .int .i64 (getE L n)]) ∧ Below w.heap.size w w' := by
  by_cases h14 : n = 14
  · subst h14
    cases hok : okS L 14 with
    | false =>
      have hE : getE L 14 = 5 := by simp [getE, hok]
      have hV : getV L 14 = frV 0 0 0 0 0 := by simp [getV, hE]
      have C := Lib.hid (fun (W : World) (h : Rd .u8 W ao 14 L) => by
        have := sumsCheck W ao 14 c L h hnil hL (by omega)
        rw [hok] at this
        exact this)
      rw [hE, hV]
      unfold frV
      clear hok hE hV
      replace ha := Lib.hid ha
      go_enter Try.func54, Try.ntmps54
      go_wp2_with fail
      refine (C.out _ (ha.out.below (below_alloc _ _) (Nat.le_refl _))).mono ?_
      rintro e w1 ⟨a1, rfl, _, hb1⟩
      have hB0 := (Blk.new w #[.int .i64 0, .int .u8 0, .int .u8 0, .int .u32 0, .int .u32 0] 58)
      have hB1 := Lib.hid (hB0.below hb1 hB0.lt)
      have hb01 := bthen (below_alloc _ _) hb1
      clear hB0 hb1
      obtain ⟨⟨c0, c1, c2, c3, c4⟩, f0, f1, f2, f3, f4⟩ := fr_cells hB1.out
      go_wp2
      obtain ⟨⟨s0, s1, s2, s3, s4⟩, _⟩ := fr_cells (fr_set hB1.out (.int .i64 0) (.int .u8 0) (.int .u8 0) (.int .u32 0) (.int .u32 0))
      refine bodyPost_ret (v := .tuple #[.agg #[.int .i64 0, .int .u8 0, .int .u8 0, .int .u32 0, .int .u32 0], .int .i64 5]) (by simp [results, Try.results54, go_sem, s0, s1, s2, s3, s4]) rfl ⟨rfl, fr_below hb01 (Nat.le_refl _) _ _ _ _ _⟩
    | true =>
      have hcn : cntS L 14 = 10 := by simp [cntS, hok]
      have C := Lib.hid (fun (W : World) (h : Rd .u8 W ao 14 L) => by
        have := sumsCheck W ao 14 c L h hnil hL (by omega)
        rw [hok, hcn] at this
        exact this)
      have hL0 := hL 0 (by omega)
      have hL1 := hL 1 (by omega)
      have hE : Hid (getE L 14 = if mayB (L 0 % 16) (L 0 / 16) then 0 else 4) := by show getE L 14 = _; simp [getE, hok]
      have hV : Hid (getV L 14 = if mayB (L 0 % 16) (L 0 / 16) then frV (L 0 % 16) (L 0 / 16) (L 1) (sqOf L) (vlOf L) else frV 0 0 0 0 0) := by show getV L 14 = _; rw [getV, hE.out]; cases mayB (L 0 % 16) (L 0 / 16) <;> simp
      have N1 := Lib.hid (fun (W : World) (g : Nat) (cc : Nat) (h : Rd .u8 W (some ⟨g, 0, none⟩) 10 L) => frNumber W (some ⟨g, 2, none⟩) 4 cc (fun i => L (2 + i)) (fun i hi => by
        obtain ⟨b, o, e1, e2⟩ := h (2 + i) (by omega)
        simp only [Option.some.injEq, Addr.mk.injEq, and_true] at e1
        obtain ⟨rfl, rfl⟩ := e1
        exact ⟨g, 2, rfl, by simpa using e2⟩) (fun i hi => hL (2 + i) (by omega)) (by omega))
      have N2 := Lib.hid (fun (W : World) (g : Nat) (cc : Nat) (h : Rd .u8 W (some ⟨g, 0, none⟩) 10 L) => frNumber W (some ⟨g, 6, none⟩) 4 cc (fun i => L (6 + i)) (fun i hi => by
        obtain ⟨b, o, e1, e2⟩ := h (6 + i) (by omega)
        simp only [Option.some.injEq, Addr.mk.injEq, and_true] at e1
        obtain ⟨rfl, rfl⟩ := e1
        exact ⟨g, 6, rfl, by simpa using e2⟩) (fun i hi => hL (6 + i) (by omega)) (by omega))
      have hsq : Hid (sqOf L = (numU (fun i => L (2 + i)) 4 : Nat)) := rfl
      have hvl : Hid (vlOf L = (numU (fun i => L (6 + i)) 4 : Nat)) := rfl
      rw [hE.out, hV.out, hsq.out, hvl.out]
      generalize numU (fun i => L (2 + i)) 4 = SQ at *
      generalize numU (fun i => L (6 + i)) 4 = VL at *
      have u1 : IntKind.i64.wrap (L 0 % 16) = L 0 % 16 := wrap_i64_small _ (by omega) (by omega)
      have u2 : IntKind.u8.wrap (L 0 % 16) = L 0 % 16 := by rw [IntKind.wrap_u8]; omega
      have u3 : IntKind.u8.wrap (L 0 / 16) = L 0 / 16 := by rw [IntKind.wrap_u8]; omega
      have u4 : Int.tmod (L 0) 16 = L 0 % 16 := Int.tmod_eq_emod_of_nonneg (by omega)
      have u5 : Int.tdiv (L 0) 16 = L 0 / 16 := Int.tdiv_eq_ediv_of_nonneg (by omega)
      clear hok hcn hE hV hnil hsq hvl
      replace ha := Lib.hid ha
      have M := Lib.hid (fun W => frMay W (L 0 % 16) (L 0 / 16) (L 1) SQ VL)
      generalize mayB (L 0 % 16) (L 0 / 16) = mb at *
      go_enter Try.func54, Try.ntmps54
      go_wp2_with fail
      refine (C.out _ (ha.out.below (below_alloc _ _) (Nat.le_refl _))).mono ?_
      rintro e w1 ⟨a1, rfl, m1, hb1⟩
      have hB0 := (Blk.new w #[.int .i64 0, .int .u8 0, .int .u8 0, .int .u32 0, .int .u32 0] 58)
      have hB1 := Lib.hid (hB0.below hb1 hB0.lt)
      have hb01 := bthen (below_alloc _ _) hb1
      have hg1 : w.heap.size ≤ w1.heap.size := hb01.size
      obtain ⟨g, rfl, hgl, hgu, hcell, _⟩ := m1.some (by omega)
      have x1 := Lib.hid m1.rd
      have hgne : w.heap.size < g := by simp at hgl; omega
      have c0 := hcell 0 (by omega)
      have c1 := hcell 1 (by omega)
      clear hB0 hb1 C m1 hcell hgl
      have y1 := Lib.hid (x1.out.below (below_alloc w1 (.cells #[.int .i64 (L 0 % 16), .int .u8 0, .int .u8 0, .int .u32 0, .int .u32 0] 58)) (Nat.le_refl _)).drew
      go_wp2
      go_region_held3 (fun W => W.cell? ⟨g, 0, none⟩ = some (.int .u8 (L 0)) ∧ W.cell? ⟨g, 1, none⟩ = some (.int .u8 (L 1)))
        (first | (simp [go_sem, World.cell?_alloc_past, c0, c1, hgu]; done) | (trace_state; fail))
        (first
          | (go_at_call 98
             (with_reducible refine (N1.out _ g 8 y1.out).mono ?_)
             rintro e _ ⟨rfl, rfl⟩)
          | (go_at_call 98
             (with_reducible refine (N2.out _ g 4 y1.out).mono ?_)
             rintro e _ ⟨rfl, rfl⟩)
          | fail)
      have hF0 := (Blk.new w1 #[.int .i64 (L 0 % 16), .int .u8 (L 0 / 16), .int .u8 (L 1), .int .u32 SQ, .int .u32 VL] 58).drew
      have hB2 := (hB1.out.alloc (.cells #[.int .i64 (L 0 % 16), .int .u8 (L 0 / 16), .int .u8 (L 1), .int .u32 SQ, .int .u32 VL] 58)).drew
      have hb02 := bthen (bthen hb01 (below_alloc w1 (.cells #[.int .i64 (L 0 % 16), .int .u8 (L 0 / 16), .int .u8 (L 1), .int .u32 SQ, .int .u32 VL] 58))) (below_drewN _ 1)
      clear N1 N2 x1 y1 c0 c1 u1 u2 u3 u4 u5
      go_wp2_with fail
      refine (M.out _).mono ?_
      rintro e w3 ⟨rfl, hb3⟩
      have hF3 := hF0.below hb3 hF0.lt
      have hB3 := Lib.hid (hB2.below hb3 hB2.lt)
      have hb03 := bthen hb02 hb3
      clear hF0 hB2 hB1 hb3 hb02 M
      obtain ⟨⟨c0, c1, c2, c3, c4⟩, f0, f1, f2, f3, f4⟩ := fr_cells hB3.out
      cases mb with
      | false =>
        clear hF3
        go_wp2
        obtain ⟨⟨s0, s1, s2, s3, s4⟩, _⟩ := fr_cells (fr_set hB3.out (.int .i64 0) (.int .u8 0) (.int .u8 0) (.int .u32 0) (.int .u32 0))
        refine bodyPost_ret (v := .tuple #[.agg #[.int .i64 0, .int .u8 0, .int .u8 0, .int .u32 0, .int .u32 0], .int .i64 4]) (by simp [results, Try.results54, go_sem, s0, s1, s2, s3, s4]) rfl ⟨rfl, fr_below hb03 (Nat.le_refl _) _ _ _ _ _⟩
      | true =>
        obtain ⟨⟨d0, d1, d2, d3, d4⟩, _⟩ := fr_cells hF3
        clear hF3
        go_wp2
        obtain ⟨⟨s0, s1, s2, s3, s4⟩, _⟩ := fr_cells (fr_set hB3.out (.int .i64 (L 0 % 16)) (.int .u8 (L 0 / 16)) (.int .u8 (L 1)) (.int .u32 SQ) (.int .u32 VL))
        refine bodyPost_ret (v := .tuple #[.agg #[.int .i64 (L 0 % 16), .int .u8 (L 0 / 16), .int .u8 (L 1), .int .u32 SQ, .int .u32 VL], .int .i64 0]) (by simp [results, Try.results54, go_sem, s0, s1, s2, s3, s4]) rfl ⟨rfl, fr_below hb03 (Nat.le_refl _) _ _ _ _ _⟩
  · have hE : getE L n = 4 := by simp [getE, h14]
    have hV : getV L n = frV 0 0 0 0 0 := by simp [getV, hE]
    have g1 : decide ((n : Int) = 14) = false := by simp; omega
    have g2 : ¬ (n : Int) = 14 := by omega
    have g3 : ((n : Int) != 14) = true := by simp; omega
    rw [hE, hV]
    unfold frV
    clear hE hV h14
    go_enter Try.func54, Try.ntmps54
    go_wp2
    refine bodyPost_ret (v := .tuple #[.agg #[.int .i64 0, .int .u8 0, .int .u8 0, .int .u32 0, .int .u32 0], .int .i64 4]) (by simp [results, Try.results54, go_sem]) rfl ⟨rfl, below_alloc _ _⟩
end Go.Proofs.Ytmdohnbhogfopaa
/- Frames: Read. -/
namespace Go.Proofs.Ytmdohnbhogfopaa
open Go.RowKit
set_option linter.unusedSimpArgs false
set_option linter.unusedVariables false
set_option maxRecDepth 100000
/-- What n symbols are read as. -/
def readOk (L : Nat → Int) (n : Nat) : Bool := decide (n = 114) && wholeL L n
def readE (L : Nat → Int) (n : Nat) : Int := if readOk L n then getE (bytesL L) 14 else 4
def readV (L : Nat → Int) (n : Nat) : Value := if readOk L n then getV (bytesL L) 14 else frV 0 0 0 0 0
def readT (L : Nat → Int) (n : Nat) : Value := if readOk L n then tailV (decide (L 112 = 2)) (decide (L 113 = 2)) else tailV false false
theorem bytesL_byte {L : Nat → Int} {q : Nat} (h : wholeL L (8 * q) = true) : ∀ i, i < q → 0 ≤ bytesL L i ∧ bytesL L i < 256 := fun i hi => by
  have h1 : wholeL (fun j => L (8 * i + j)) 8 = true := wholeL_iff.2 fun j hj => wholeL_iff.1 h _ (by omega)
  have := numL_bd h1
  exact ⟨this.1, by have h2 := this.2; have : ((2 : Int) ^ 8) = 256 := by decide
                    unfold bytesL; omega⟩
theorem frV_cells {o k st sq v : Int} : frV o k st sq v = .agg #[.int .i64 o, .int .u8 k, .int .u8 st, .int .u32 sq, .int .u32 v] := rfl
theorem getV_is (L : Nat → Int) (n : Nat) : ∃ o k st sq v, getV L n = .agg #[.int .i64 o, .int .u8 k, .int .u8 st, .int .u32 sq, .int .u32 v] := by
  unfold getV
  split
  · exact ⟨_, _, _, _, _, rfl⟩
  · exact ⟨_, _, _, _, _, rfl⟩
theorem tl_cells {W : World} {g : Nat} {t : TypeId} {a b : Value} (h : Blk W g #[a, b] t) :
    (W.cell? ⟨g, 0, none⟩ = some a ∧ W.cell? ⟨g, 1, none⟩ = some b) ∧ W.frozen? ⟨g, 0, none⟩ = false ∧ W.frozen? ⟨g, 1, none⟩ = false :=
  ⟨⟨h.cell (i := 0) rfl, h.cell (i := 1) rfl⟩, h.free 0, h.free 1⟩
theorem fr_setNe {W : World} {g h : Nat} {t : TypeId} {cs : Array Value} (hB : Blk W h cs t) (hne : h ≠ g) (a' b' c' d' e' : Value) :
    Blk (((((W.setCell ⟨g, 0, none⟩ a').setCell ⟨g, 1, none⟩ b').setCell ⟨g, 2, none⟩ c').setCell ⟨g, 3, none⟩ d').setCell ⟨g, 4, none⟩ e') h cs t :=
  ((((hB.setNe (a := ⟨g, 0, none⟩) hne a').setNe (a := ⟨g, 1, none⟩) hne b').setNe (a := ⟨g, 2, none⟩) hne c').setNe (a := ⟨g, 3, none⟩) hne d').setNe (a := ⟨g, 4, none⟩) hne e'
theorem tl_set {W : World} {g : Nat} {t : TypeId} {a b : Value} (h : Blk W g #[a, b] t) (a' b' : Value) : Blk ((W.setCell ⟨g, 0, none⟩ a').setCell ⟨g, 1, none⟩ b') g #[a', b'] t :=
  ((h.set 0 a').set 1 b').congr (by simp)
theorem tl_setNe {W : World} {g h : Nat} {t : TypeId} {cs : Array Value} (hB : Blk W h cs t) (hne : h ≠ g) (a' b' : Value) : Blk ((W.setCell ⟨g, 0, none⟩ a').setCell ⟨g, 1, none⟩ b') h cs t :=
  (hB.setNe (a := ⟨g, 0, none⟩) hne a').setNe (a := ⟨g, 1, none⟩) hne b'
theorem tl_below {B : Nat} {w W : World} {g : Nat} (h : Below B w W) (hg : B ≤ g) (a' b' : Value) : Below B w ((W.setCell ⟨g, 0, none⟩ a').setCell ⟨g, 1, none⟩ b') :=
  (h.setCell (p := ⟨g, 0, none⟩) hg a').setCell (p := ⟨g, 1, none⟩) hg b'
set_option maxHeartbeats 4000000 in
theorem frRead (w : World) (ao : Option Addr) (n c : Nat) (L : Nat → Int) (ha : Rd .u8 w ao n L) (hnil : NilOk ao n c) (hn : n ≤ 800000) :
    Calls Try.prog 25 #[.slice ao n c] w fun e w' => e = .returned (.tuple #[readV L n, readT L n, .int .i64 (readE L n)]) ∧ Below w.heap.size w w' := by
  cases hok : readOk L n with
  | false =>
    simp only [readV, readT, readE, hok, Bool.false_eq_true, if_false]
    unfold frV tailV
    by_cases h114 : n = 114
    · subst h114
      have hw : wholeL L 114 = false := by simpa [readOk] using hok
      replace ha := Lib.hid ha
      clear hok
      go_enter Try.func25, Try.ntmps25
      go_wp2_with fail
      refine (bitsWhole _ ao 114 c L (ha.out.below ((below_alloc _ _).trans ((below_alloc _ _).mono (by simp))) (Nat.le_refl _)) (by omega)).mono ?_
      rintro e _ ⟨rfl, rfl⟩
      rw [hw]
      go_wp2
      refine bodyPost_ret (v := .tuple #[.agg #[.int .i64 0, .int .u8 0, .int .u8 0, .int .u32 0, .int .u32 0], .agg #[.bool false, .bool false], .int .i64 4]) (by simp [results, Try.results25, go_sem]) rfl ⟨rfl, ((below_alloc _ _).trans ((below_alloc _ _).mono (by simp)))⟩
    · have g1 : decide ((n : Int) = 114) = false := by simp; omega
      have g2 : ¬ (n : Int) = 114 := by omega
      have g3 : ((n : Int) != 114) = true := by simp; omega
      clear hok h114
      go_enter Try.func25, Try.ntmps25
      go_wp2
      refine bodyPost_ret (v := .tuple #[.agg #[.int .i64 0, .int .u8 0, .int .u8 0, .int .u32 0, .int .u32 0], .agg #[.bool false, .bool false], .int .i64 4]) (by simp [results, Try.results25, go_sem]) rfl ⟨rfl, ((below_alloc _ _).trans ((below_alloc _ _).mono (by simp)))⟩
  | true =>
    obtain ⟨h114, hw⟩ : n = 114 ∧ wholeL L n = true := by simpa [readOk] using hok
    subst h114
    have hw2 : wholeL L 112 = true := wholeL_iff.2 fun i hi => wholeL_iff.1 hw i (by omega)
    have hob : okB L 112 = true := by simp [okB, hw2]
    have hcb : cntB L 112 = 14 := by simp [cntB, hob]
    have hby := Lib.hid (bytesL_byte (q := 14) hw2)
    simp only [readV, readT, readE, hok, if_true]
    obtain ⟨o, k, st, sq, v, hgv⟩ := getV_is (bytesL L) 14
    have G := Lib.hid (fun (W : World) (a : Option Addr) (cc : Nat) (h : Rd .u8 W a 14 (bytesL L)) (h2 : NilOk a 14 cc) => by
      have := frGet W a 14 cc (bytesL L) h h2 hby.out (by omega)
      rw [hgv] at this
      exact this)
    rw [hgv]
    generalize getE (bytesL L) 14 = E at *
    have B := Lib.hid (fun (W : World) (h : Rd .u8 W ao 112 L) => by
      have := bitsBytes W ao 112 c L h ⟨by have := hnil.1; omega, hnil.2.1, fun e => by have := hnil.2.2 e; omega⟩ (by omega)
      rw [hob, hcb] at this
      exact this)
    obtain ⟨b, off, rfl, hc112⟩ := ha 112 (by omega)
    obtain ⟨b', off', hb', hc113⟩ := ha 113 (by omega)
    simp only [Option.some.injEq, Addr.mk.injEq, and_true] at hb'
    obtain ⟨rfl, rfl⟩ := hb'
    have hlt := World.block_lt_of_cell? w _ hc112
    have hcc : 114 ≤ c := hnil.1
    have hcc2 : (112 : Int) ≤ (c : Int) := by omega
    have q2 : (L 112 == 2) = decide (L 112 = 2) := rfl
    have q3 : (L 113 == 2) = decide (L 113 = 2) := rfl
    unfold tailV
    generalize decide (L 112 = 2) = t2 at *
    generalize decide (L 113 = 2) = t3 at *
    have hA := Lib.hid (show Below w.heap.size w ((w.alloc (.cells #[.int .i64 0, .int .u8 0, .int .u8 0, .int .u32 0, .int .u32 0] 58)).alloc (.cells #[.bool false, .bool false] 60)) from (below_alloc _ _).trans ((below_alloc _ _).mono (by simp)))
    have hcl : Hid (∀ W, Below w.heap.size w W → W.cell? ⟨b, off + 112, none⟩ = some (.int .u8 (L 112)) ∧ W.cell? ⟨b, off + 113, none⟩ = some (.int .u8 (L 113))) := fun W h => ⟨below_cell hc112 h hlt, below_cell hc113 h hlt⟩
    replace ha := Lib.hid ha
    have x112 := below_cell hc112 hA.out hlt
    have x113 := below_cell hc113 hA.out hlt
    clear hok hgv hnil hob hcb hw2
    go_enter Try.func25, Try.ntmps25
    go_wp2_with fail
    refine (bitsWhole _ _ 114 c L (ha.out.below hA.out (Nat.le_refl _)) (by omega)).mono ?_
    rintro e _ ⟨rfl, rfl⟩
    rw [hw]
    go_wp2_with fail
    go_region_held3 (fun W => W.cell? ⟨b, off + 112, none⟩ = some (.int .u8 (L 112)) ∧ W.cell? ⟨b, off + 113, none⟩ = some (.int .u8 (L 113)))
      (first | exact ⟨x112, x113⟩ | exact hcl.out _ (hA.out.alloc hA.out.size _).drew) (fail)
    have hR0 := Lib.hid ((((Blk.new w #[.int .i64 0, .int .u8 0, .int .u8 0, .int .u32 0, .int .u32 0] 58).alloc (.cells #[.bool false, .bool false] 60)).drew).alloc (.cells #[.bool t2, .bool t3] 60))
    have hS0 := Lib.hid ((show Blk ((w.alloc (.cells #[.int .i64 0, .int .u8 0, .int .u8 0, .int .u32 0, .int .u32 0] 58)).alloc (.cells #[.bool false, .bool false] 60)) (w.heap.size + 1) #[.bool false, .bool false] 60 by have := Blk.new (w.alloc (.cells #[.int .i64 0, .int .u8 0, .int .u8 0, .int .u32 0, .int .u32 0] 58)) #[.bool false, .bool false] 60; simpa using this).drew.alloc (.cells #[.bool t2, .bool t3] 60))
    go_wp2_with fail
    have hb2 : Below w.heap.size w (((w.alloc (.cells #[.int .i64 0, .int .u8 0, .int .u8 0, .int .u32 0, .int .u32 0] 58)).alloc (.cells #[.bool false, .bool false] 60)).alloc (.cells #[.bool t2, .bool t3] 60)).drew := (hA.out.alloc hA.out.size _).drew
    have hT0 : Blk (((w.alloc (.cells #[.int .i64 0, .int .u8 0, .int .u8 0, .int .u32 0, .int .u32 0] 58)).alloc (.cells #[.bool false, .bool false] 60)).alloc (.cells #[.bool t2, .bool t3] 60)).drew (w.heap.size + 1 + 1) #[.bool t2, .bool t3] 60 := by
      have := (Blk.new ((w.alloc (.cells #[.int .i64 0, .int .u8 0, .int .u8 0, .int .u32 0, .int .u32 0] 58)).alloc (.cells #[.bool false, .bool false] 60)) #[.bool t2, .bool t3] 60).drew
      simpa using this
    refine calls_abs (fun W => Below w.heap.size w W ∧ Blk W w.heap.size #[.int .i64 0, .int .u8 0, .int .u8 0, .int .u32 0, .int .u32 0] 58 ∧ Blk W (w.heap.size + 1) #[.bool false, .bool false] 60 ∧ Blk W (w.heap.size + 1 + 1) #[.bool t2, .bool t3] 60) ⟨hb2, hR0.out.drew, hS0.out.drew, hT0⟩ ?_
    clear hb2 hT0 hR0 hS0 hA x112 x113 hc112 hc113 hcl
    rintro w2 ⟨hb2, hR2, hS2, hT2⟩
    refine (B.out w2 ((show Rd .u8 w (some ⟨b, off, none⟩) 112 L from fun i hi => ha.out i (by omega)).below hb2 (Nat.le_refl _))).mono ?_
    rintro e w3 ⟨a3, rfl, m3, hb3⟩
    have hR3 := hR2.below hb3 hR2.lt
    have hS3 := hS2.below hb3 hS2.lt
    have hT3 := hT2.below hb3 hT2.lt
    have hb03 := bthen hb2 hb3
    have x3 := Lib.hid m3.rd
    have n3 : a3 = none → 14 = 0 ∧ 14 = 0 := m3.none
    clear hR2 hS2 hT2 hb2 hb3 m3
    go_wp2_with fail
    refine (G.out _ a3 14 x3.out ⟨Nat.le_refl _, by omega, fun e => by have := n3 e; omega⟩).mono ?_
    rintro e w4 ⟨rfl, hb4⟩
    have hR4 := Lib.hid (hR3.below hb4 hR3.lt)
    have hS4 := Lib.hid (hS3.below hb4 hS3.lt)
    have hT4 := Lib.hid (hT3.below hb4 hT3.lt)
    have hb04 := bthen hb03 hb4
    clear hR3 hS3 hT3 hb03 hb4 n3 x3 G B
    obtain ⟨⟨c0, c1, c2, c3, c4⟩, f0, f1, f2, f3, f4⟩ := fr_cells hR4.out
    obtain ⟨⟨s0, s1⟩, fs0, fs1⟩ := tl_cells hS4.out
    obtain ⟨⟨t0, t1⟩, _⟩ := tl_cells hT4.out
    have hl1 := hR4.out.lt
    have hl2 := hS4.out.lt
    have hl3 := hT4.out.lt
    go_wp2_with fail
    have hF5 := Blk.new w4 #[.int .i64 o, .int .u8 k, .int .u8 st, .int .u32 sq, .int .u32 v] 58
    have hT5 := hT4.out.alloc (.cells #[.int .i64 o, .int .u8 k, .int .u8 st, .int .u32 sq, .int .u32 v] 58)
    have hR5 := hR4.out.alloc (.cells #[.int .i64 o, .int .u8 k, .int .u8 st, .int .u32 sq, .int .u32 v] 58)
    have hS5 := hS4.out.alloc (.cells #[.int .i64 o, .int .u8 k, .int .u8 st, .int .u32 sq, .int .u32 v] 58)
    have hb05 := bthen hb04 (below_alloc w4 (.cells #[.int .i64 o, .int .u8 k, .int .u8 st, .int .u32 sq, .int .u32 v] 58))
    generalize w4.alloc (.cells #[.int .i64 o, .int .u8 k, .int .u8 st, .int .u32 sq, .int .u32 v] 58) = w5 at *
    clear c0 c1 c2 c3 c4 f0 f1 f2 f3 f4 s0 s1 fs0 fs1 t0 t1
    obtain ⟨⟨c0, c1, c2, c3, c4⟩, f0, f1, f2, f3, f4⟩ := fr_cells hR5
    obtain ⟨⟨s0, s1⟩, fs0, fs1⟩ := tl_cells hS5
    replace hF5 := Lib.hid hF5
    replace hT5 := Lib.hid hT5
    replace hR5 := Lib.hid hR5
    replace hS5 := Lib.hid hS5
    have hcl : Hid (∀ W, Blk W w4.heap.size #[.int .i64 o, .int .u8 k, .int .u8 st, .int .u32 sq, .int .u32 v] 58 → Blk W (w.heap.size + 1 + 1) #[.bool t2, .bool t3] 60 →
        (W.cell? ⟨w4.heap.size, 0, none⟩ = some (.int .i64 o) ∧ W.cell? ⟨w4.heap.size, 1, none⟩ = some (.int .u8 k) ∧ W.cell? ⟨w4.heap.size, 2, none⟩ = some (.int .u8 st) ∧ W.cell? ⟨w4.heap.size, 3, none⟩ = some (.int .u32 sq) ∧ W.cell? ⟨w4.heap.size, 4, none⟩ = some (.int .u32 v)) ∧ W.cell? ⟨w.heap.size + 1 + 1, 0, none⟩ = some (.bool t2) ∧ W.cell? ⟨w.heap.size + 1 + 1, 1, none⟩ = some (.bool t3)) := fun W h1 h2 => ⟨(fr_cells h1).1, (tl_cells h2).1⟩
    go_region_held3 (fun W => (W.cell? ⟨w4.heap.size, 0, none⟩ = some (.int .i64 o) ∧ W.cell? ⟨w4.heap.size, 1, none⟩ = some (.int .u8 k) ∧ W.cell? ⟨w4.heap.size, 2, none⟩ = some (.int .u8 st) ∧ W.cell? ⟨w4.heap.size, 3, none⟩ = some (.int .u32 sq) ∧ W.cell? ⟨w4.heap.size, 4, none⟩ = some (.int .u32 v)) ∧ W.cell? ⟨w.heap.size + 1 + 1, 0, none⟩ = some (.bool t2) ∧ W.cell? ⟨w.heap.size + 1 + 1, 1, none⟩ = some (.bool t3))
      (first
        | with_reducible exact hcl.out _ hF5.out.drew hT5.out.drew
        | with_reducible exact hcl.out _ (fr_setNe hF5.out (by omega) _ _ _ _ _).drew (fr_setNe hT5.out (by omega) _ _ _ _ _).drew
        | with_reducible exact hcl.out _ (tl_setNe (fr_setNe hF5.out (by omega) _ _ _ _ _) (by omega) _ _).drew (tl_setNe (fr_setNe hT5.out (by omega) _ _ _ _ _) (by omega) _ _).drew
        | (trace_state; fail)) (fail)
    have hR6 := tl_setNe (g := w.heap.size + 1) (fr_set hR5.out (.int .i64 o) (.int .u8 k) (.int .u8 st) (.int .u32 sq) (.int .u32 v)) (by omega) (.bool t2) (.bool t3) |>.drew
    have hS6 := tl_set (fr_setNe (g := w.heap.size) hS5.out (by omega) (.int .i64 o) (.int .u8 k) (.int .u8 st) (.int .u32 sq) (.int .u32 v)) (.bool t2) (.bool t3) |>.drew
    have hb06 := tl_below (fr_below hb05 (Nat.le_refl _) (.int .i64 o) (.int .u8 k) (.int .u8 st) (.int .u32 sq) (.int .u32 v)) (g := w.heap.size + 1) (by omega) (.bool t2) (.bool t3) |>.drew
    go_wp2_with fail
    obtain ⟨⟨r0, r1, r2, r3, r4⟩, _⟩ := fr_cells hR6
    obtain ⟨⟨v0, v1⟩, _⟩ := tl_cells hS6
    refine bodyPost_ret (v := .tuple #[.agg #[.int .i64 o, .int .u8 k, .int .u8 st, .int .u32 sq, .int .u32 v], .agg #[.bool t2, .bool t3], .int .i64 E]) (by simp [results, Try.results25, go_sem, r0, r1, r2, r3, r4, v0, v1]) rfl ⟨rfl, hb06⟩
end Go.Proofs.Ytmdohnbhogfopaa
/- Frames: what the laws' own functions answer; the chapter's examples. -/
namespace Go.Proofs.Ytmdohnbhogfopaa
open Go.RowKit
set_option linter.unusedSimpArgs false
set_option linter.unusedVariables false
set_option maxRecDepth 100000
theorem lawOf (w : World) (o k st sq v : Int) : Calls Try.prog 41 #[.int .i64 o, payV k st sq v] w fun e w' => e = .returned (frV o k st sq v) ∧ Below w.heap.size w w' := by
  unfold payV frV
  go_enter Try.func41, Try.ntmps41
  go_wp2
  refine bodyPost_ret (v := .agg #[.int .i64 o, .int .u8 k, .int .u8 st, .int .u32 sq, .int .u32 v]) (by simp [results, Try.results41, go_sem]) rfl ⟨rfl, (below_alloc _ _).trans ((below_alloc _ _).mono (by simp))⟩
set_option maxHeartbeats 1000000 in
theorem lawSame (w : World) (o k st sq v : Int) : Calls Try.prog 56 #[frV o k st sq v, frV o k st sq v] w fun e w' => e = .returned (.bool true) ∧ Below w.heap.size w w' := by
  unfold frV
  go_enter Try.func56, Try.ntmps56
  go_wp2
  go_ret
  exact ⟨rfl, (below_alloc _ _).trans ((below_alloc _ _).mono (by simp))⟩
theorem head_ex : ∀ i, i < 10 → frL 1 2 2 3 4 i = litL [33, 2, 0, 0, 0, 3, 0, 0, 0, 4] i := fun i hi => by
  rw [frL, putS, if_pos hi]
  have : ∀ i : Fin 10, headL (16 * 2 + 1) 2 3 4 i = litL [33, 2, 0, 0, 0, 3, 0, 0, 0, 4] i := by decide
  exact this ⟨i, hi⟩
set_option maxHeartbeats 4000000 in
theorem lives05 (w : World) : Calls Try.prog 52 #[] w fun e w' => e = .returned (.bool true) ∧ Below w.heap.size w w' := by
  go_enter Try.func52, Try.ntmps52
  go_wp2_with fail
  refine (lawOf _ 1 2 2 3 4).mono ?_
  rintro e w1 ⟨rfl, hb1⟩
  simp only [frV]
  go_wp2_with fail
  have C := frPut w1 1 2 2 3 4 (by decide) (by decide) (by decide) (by decide)
  have e1 : lenF 1 2 = 14 := by decide
  have e2 : errF 1 2 = 0 := by decide
  rw [e1, e2] at C
  refine C.mono ?_
  rintro e w2 ⟨a2, rfl, m2, hb2⟩
  have hb02 := bthen hb1 hb2
  have n2 : a2 ≠ none := fun e => by have := m2.none e; omega
  obtain ⟨g2, rfl, _⟩ := m2.some (by omega)
  have x2 := Lib.hid ((show Rd .u8 w2 (some ⟨g2, 0, none⟩) 10 (frL 1 2 2 3 4) from fun i hi => m2.rd i (by omega)).congr head_ex)
  clear C m2 hb1 hb2 n2
  go_wp2_with fail
  have hT := Blk.new w2 #[.bool true, .bool false] 60
  refine calls_abs (fun W => Below w2.heap.size w2 W ∧ Blk W w2.heap.size #[.bool true, .bool false] 60 ∧ Rd .u8 W (some ⟨w2.heap.size + 1, 0, none⟩) 10 (litL [33, 2, 0, 0, 0, 3, 0, 0, 0, 4])) ⟨(below_alloc _ _).trans ((below_alloc _ _).mono (by simp)), hT.alloc _, by have := rdLit .u8 5 (w2.alloc (.cells #[.bool true, .bool false] 60)) [33, 2, 0, 0, 0, 3, 0, 0, 0, 4]; simpa using this⟩ ?_
  rintro w3 ⟨hb3, hT3, x3⟩
  refine (sameBytes _ _ _ _ _ _ _ (x2.out.below hb3 (Nat.le_refl _)) x3 (by omega)).mono ?_
  rintro e w4 ⟨rfl, q4, rfl⟩
  have hT4 := hT3.drewN q4
  have hb04 := bthen (bthen hb02 hb3) (below_drewN w3 q4)
  clear hT hb3 hT3 x3 hb02
  generalize w3.drewN q4 = w4 at *
  obtain ⟨⟨t0, t1⟩, _⟩ := tl_cells hT4
  go_wp2_with fail
  have G := frGood w4 true false
  have eg : goodB true false = true := rfl
  rw [eg] at G
  refine G.mono ?_
  rintro e w5 ⟨rfl, hb5⟩
  have hT5 := hT4.below hb5 hT4.lt
  have hb05 := bthen hb04 hb5
  clear G t0 t1 hT4 hb5 hb04
  obtain ⟨⟨t0, t1⟩, _⟩ := tl_cells hT5
  go_wp2_with fail
  refine (frTailSyms w5 true false).mono ?_
  rintro e w6 ⟨a6, rfl, m6, hb6⟩
  have hb06 := bthen hb05 hb6
  have x6 := Lib.hid (m6.rd.congr (L' := litL [2, 1]) fun i hi => by
    rcases i with _ | _ | i
    · rfl
    · rfl
    · omega)
  clear hT5 hb6 t0 t1 m6
  go_wp2_with fail
  refine calls_abs (fun W => Below w6.heap.size w6 W ∧ Rd .u8 W (some ⟨w6.heap.size, 0, none⟩) 2 (litL [2, 1])) ⟨below_alloc _ _, rdLit .u8 35 w6 [2, 1]⟩ ?_
  rintro w7 ⟨hb7, x7⟩
  refine (sameSyms _ _ _ _ _ _ _ (x6.out.below hb7 (Nat.le_refl _)) x7 (by omega)).mono ?_
  rintro e w8 ⟨rfl, q8, rfl⟩
  go_wp2_with fail
  go_ret
  exact ⟨rfl, bthen (bthen hb06 hb7) (below_drewN _ _)⟩
end Go.Proofs.Ytmdohnbhogfopaa
