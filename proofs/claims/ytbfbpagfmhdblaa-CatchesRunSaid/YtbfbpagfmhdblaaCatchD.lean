/- Catches: Step. -/
import Derived.Test.YtbfbpagfmhdblaaCatchB
import Derived.Test.YtbfbpagfmhdblaaCatchC
namespace Go.Proofs.Ytbfbpagfmhdblaa
open Go.RowKit
set_option linter.unusedSimpArgs false
set_option linter.unusedVariables false
set_option maxRecDepth 100000
/-- The first pair that was unlike, one pair later. -/
def unNext (un had x y : Int) : Int := if un = -1 ∧ (x ≠ y ∨ x = 0) then had else un
/-- The four ways of that test. -/
theorem un_ways (un had x y : Int) : ((un == -1) = false ∧ unNext un had x y = un) ∨ ((un == -1) = true ∧ (x == y) = false ∧ (x != y) = true ∧ decide (x = y) = false ∧ unNext un had x y = had) ∨
    ((un == -1) = true ∧ (x == y) = true ∧ (x != y) = false ∧ decide (x = y) = true ∧ (x == 0) = true ∧ unNext un had x y = had) ∨ ((un == -1) = true ∧ (x == y) = true ∧ (x != y) = false ∧ decide (x = y) = true ∧ (x == 0) = false ∧ unNext un had x y = un) := by
  unfold unNext
  by_cases h1 : un = -1
  · by_cases h2 : x = y
    · by_cases h3 : x = 0
      · right; right; left; subst h2; subst h3; simp [h1]
      · right; right; right; subst h2; simp [h1, h3]
    · right; left; simp [h1, h2]
  · left; simp [h1]
set_option maxHeartbeats 4000000 in
theorem stepCut (w : World) (b : Nat) (o : Int) (f : FuncId) (c : Array Value) (v : Value) (had un : Int) (wh hi : Bool) (x y : Int) (hp : 0 ≤ had ∧ had < 114) (h : Ct w b o (.func (.func f) c #[]) v had un true wh hi) :
    Calls Try.prog 45 #[.pointer (some ⟨b, 0, none⟩), .int .u8 x, .int .u8 y] w fun e w' =>
      e = .returned (.int .u8 0) ∧ Ct w' b o (.func (.func f) c #[]) v (had + 1) (unNext un had (knownI x) (knownI y)) true wh hi ∧ Touch [b] w w' := by
  have q1 := eql_func
  have hh : ((had : Int) == 114) = false := by simp; omega
  have hh2 : ¬ (had : Int) = 114 := by omega
  have hw1 : IntKind.i64.wrap (had + 1) = had + 1 := wrap_i64_small _ (by omega) (by omega)
  have K1 := Lib.hid (fun W => catchKnown W x)
  have K2 := Lib.hid (fun W => catchKnown W y)
  obtain ⟨⟨c0, c1, c2, c3, c4, c5, c6, c7⟩, ⟨f1, f2, f3, f4, f5, f6, f7⟩, hlt⟩ := h.cells
  replace h := Lib.hid h
  have hU := un_ways un had (knownI x) (knownI y)
  generalize knownI x = X at *
  generalize knownI y = Y at *
  generalize unNext un had X Y = U at *
  replace hU := Lib.hid hU
  have hpos : Hid (0 ≤ had ∧ had < 114) := hp
  clear hp
  go_enter Try.func45, Try.ntmps45
  go_wp2_with fail
  refine (K1.out _).mono ?_
  rintro e w1 ⟨rfl, hb1⟩
  have h1 := Lib.hid (show Ct w1 b o _ v had un _ wh hi from Blk.below h.out hb1 h.out.lt)
  go_wp2_with fail
  refine (K2.out _).mono ?_
  rintro e w2 ⟨rfl, hb2⟩
  have h2 := Lib.hid (show Ct w2 b o _ v had un _ wh hi from Blk.below h1.out hb2 h1.out.lt)
  have hT := Lib.hid (Touch.of_below (bthen hb1 hb2) (Nat.le_refl _) [b])
  clear h1 hb1 hb2 c0 c1 c2 c3 c4 c5 c6 c7 f1 f2 f3 f4 f5 f6 f7 hlt K1 K2
  obtain ⟨⟨c0, c1, c2, c3, c4, c5, c6, c7⟩, ⟨f1, f2, f3, f4, f5, f6, f7⟩, hlt⟩ := Ct.cells h2.out
  rcases hU.out with ⟨u1, rfl⟩ | ⟨u1, u2, u3, u4, rfl⟩ | ⟨u1, u2, u3, u4, u5, rfl⟩ | ⟨u1, u2, u3, u4, u5, rfl⟩
  all_goals
    clear hU
    go_wp2
    go_ret
    first
      | exact ⟨rfl, h2.out.set3 _, touch_set hT.out (by simp) _⟩
      | exact ⟨rfl, (h2.out.set4 _).set3 _, touch_set (touch_set hT.out (by simp) _) (by simp) _⟩
set_option maxHeartbeats 4000000 in
theorem stepNext (w : World) (b : Nat) (o : Int) (f : FuncId) (hf : f = 76 ∨ f = 97 ∨ f = 102) (v : Value) (had un : Int) (wh hi : Bool) (x y : Int) (hp : 0 ≤ had ∧ had < 114) (R : Int → World → Prop) (h : Ct w b o (.func (.func f) #[.pointer (some ⟨b, 0, none⟩)] #[]) v had un false wh hi)
    (K : ∀ W, Ct W b o (.func (.func f) #[.pointer (some ⟨b, 0, none⟩)] #[]) v (had + 1) (unNext un had (knownI x) (knownI y)) false wh hi → Touch [b] w W →
      Calls Try.prog f #[.pointer (some ⟨b, 0, none⟩), .int .u8 (knownI x), .int .u8 (knownI y)] W fun e w' => ∃ r, e = .returned (.int .u8 r) ∧ R r w') :
    Calls Try.prog 45 #[.pointer (some ⟨b, 0, none⟩), .int .u8 x, .int .u8 y] w fun e w' => ∃ r, e = .returned (.int .u8 r) ∧ R r w' := by
  replace K := Lib.hid K
  have q1 := eql_func
  have hh : ((had : Int) == 114) = false := by simp; omega
  have hh2 : ¬ (had : Int) = 114 := by omega
  have hw1 : IntKind.i64.wrap (had + 1) = had + 1 := wrap_i64_small _ (by omega) (by omega)
  have K1 := Lib.hid (fun W => catchKnown W x)
  have K2 := Lib.hid (fun W => catchKnown W y)
  obtain ⟨⟨c0, c1, c2, c3, c4, c5, c6, c7⟩, ⟨f1, f2, f3, f4, f5, f6, f7⟩, hlt⟩ := h.cells
  replace h := Lib.hid h
  have hU := un_ways un had (knownI x) (knownI y)
  generalize knownI x = X at *
  generalize knownI y = Y at *
  generalize unNext un had X Y = U at *
  replace hU := Lib.hid hU
  have hpos : Hid (0 ≤ had ∧ had < 114) := hp
  clear hp
  rcases hf with rfl | rfl | rfl
  all_goals
    go_enter Try.func45, Try.ntmps45
    go_wp2_with fail
    refine (K1.out _).mono ?_
    rintro e w1 ⟨rfl, hb1⟩
    have h1 := Lib.hid (show Ct w1 b o _ v had un _ wh hi from Blk.below h.out hb1 h.out.lt)
    go_wp2_with fail
    refine (K2.out _).mono ?_
    rintro e w2 ⟨rfl, hb2⟩
    have h2 := Lib.hid (show Ct w2 b o _ v had un _ wh hi from Blk.below h1.out hb2 h1.out.lt)
    have hT := Lib.hid (Touch.of_below (bthen hb1 hb2) (Nat.le_refl _) [b])
    clear h1 hb1 hb2 c0 c1 c2 c3 c4 c5 c6 c7 f1 f2 f3 f4 f5 f6 f7 hlt K1 K2
    obtain ⟨⟨c0, c1, c2, c3, c4, c5, c6, c7⟩, ⟨f1, f2, f3, f4, f5, f6, f7⟩, hlt⟩ := Ct.cells h2.out
    rcases hU.out with ⟨u1, rfl⟩ | ⟨u1, u2, u3, u4, rfl⟩ | ⟨u1, u2, u3, u4, u5, rfl⟩ | ⟨u1, u2, u3, u4, u5, rfl⟩
    all_goals
      clear hU
      go_wp2_with fail
      first
        | refine (K.out _ (h2.out.set3 _) (touch_set hT.out (by simp) _)).mono ?_
        | refine (K.out _ ((h2.out.set4 _).set3 _) (touch_set (touch_set hT.out (by simp) _) (by simp) _)).mono ?_
      rintro e w3 ⟨r, rfl, hR⟩
      replace hR := Lib.hid hR
      clear c0 c1 c2 c3 c4 c5 c6 c7 f1 f2 f3 f4 f5 f6 f7 hlt h2 hT K
      go_wp2
      go_ret
      exact ⟨_, rfl, hR.out⟩
/-- A catch that has had all gives nothing. -/
theorem stepFull (w : World) (b : Nat) (o : Int) (nx v : Value) (un : Int) (cut wh hi : Bool) (x y : Int) (h : Ct w b o nx v 114 un cut wh hi) :
    Calls Try.prog 45 #[.pointer (some ⟨b, 0, none⟩), .int .u8 x, .int .u8 y] w fun e w' => e = .returned (.int .u8 0) ∧ w = w' := by
  obtain ⟨⟨c0, c1, c2, c3, c4, c5, c6, c7⟩, _, hlt⟩ := h.cells
  clear h
  go_enter Try.func45, Try.ntmps45
  go_wp2
  go_ret
  exact ⟨rfl, rfl⟩
end Go.Proofs.Ytbfbpagfmhdblaa
