/- FaultsSays: too long, too many, a fault that may not be. -/
import Derived.Test.YtmdohnbhogfopaaZTwnEI
namespace Go.Proofs.Ytmdohnbhogfopaa
open Go.RowKit Go.Maps
set_option linter.unusedSimpArgs false
set_option linter.unusedVariables false
set_option maxRecDepth 100000
set_option maxHeartbeats 8000000 in
theorem says_long (w : World) (n0 nd lk : Int) (u : Value) (S : List SpellC) (hs : SpAt 0 w u S) (ao : Option Addr) (n cap : Nat) (hn : 80 < n) :
    Calls Try.prog 5 #[.int .i64 n0, .agg #[.int .i64 nd, .int .i64 lk, u], .slice ao n cap] w fun e w' => e = .returned (.bool true) ∧ Below w.heap.size w w' := by
  obtain ⟨sa, sn, sc, rfl, hsn⟩ : ∃ a n c, u = .slice a n c ∧ n = S.length := by
    rcases hs with ⟨rfl, h⟩ | ⟨ad, cap, rfl, _⟩
    · exact ⟨_, _, _, rfl, by rw [h]; rfl⟩
    · exact ⟨_, _, _, rfl, rfl⟩
  have hb0 := below_alloc w (.cells #[.int .i64 nd, .int .i64 lk, .slice sa sn sc] 34)
  have k0 : Blk (w.alloc (.cells #[.int .i64 nd, .int .i64 lk, .slice sa sn sc] 34)) w.heap.size #[.int .i64 nd, .int .i64 lk, .slice sa sn sc] 34 := Blk.new w _ _
  have hLv := Lib.hid (fun W => lives29 W)
  replace hb0 := Lib.hid hb0
  clear k0 hs hsn
  have g1 : decide ((80 : Int) < (n : Int)) = true := by simp; omega
  go_enter Try.func5, Try.ntmps5
  go_wp2_with fail
  refine (hLv.out _).mono ?_
  rintro e w3 ⟨rfl, hb3⟩
  have hb13 := Lib.hid (bthen hb0.out hb3)
  go_wp2_with fail
  go_ret
  exact ⟨rfl, hb13.out⟩
set_option maxHeartbeats 8000000 in
theorem says_many (w : World) (n0 nd lk : Int) (u : Value) (S : List SpellC) (hs : SpAt 0 w u S) (ao : Option Addr) (n cap : Nat) (hn : ¬ 80 < n) (hS : 100 < S.length) :
    Calls Try.prog 5 #[.int .i64 n0, .agg #[.int .i64 nd, .int .i64 lk, u], .slice ao n cap] w fun e w' => e = .returned (.bool true) ∧ Below w.heap.size w w' := by
  obtain ⟨sa, sn, sc, rfl, hsn⟩ : ∃ a n c, u = .slice a n c ∧ n = S.length := by
    rcases hs with ⟨rfl, h⟩ | ⟨ad, cap, rfl, _⟩
    · exact ⟨_, _, _, rfl, by rw [h]; rfl⟩
    · exact ⟨_, _, _, rfl, rfl⟩
  have hb0 := below_alloc w (.cells #[.int .i64 nd, .int .i64 lk, .slice sa sn sc] 34)
  have k0 : Blk (w.alloc (.cells #[.int .i64 nd, .int .i64 lk, .slice sa sn sc] 34)) w.heap.size #[.int .i64 nd, .int .i64 lk, .slice sa sn sc] 34 := Blk.new w _ _
  have hLv := Lib.hid (fun W => lives29 W)
  replace hb0 := Lib.hid hb0
  rw [← hsn] at hS
  clear hs hsn
  have g1 : decide ((80 : Int) < (n : Int)) = false := by simp; omega
  have g2 : decide ((100 : Int) < (sn : Int)) = true := by simp; omega
  go_enter Try.func5, Try.ntmps5
  go_upto_region 1 with fail
  generalize w.alloc (.cells #[.int .i64 nd, .int .i64 lk, .slice sa sn sc] 34) = w1 at *
  have d2 := k0.cell (i := 2) rfl
  have l0 := k0.lt
  clear k0
  go_wp2_with fail
  refine (hLv.out _).mono ?_
  rintro e w3 ⟨rfl, hb3⟩
  have hb13 := Lib.hid (bthen hb0.out hb3)
  go_wp2_with fail
  go_ret
  exact ⟨rfl, hb13.out⟩
set_option maxHeartbeats 8000000 in
theorem says_bad (w : World) (n0 nd lk : Int) (u : Value) (S : List SpellC) (hs : SpAt 0 w u S) (hSo : ∀ s ∈ S, SpellOk s) (ao : Option Addr) (n cap : Nat) (hn : ¬ 80 < n) (hS : ¬ 100 < S.length) (hF : faultB n0 nd lk S.length = false) :
    Calls Try.prog 5 #[.int .i64 n0, .agg #[.int .i64 nd, .int .i64 lk, u], .slice ao n cap] w fun e w' => e = .returned (.bool true) ∧ Below w.heap.size w w' := by
  obtain ⟨sa, sn, sc, rfl, hsn⟩ : ∃ a n c, u = .slice a n c ∧ n = S.length := by
    rcases hs with ⟨rfl, h⟩ | ⟨ad, cap, rfl, _⟩
    · exact ⟨_, _, _, rfl, by rw [h]; rfl⟩
    · exact ⟨_, _, _, rfl, rfl⟩
  have hb0 := below_alloc w (.cells #[.int .i64 nd, .int .i64 lk, .slice sa sn sc] 34)
  have k0 : Blk (w.alloc (.cells #[.int .i64 nd, .int .i64 lk, .slice sa sn sc] 34)) w.heap.size #[.int .i64 nd, .int .i64 lk, .slice sa sn sc] 34 := Blk.new w _ _
  have hLv := Lib.hid (fun W => lives29 W)
  rw [← hsn] at hF hS
  have hnew : w.heap.size ≠ (w.alloc (.cells #[.int .i64 nd, .int .i64 lk, .slice sa sn sc] 34)).heap.size := by simp
  replace hs := Lib.hid hs
  replace hsn := Lib.hid hsn
  replace hSo := Lib.hid hSo
  have g1 : decide ((80 : Int) < (n : Int)) = false := by simp; omega
  have g2 : decide ((100 : Int) < (sn : Int)) = false := by simp; omega
  go_enter Try.func5, Try.ntmps5
  go_upto_region 1 with fail
  generalize w.alloc (.cells #[.int .i64 nd, .int .i64 lk, .slice sa sn sc] 34) = w1 at *
  have d0 := k0.cell (i := 0) rfl
  have d1 := k0.cell (i := 1) rfl
  have d2 := k0.cell (i := 2) rfl
  have l0 := k0.lt
  replace k0 := Lib.hid k0
  go_upto_region 4 with fail
  have hb2 : Below w1.heap.size w1 (w1.alloc (.cells #[.int .i64 nd, .int .i64 lk, .slice sa sn sc] 34)) := below_alloc _ _
  have k2 := k0.out.below hb2 k0.out.lt
  have k70 : Blk (w1.alloc (.cells #[.int .i64 nd, .int .i64 lk, .slice sa sn sc] 34)) w1.heap.size #[.int .i64 nd, .int .i64 lk, .slice sa sn sc] 34 := Blk.new _ _ _
  have hb02 := bthen hb0 hb2
  clear d0 d1 d2 l0 k0 hb2
  generalize w1.alloc (.cells #[.int .i64 nd, .int .i64 lk, .slice sa sn sc] 34) = w2 at *
  have hge7 : w.heap.size ≤ w1.heap.size := hb0.size
  have hne7 : w.heap.size ≠ w1.heap.size := by
    have := hb0.size
    intro e
    have h1 := k2.lt
    exact hnew e
  generalize w1.heap.size = b7 at *
  obtain ⟨v', w3, hr3, hown3, hb23⟩ := run_append_sp w2 (.slice sa sn sc) S (hs.out.keep (KeepC.of_below hb02)) (by rw [← hsn.out]; omega)
  have d2 := k2.cell (i := 2) rfl
  have l0 := k2.lt
  have k23 := k2.below hb23 k2.lt
  have k73 := k70.below hb23 k70.lt
  have f73 := k73.free
  have l73 := k73.lt
  have c73 := k73.cell (i := 2) rfl
  have hb03 := Lib.hid (bthen hb02 hb23)
  obtain ⟨va, vn, vc, rfl, hvn⟩ : ∃ a n c, v' = .slice a n c ∧ n = S.length := by
    rcases hown3.2 with ⟨rfl, h⟩ | ⟨g, c, _, rfl, _⟩
    · exact ⟨_, _, _, rfl, h.symm⟩
    · exact ⟨_, _, _, rfl, rfl⟩
  rw [← hsn.out] at hvn
  subst hvn
  replace hown3 := Lib.hid hown3
  replace k23 := Lib.hid k23
  replace k73 := Lib.hid k73
  go_upto_region 5 with (first | (at_builtin; refine wpList_val rfl (ex_append (.const (.slice none 0 0)) (.tmp 32) 32 rfl 32 rfl (.slice none 0 0) (.slice sa vn sc) _ rfl rfl hr3) ?_) | fail)
  have hT4 : Touch [b7] w3 (w3.setCell ⟨b7, 2, none⟩ (.slice va vn vc)) := (Touch.refl [b7] w3).setCell (p := ⟨b7, 2, none⟩) (.inl (by simp)) _
  have hb04 := hT4.below hb03.out hb03.out.size (by have := hge7; simp; omega)
  have k4 : Blk (w3.setCell ⟨b7, 2, none⟩ (.slice va vn vc)) w.heap.size #[.int .i64 nd, .int .i64 lk, .slice sa vn sc] 34 := k23.out.setNe (a := ⟨b7, 2, none⟩) hne7 _
  have k7 : Blk (w3.setCell ⟨b7, 2, none⟩ (.slice va vn vc)) b7 #[.int .i64 nd, .int .i64 lk, .slice va vn vc] 34 := (k73.out.set 2 (.slice va vn vc)).congr rfl
  have hown4 : Hid ((w3.setCell ⟨b7, 2, none⟩ (.slice va vn vc)).ownsRow w.heap.size 27 5 (.slice va vn vc) S.length (spFlat S)) := by
    have := hown3.out
    refine ⟨this.1, ?_⟩
    rcases this.2 with h3 | ⟨g, cap, cur, h3, h4, h5, h6⟩
    · exact .inl h3
    · have hgb : Blk w3 g cur 27 := h5
      exact .inr ⟨g, cap, cur, h3, by have := hb02.size; omega, hgb.setNe (a := ⟨b7, 2, none⟩) (hgb.ne k73.out (by decide)) _, h6⟩
  clear hown3 k23 k73 f73 l73 c73 hr3 k2 k70 d2 l0 hT4 hb23 hb03
  generalize w3.setCell ⟨b7, 2, none⟩ (.slice va vn vc) = w4 at *
  clear hb0 hb02 w3 w2 w1
  have d0 := k7.cell (i := 0) rfl
  have d1 := k7.cell (i := 1) rfl
  have d2 := k7.cell (i := 2) rfl
  have l7 := k7.lt
  simp only [List.getElem_toArray, List.getElem_cons_zero, List.getElem_cons_succ] at d0 d1 d2
  replace k7 := Lib.hid k7
  replace k4 := Lib.hid k4
  replace hb04 := Lib.hid hb04
  have hN := Lib.hid (fun W => newBad W n0 nd lk va vn vc hF)
  have hN2 := Lib.hid (fun W (v : Value) (a : Option Addr) (k c : Nat) => newBad2 W n0 nd lk a k c)
  replace hF := Lib.hid hF
  go_wp2_with fail
  refine (hN.out _).mono ?_
  rintro e w5 ⟨rfl, hb5⟩
  replace k4 := Lib.hid (k4.out.below hb5 k4.out.lt)
  replace hb04 := Lib.hid (bthen hb04.out hb5)
  clear d0 d1 d2 l7 k7 hb5 hN hown4
  have e0 := k4.out.cell (i := 0) rfl
  have e1 := k4.out.cell (i := 1) rfl
  have e2 := k4.out.cell (i := 2) rfl
  have l4 := k4.out.lt
  simp only [List.getElem_toArray, List.getElem_cons_zero, List.getElem_cons_succ] at e0 e1 e2
  go_wp2_with fail
  refine (otherF w5 nd lk (.slice sa vn sc) S (hs.out.keep (KeepC.of_below hb04.out)) hSo.out (by rw [← hsn.out]; omega)).mono ?_
  rintro e w6 ⟨v6, rfl, hown6, hb6⟩
  obtain ⟨a6, n6, c6, rfl, hn6⟩ : ∃ a n c, v6 = .slice a n c ∧ n = S.length := by
    rcases hown6.2 with ⟨rfl, h⟩ | ⟨g, c, _, rfl, _⟩
    · exact ⟨_, _, _, rfl, h.symm⟩
    · exact ⟨_, _, _, rfl, rfl⟩
  rw [← hsn.out] at hn6
  subst hn6
  replace hb04 := Lib.hid (bthen hb04.out hb6)
  have hN3 := Lib.hid (hN2.out w6 (.slice a6 n6 c6) a6 n6 c6 hF.out)
  clear e0 e1 e2 l4 hown6 hb6 k4 hN2
  go_wp2_with fail
  refine hN3.out.mono ?_
  rintro e w7 ⟨rfl, hb7⟩
  replace hb04 := Lib.hid (bthen hb04.out hb7)
  clear hb7 hN3
  go_wp2_with fail
  refine (hLv.out _).mono ?_
  rintro e w8 ⟨rfl, hb8⟩
  have hb13 := Lib.hid (bthen hb04.out hb8)
  go_wp2_with fail
  go_ret
  exact ⟨rfl, hb13.out⟩
end Go.Proofs.Ytmdohnbhogfopaa
