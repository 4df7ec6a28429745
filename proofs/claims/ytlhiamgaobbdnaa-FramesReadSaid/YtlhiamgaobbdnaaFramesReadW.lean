/- FramesRead: the walk. -/
import Derived.Test.YtlhiamgaobbdnaaFramesG
import Derived.Test.YtlhiamgaobbdnaaFramesL
import Derived.Test.YtlhiamgaobbdnaaTwinSyms
namespace Go.Proofs.Ytlhiamgaobbdnaa
open Go.RowKit
set_option linter.unusedSimpArgs false
set_option linter.unusedVariables false
set_option maxRecDepth 100000
theorem readV_is (L : Nat → Int) (n : Nat) : ∃ o k st sq v, readV L n = .agg #[.int .i64 o, .int .u8 k, .int .u8 st, .int .u32 sq, .int .u32 v] := by
  unfold readV
  split
  · exact getV_is _ _
  · exact ⟨_, _, _, _, _, rfl⟩
theorem readT_is (L : Nat → Int) (n : Nat) : ∃ x y, readT L n = .agg #[.bool x, .bool y] := by
  unfold readT
  split
  · exact ⟨_, _, rfl⟩
  · exact ⟨_, _, rfl⟩
set_option maxHeartbeats 2000000 in
theorem framesRead_any (w : World) (ao : Option Addr) (n c : Nat) (L : Nat → Int) (ha : Rd .u8 w ao n L) (hnil : NilOk ao n c) :
    Calls Try.prog 6 #[.slice ao n c] w fun e w' => e = .returned (.bool true) ∧ Below w.heap.size w w' := by
  replace ha := Lib.hid ha
  replace hnil := Lib.hid hnil
  by_cases hn : n ≤ 300
  · have hn1 : decide ((300 : Int) < (n : Int)) = false := by simp; omega
    obtain ⟨o, k, st, sq, v, hgv⟩ := readV_is L n
    obtain ⟨x, y, hgt⟩ := readT_is L n
    have F1 := Lib.hid (fun (W : World) (a : Option Addr) (cc : Nat) (h : Rd .u8 W a n L) (h2 : NilOk a n cc) => by
      have := frRead W a n cc L h h2 (by omega)
      rw [hgv, hgt] at this
      exact this)
    have F2 := Lib.hid (fun (W : World) (a : Option Addr) (cc : Nat) (h : Rd .u8 W a n L) (h2 : NilOk a n cc) => by
      have := refRead W a n cc L h h2 (by omega)
      rw [hgv, hgt] at this
      exact this)
    generalize readE L n = E at *
    clear hgv hgt
    go_enter Try.func6, Try.ntmps6
    go_wp2_with fail
    refine (twinSyms w ao n c L ha.out (fun h => (hnil.out.2.2 h).2) (by omega)).mono ?_
    rintro e w1 ⟨g, cg, rfl, hg, hb, ht⟩
    have ht1 := Lib.hid ht
    clear ht
    have hcg := twinSyms_caps ht1.out
    go_wp2_with fail
    refine (F1.out w1 (some ⟨g, 0, none⟩) cg (twinSyms_rd ht1.out) ⟨by omega, hcg.2, fun e => by simp at e⟩).mono ?_
    rintro e w2 ⟨rfl, hb2⟩
    have hb02 := bthen hb hb2
    go_wp2_with fail
    have hF : Blk ((w2.alloc (.cells #[.int .i64 o, .int .u8 k, .int .u8 st, .int .u32 sq, .int .u32 v] 34)).alloc (.cells #[.bool x, .bool y] 38)) w2.heap.size #[.int .i64 o, .int .u8 k, .int .u8 st, .int .u32 sq, .int .u32 v] 34 := (Blk.new w2 _ _).alloc _
    have hT : Blk ((w2.alloc (.cells #[.int .i64 o, .int .u8 k, .int .u8 st, .int .u32 sq, .int .u32 v] 34)).alloc (.cells #[.bool x, .bool y] 38)) (w2.heap.size + 1) #[.bool x, .bool y] 38 := by have := Blk.new (w2.alloc (.cells #[.int .i64 o, .int .u8 k, .int .u8 st, .int .u32 sq, .int .u32 v] 34)) #[.bool x, .bool y] 38; simpa using this
    refine calls_abs (fun W => Below w2.heap.size w2 W ∧ Blk W w2.heap.size #[.int .i64 o, .int .u8 k, .int .u8 st, .int .u32 sq, .int .u32 v] 34 ∧ Blk W (w2.heap.size + 1) #[.bool x, .bool y] 38) ⟨(below_alloc _ _).trans ((below_alloc _ _).mono (by simp)), hF, hT⟩ ?_
    clear hF hT
    rintro w3 ⟨hb3, hF3, hT3⟩
    have hb03 := bthen hb02 hb3
    refine (F2.out w3 ao c (ha.out.below hb03 (Nat.le_refl _)) hnil.out).mono ?_
    rintro e w4 ⟨rfl, hb4⟩
    have hF4 := hF3.below hb4 hF3.lt
    have hT4 := hT3.below hb4 hT3.lt
    have hb04 := bthen hb03 hb4
    have hb14 := bthen (bthen hb2 hb3) hb4
    have hb24 := bthen hb3 hb4
    clear hb02 hb3 hF3 hT3 hb03 hb4 hb2
    have hW : Hid (Below w4.heap.size w4 ((w4.alloc (.cells #[.int .i64 o, .int .u8 k, .int .u8 st, .int .u32 sq, .int .u32 v] 28)).alloc (.cells #[.bool x, .bool y] 39))) := (below_alloc _ _).trans ((below_alloc _ _).mono (by simp))
    have hS := Lib.hid (show Blk ((w4.alloc (.cells #[.int .i64 o, .int .u8 k, .int .u8 st, .int .u32 sq, .int .u32 v] 28)).alloc (.cells #[.bool x, .bool y] 39)) (w4.heap.size + 1) #[.bool x, .bool y] 39 by have := Blk.new (w4.alloc (.cells #[.int .i64 o, .int .u8 k, .int .u8 st, .int .u32 sq, .int .u32 v] 28)) #[.bool x, .bool y] 39; simpa using this)
    obtain ⟨⟨c0, c1, c2, c3, c4⟩, _⟩ := fr_cells hF4
    have hlt4 := hF4.lt
    have hlt5 := hT4.lt
    go_wp2_with fail
    refine calls_abs (fun W => Below w4.heap.size w4 W ∧ Blk W (w4.heap.size + 1) #[.bool x, .bool y] 39) ⟨hW.out, hS.out⟩ ?_
    rintro w5 ⟨hb5, hS5⟩
    refine (lawSame w5 o k st sq v).mono ?_
    rintro e w6 ⟨rfl, hb6⟩
    have hb46 := bthen hb5 hb6
    have hT6 := hT4.below hb46 hT4.lt
    have hS6 := hS5.below hb6 hS5.lt
    clear hb5 hb6 c0 c1 c2 c3 c4 hS5 hS hW hT4 hF4
    obtain ⟨⟨t0, t1⟩, _⟩ := tl_cells hT6
    obtain ⟨⟨s0, s1⟩, _⟩ := tl_cells hS6
    clear hT6 hS6
    go_wp2_with fail
    refine (leftSyms _ _ _ _ _ _ _ (twinSyms_below ht1.out (bthen hb14 hb46)) (ha.out.below (bthen hb04 hb46) (Nat.le_refl _))).mono ?_
    rintro e w7 ⟨rfl, q7, rfl⟩
    have hb07 := bthen (bthen hb04 hb46) (below_drewN w6 q7)
    clear t0 t1 s0 s1
    generalize w6.drewN q7 = w7 at *
    go_wp2_with fail
    refine (lives05 _).mono ?_
    rintro e wx ⟨rfl, hbL⟩
    go_wp2_with fail
    go_ret
    exact ⟨rfl, bthen hb07 hbL⟩
  · have hn1 : decide ((300 : Int) < (n : Int)) = true := by simp; omega
    go_enter Try.func6, Try.ntmps6
    go_wp2_with fail
    refine (lives05 _).mono ?_
    rintro e wx ⟨rfl, hbL⟩
    go_wp2_with fail
    go_ret
    exact ⟨rfl, hbL⟩
end Go.Proofs.Ytlhiamgaobbdnaa
