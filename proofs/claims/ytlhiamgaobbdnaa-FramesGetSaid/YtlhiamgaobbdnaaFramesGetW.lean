/- FramesGet: the walk. -/
import Derived.Test.YtlhiamgaobbdnaaFramesF
import Derived.Test.YtlhiamgaobbdnaaFramesL
import Derived.Test.YtlhiamgaobbdnaaTwinBytes
namespace Go.Proofs.Ytlhiamgaobbdnaa
open Go.RowKit
set_option linter.unusedSimpArgs false
set_option linter.unusedVariables false
set_option maxRecDepth 100000
set_option maxHeartbeats 2000000 in
theorem framesGet_any (w : World) (ao : Option Addr) (n c : Nat) (L : Nat → Int) (ha : Prt w ao n c L) :
    Calls Try.prog 4 #[.slice ao n c] w fun e w' => e = .returned (.bool true) ∧ Below w.heap.size w w' := by
  replace ha := Lib.hid ha
  by_cases hn : n ≤ 100
  · have hn1 : decide ((100 : Int) < (n : Int)) = false := by simp; omega
    obtain ⟨o, k, st, sq, v, hgv⟩ := getV_is L n
    replace hgv := Lib.hid hgv
    go_enter Try.func4, Try.ntmps4
    go_wp2_with fail
    refine (twinBytes w ao n c L ha.out.1 (fun h => (ha.out.2.1.2.2 h).2) (by omega)).mono ?_
    rintro e w1 ⟨g, cg, rfl, hg, hb, ht⟩
    have ht1 := Lib.hid ht
    clear ht
    have hcg := twinBytes_caps ht1.out
    go_wp2_with fail
    refine (frGet w1 (some ⟨g, 0, none⟩) n cg L (twinBytes_rd ht1.out) ⟨by omega, hcg.2, fun e => by simp at e⟩ ha.out.2.2 (by omega)).mono ?_
    rintro e w2 ⟨rfl, hb2⟩
    rw [hgv.out]
    have hb02 := bthen hb hb2
    go_wp2_with fail
    have hF := Blk.new w2 #[.int .i64 o, .int .u8 k, .int .u8 st, .int .u32 sq, .int .u32 v] 34
    refine calls_abs (fun W => Below w2.heap.size w2 W ∧ Blk W w2.heap.size #[.int .i64 o, .int .u8 k, .int .u8 st, .int .u32 sq, .int .u32 v] 34) ⟨below_alloc _ _, hF⟩ ?_
    clear hF
    rintro w3 ⟨hb3, hF3⟩
    have hb03 := bthen hb02 hb3
    refine (refGet w3 ao n c L (ha.out.1.below hb03 (Nat.le_refl _)) ha.out.2.1 ha.out.2.2 (by omega)).mono ?_
    rintro e w4 ⟨rfl, hb4⟩
    rw [hgv.out]
    have hF4 := hF3.below hb4 hF3.lt
    have hb04 := bthen hb03 hb4
    have hb14 := bthen (bthen hb2 hb3) hb4
    clear hb02 hb3 hF3 hb03 hb4 hb2
    have c0 := fr_cells hF4
    obtain ⟨⟨c0, c1, c2, c3, c4⟩, _⟩ := c0
    have hlt4 := hF4.lt
    generalize getE L n = E at *
    go_wp2_with fail
    refine (lawSame _ o k st sq v).mono ?_
    rintro e w5 ⟨rfl, hb5⟩
    have hb45 := bthen (below_alloc w4 (.cells #[.int .i64 o, .int .u8 k, .int .u8 st, .int .u32 sq, .int .u32 v] 28)) hb5
    clear hb5 c0 c1 c2 c3 c4
    go_wp2_with fail
    refine (leftBytes _ _ _ _ _ _ _ (twinBytes_below ht1.out (bthen hb14 hb45)) (ha.out.1.below (bthen hb04 hb45) (Nat.le_refl _))).mono ?_
    rintro e w6 ⟨rfl, q6, rfl⟩
    have hb06 := bthen (bthen hb04 hb45) (below_drewN w5 q6)
    generalize w5.drewN q6 = w6 at *
    go_wp2_with fail
    refine (lives05 _).mono ?_
    rintro e wx ⟨rfl, hbL⟩
    go_wp2_with fail
    go_ret
    exact ⟨rfl, bthen hb06 hbL⟩
  · have hn1 : decide ((100 : Int) < (n : Int)) = true := by simp; omega
    go_enter Try.func4, Try.ntmps4
    go_wp2_with fail
    refine (lives05 _).mono ?_
    rintro e wx ⟨rfl, hbL⟩
    go_wp2_with fail
    go_ret
    exact ⟨rfl, hbL⟩
end Go.Proofs.Ytlhiamgaobbdnaa
