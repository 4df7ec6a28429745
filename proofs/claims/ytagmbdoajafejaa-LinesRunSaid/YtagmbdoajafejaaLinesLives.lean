/- The chapter's example of lines answers true. -/
import Derived.Test.YtagmbdoajafejaaLinesBInt
namespace Go.Proofs.Ytagmbdoajafejaa
open Go.RowKit
set_option maxRecDepth 100000 in
set_option maxHeartbeats 400000 in
theorem lives07 (w : World) : Calls Try.prog 7 #[] w fun e w' => e = .returned (.bool true) ∧ Below w.heap.size w w' := by
  go_enter Try.func7, Try.ntmps7
  go_wp2_with fail
  refine (newInt_2 _).mono ?_
  rintro e w1 ⟨rfl, hL, hs, hb⟩
  go_wp2_with fail
  refine (hereInt _ _ _ _ _ _ _ _ (by decide) hL).mono ?_
  rintro e w2 ⟨rfl, n, rfl⟩
  go_wp2_with fail
  have hx := (Blk.new (w1.drewN n) #[.int .i64 5] 3).cell (i := 0) rfl
  simp only [World.heap_drewN, hs] at hx
  refine (sendInt_2_yes _ _ _ _ _ _ _ _ _ _ _ _ (by decide) (by decide) ((hL.drewN n).alloc _) hx).mono ?_
  rintro e w3 ⟨rfl, hL3, ht3⟩
  clear hx
  have hb3 : Below w.heap.size w w3 := ht3.below ((bdrewN hb n).alloc (by simp [hs]) _) (by simp [hs]; omega) (by simp)
  have hs3 : w.heap.size + 3 ≤ w3.heap.size := by have := ht3.size; simp [hs] at this; omega
  clear ht3 hs hL hb
  go_wp2_with fail
  refine (hereInt _ _ _ _ _ _ _ _ (by decide) hL3).mono ?_
  rintro e w4 ⟨rfl, n4, rfl⟩
  go_wp2_with fail
  refine (sendInt_2_no _ _ _ _ _ _ _ _ none 0 (by decide) (by decide) (hL3.drewN n4)).mono ?_
  rintro e w5 ⟨rfl, hL5, ht5⟩
  have hb5 : Below w.heap.size w w5 := ht5.below (bdrewN hb3 n4) (by simp; omega) (by simp)
  have hs5 : w.heap.size + 3 ≤ w5.heap.size := by have := ht5.size; simp at this; omega
  clear ht5 hs3 hL3 hb3
  go_wp2_with fail
  refine (hereInt _ _ _ _ _ _ _ _ (by decide) hL5).mono ?_
  rintro e w6 ⟨rfl, n6, rfl⟩
  go_wp2_with fail
  refine (sendInt_2_no _ _ _ _ _ _ _ _ none 0 (by decide) (by decide) (hL5.drewN n6)).mono ?_
  rintro e w7 ⟨rfl, hL7, ht7⟩
  have hb7 : Below w.heap.size w w7 := ht7.below (bdrewN hb5 n6) (by simp; omega) (by simp)
  clear ht7 hL5 hb5
  go_wp2_with fail
  refine (hereInt _ _ _ _ _ _ _ _ (by decide) hL7).mono ?_
  rintro e w8 ⟨rfl, n8, rfl⟩
  go_wp2_with fail
  go_ret
  exact ⟨rfl, bdrewN hb7 n8⟩
end Go.Proofs.Ytagmbdoajafejaa
