/- Frames: what the laws' own functions answer; the chapter's examples. -/
import Derived.Test.YtbfbpagfmhdblaaFramesE
import Derived.Test.YtbfbpagfmhdblaaHelpSyms
import Derived.Test.YtbfbpagfmhdblaaHelpBytes
namespace Go.Proofs.Ytbfbpagfmhdblaa
open Go.RowKit
set_option linter.unusedSimpArgs false
set_option linter.unusedVariables false
set_option maxRecDepth 100000
theorem lawOf (w : World) (o k st sq v : Int) : Calls Try.prog 15 #[.int .i64 o, payV k st sq v] w fun e w' => e = .returned (frV o k st sq v) ∧ Below w.heap.size w w' := by
  unfold payV frV
  go_enter Try.func15, Try.ntmps15
  go_wp2
  refine bodyPost_ret (v := .agg #[.int .i64 o, .int .u8 k, .int .u8 st, .int .u32 sq, .int .u32 v]) (by simp [results, Try.results15, go_sem]) rfl ⟨rfl, (below_alloc _ _).trans ((below_alloc _ _).mono (by simp))⟩
set_option maxHeartbeats 1000000 in
theorem lawSame (w : World) (o k st sq v : Int) : Calls Try.prog 32 #[frV o k st sq v, frV o k st sq v] w fun e w' => e = .returned (.bool true) ∧ Below w.heap.size w w' := by
  unfold frV
  go_enter Try.func32, Try.ntmps32
  go_wp2
  go_ret
  exact ⟨rfl, (below_alloc _ _).trans ((below_alloc _ _).mono (by simp))⟩
theorem head_ex : ∀ i, i < 10 → frL 1 2 2 3 4 i = litL [33, 2, 0, 0, 0, 3, 0, 0, 0, 4] i := fun i hi => by
  rw [frL, putS, if_pos hi]
  have : ∀ i : Fin 10, headL (16 * 2 + 1) 2 3 4 i = litL [33, 2, 0, 0, 0, 3, 0, 0, 0, 4] i := by decide
  exact this ⟨i, hi⟩
set_option maxHeartbeats 4000000 in
theorem lives05 (w : World) : Calls Try.prog 28 #[] w fun e w' => e = .returned (.bool true) ∧ Below w.heap.size w w' := by
  go_enter Try.func28, Try.ntmps28
  go_wp2_with fail
  refine (lawOf _ 1 2 2 3 4).mono ?_
  rintro e w1 ⟨rfl, hb1⟩
  simp only [frV]
  go_wp2_with fail
  have C := frPut w1 1 2 2 3 4 (by decide) (by decide) (by decide) (by decide)
  have e1 : lenF 1 2 = 14 := by decide
  have e2 : errF 1 2 = 0 := by decide
  rw [e1, e2] at C
  refine C.mono ?_
  rintro e w2 ⟨a2, rfl, m2, hb2⟩
  have hb02 := bthen hb1 hb2
  have n2 : a2 ≠ none := fun e => by have := m2.none e; omega
  obtain ⟨g2, rfl, _⟩ := m2.some (by omega)
  have x2 := Lib.hid ((show Rd .u8 w2 (some ⟨g2, 0, none⟩) 10 (frL 1 2 2 3 4) from fun i hi => m2.rd i (by omega)).congr head_ex)
  clear C m2 hb1 hb2 n2
  go_wp2_with fail
  have hT := Blk.new w2 #[.bool true, .bool false] 38
  refine calls_abs (fun W => Below w2.heap.size w2 W ∧ Blk W w2.heap.size #[.bool true, .bool false] 38 ∧ Rd .u8 W (some ⟨w2.heap.size + 1, 0, none⟩) 10 (litL [33, 2, 0, 0, 0, 3, 0, 0, 0, 4])) ⟨(below_alloc _ _).trans ((below_alloc _ _).mono (by simp)), hT.alloc _, by have := rdLit .u8 5 (w2.alloc (.cells #[.bool true, .bool false] 38)) [33, 2, 0, 0, 0, 3, 0, 0, 0, 4]; simpa using this⟩ ?_
  rintro w3 ⟨hb3, hT3, x3⟩
  refine (sameBytes _ _ _ _ _ _ _ (x2.out.below hb3 (Nat.le_refl _)) x3 (by omega)).mono ?_
  rintro e w4 ⟨rfl, q4, rfl⟩
  have hT4 := hT3.drewN q4
  have hb04 := bthen (bthen hb02 hb3) (below_drewN w3 q4)
  clear hT hb3 hT3 x3 hb02
  generalize w3.drewN q4 = w4 at *
  obtain ⟨⟨t0, t1⟩, _⟩ := tl_cells hT4
  go_wp2_with fail
  have G := frGood w4 true false
  have eg : goodB true false = true := rfl
  rw [eg] at G
  refine G.mono ?_
  rintro e w5 ⟨rfl, hb5⟩
  have hT5 := hT4.below hb5 hT4.lt
  have hb05 := bthen hb04 hb5
  clear G t0 t1 hT4 hb5 hb04
  obtain ⟨⟨t0, t1⟩, _⟩ := tl_cells hT5
  go_wp2_with fail
  refine (frTailSyms w5 true false).mono ?_
  rintro e w6 ⟨a6, rfl, m6, hb6⟩
  have hb06 := bthen hb05 hb6
  have x6 := Lib.hid (m6.rd.congr (L' := litL [2, 1]) fun i hi => by
    rcases i with _ | _ | i
    · rfl
    · rfl
    · omega)
  clear hT5 hb6 t0 t1 m6
  go_wp2_with fail
  refine calls_abs (fun W => Below w6.heap.size w6 W ∧ Rd .u8 W (some ⟨w6.heap.size, 0, none⟩) 2 (litL [2, 1])) ⟨below_alloc _ _, rdLit .u8 77 w6 [2, 1]⟩ ?_
  rintro w7 ⟨hb7, x7⟩
  refine (sameSyms _ _ _ _ _ _ _ (x6.out.below hb7 (Nat.le_refl _)) x7 (by omega)).mono ?_
  rintro e w8 ⟨rfl, q8, rfl⟩
  go_wp2_with fail
  go_ret
  exact ⟨rfl, bthen (bthen hb06 hb7) (below_drewN _ _)⟩
end Go.Proofs.Ytbfbpagfmhdblaa
