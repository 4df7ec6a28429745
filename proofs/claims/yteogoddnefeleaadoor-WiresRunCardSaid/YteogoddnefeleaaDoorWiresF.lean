/- Wires: the chapter's examples. -/
import Derived.Test.YteogoddnefeleaaDoorWiresE
namespace Go.Proofs.YteogoddnefeleaaDoor
open Go.RowKit Go.Maps
set_option linter.unusedSimpArgs false
set_option linter.unusedVariables false
set_option maxRecDepth 100000
theorem linkOf_a : linkOf ((4 : Nat) : Int) 0 1 1 = 0 := by decide
theorem linkOf_b : linkOf ((4 : Nat) : Int) 0 2 2 = 1 := by decide
set_option maxHeartbeats 4000000 in
theorem lives08 (w : World) (hs : Signs w) : Calls Tryd.prog 38 #[] w fun e w' => e = .returned (.bool true) ∧ Below w.heap.size w w' := by
  have N := Lib.hid (wNew w 4 (by decide) hs)
  replace hs := Lib.hid hs
  have e1 : mayE 4 0 = 0 := by decide
  have e2 : mayE 4 1 = 0 := by decide
  go_enter Tryd.func38, Tryd.ntmps38
  go_wp2_with fail
  refine N.out.mono ?_
  rintro e w1 ⟨pw, bl, bg, lb, lw, rfl, h1, hb1⟩
  have GV := Lib.hid (wGive h1 (by omega) 0 7 (by decide) (by decide))
  rw [e1] at GV
  have hge := Lib.hid h1.ge
  have hsz1 := hb1.size
  clear N h1
  go_wp2_with fail
  refine GV.out.mono ?_
  rintro e w2 ⟨rfl, ⟨ng2, _, h2⟩, ht2⟩
  have hb2 : Below w.heap.size w w2 := ht2.below hb1 hsz1 (by simpa using hge.out.2.2.1)
  have EN := Lib.hid (wEnd h2 (by omega))
  clear GV h2 ht2 hb1
  go_wp2_with fail
  refine EN.out.mono ?_
  rintro e w3 ⟨rfl, h3, hb3, hsz3, _⟩
  have hb03 : Below w.heap.size w w3 := hb2.trans hb3
  have HR := Lib.hid (wHere h3 (hs.out.to hb03) 0 1 1 (by omega))
  rw [linkOf_a] at HR
  have eh : hereO 4 (giveG 4 noneG 0 7) noneG 0 = some 7 := by decide
  rw [eh] at HR
  clear EN hb2 hb3
  go_wp2_with fail
  refine HR.out.mono ?_
  rintro e w4 ⟨rfl, hq4⟩
  have h4 : WiresAt w.heap.size w4 pw bl bg 4 0 lb lw (giveG 4 noneG 0 7) noneG noneG (0 + 1) := by
    obtain ⟨q, rfl⟩ := hq4
    exact h3.drewN q
  have hb04 : Below w.heap.size w w4 := by
    obtain ⟨q, rfl⟩ := hq4
    exact bdrewN hb03 q
  have GV := Lib.hid (wGive h4 (by omega) 1 8 (by decide) (by decide))
  rw [e2] at GV
  clear HR hq4 h3 h4 hb03
  have hsz4 := hb04.size
  go_wp2_with fail
  refine GV.out.mono ?_
  rintro e w5 ⟨rfl, ⟨ng5, _, h5⟩, ht5⟩
  have hb05 : Below w.heap.size w w5 := ht5.below hb04 hsz4 (by simpa using hge.out.2.2.1)
  have EN := Lib.hid (wEnd h5 (by omega))
  clear GV h5 ht5 hb04
  go_wp2_with fail
  refine EN.out.mono ?_
  rintro e w6 ⟨rfl, h6, hb6, _, _⟩
  have hb06 : Below w.heap.size w w6 := hb05.trans hb6
  have EN2 := Lib.hid (wEnd h6 (by omega))
  clear EN h6 hb6 hb05
  go_wp2_with fail
  refine EN2.out.mono ?_
  rintro e w7 ⟨rfl, h7, hb7, _, _⟩
  have hb07 : Below w.heap.size w w7 := hb06.trans hb7
  have HR := Lib.hid (wHere h7 (hs.out.to hb07) 0 2 2 (by omega))
  rw [linkOf_b] at HR
  have eh : hereO 4 noneG (giveG 4 noneG 1 8) 1 = some 8 := by decide
  rw [eh] at HR
  clear EN2 hb06 hb7 h7
  go_wp2_with fail
  refine HR.out.mono ?_
  rintro e w8 ⟨rfl, hq8⟩
  have hb08 : Below w.heap.size w w8 := by
    obtain ⟨q, rfl⟩ := hq8
    exact bdrewN hb07 q
  go_wp2_with fail
  go_ret
  exact ⟨rfl, hb08⟩
/-- Wires that are not there, or that no call made. -/
def VoidW (w : World) (p : Option Addr) : Prop := p = none ∨ ∃ b m1 m2, p = some ⟨b, 0, none⟩ ∧ Blk w b #[m1, .int .i64 0, m2, .int .i64 0] 80
theorem vThere (w : World) (p : Option Addr) (h : VoidW w p) : Calls Tryd.prog 60 #[.pointer p] w fun e w' => e = .returned (.bool false) ∧ w = w' := by
  rcases h with rfl | ⟨b, m1, m2, rfl, h⟩
  · go_enter Tryd.func60, Tryd.ntmps60
    go_wp2
    go_ret
    exact ⟨rfl, rfl⟩
  · have c1 := h.cell (i := 1) rfl
    have hlt := h.lt
    clear h
    go_enter Tryd.func60, Tryd.ntmps60
    go_wp2
    go_ret
    exact ⟨rfl, rfl⟩
theorem vMay (w : World) (p : Option Addr) (k : Int) (h : VoidW w p) : Calls Tryd.prog 59 #[.pointer p, .int .i64 k] w fun e w' => e = .returned (.int .i64 2) ∧ w = w' := by
  have T := Lib.hid (vThere w p h)
  clear h
  go_enter Tryd.func59, Tryd.ntmps59
  go_wp2_with fail
  refine T.out.mono ?_
  rintro e _ ⟨rfl, rfl⟩
  go_wp2_with fail
  go_ret
  exact ⟨rfl, rfl⟩
theorem vTicks (w : World) (p : Option Addr) (h : VoidW w p) : Calls Tryd.prog 46 #[.pointer p] w fun e w' => e = .returned (.int .i64 0) ∧ w = w' := by
  have T := Lib.hid (vThere w p h)
  clear h
  go_enter Tryd.func46, Tryd.ntmps46
  go_wp2_with fail
  refine T.out.mono ?_
  rintro e _ ⟨rfl, rfl⟩
  go_wp2_with fail
  go_ret
  exact ⟨rfl, rfl⟩
theorem vEnd (w : World) (p : Option Addr) (h : VoidW w p) : Calls Tryd.prog 36 #[.pointer p] w fun e w' => e = .returned (.int .i64 2) ∧ w = w' := by
  have T := Lib.hid (vThere w p h)
  clear h
  go_enter Tryd.func36, Tryd.ntmps36
  go_wp2_with fail
  refine T.out.mono ?_
  rintro e _ ⟨rfl, rfl⟩
  go_wp2_with fail
  go_ret
  exact ⟨rfl, rfl⟩
theorem vHere (w : World) (p : Option Addr) (d node hop : Int) (h : VoidW w p) : Calls Tryd.prog 37 #[.pointer p, .int .u8 d, .int .i64 node, .int .i64 hop] w fun e w' => e = .returned (.tuple #[.int .i64 0, .bool false]) ∧ w = w' := by
  have T := Lib.hid (vThere w p h)
  clear h
  go_enter Tryd.func37, Tryd.ntmps37
  go_wp2_with fail
  refine T.out.mono ?_
  rintro e _ ⟨rfl, rfl⟩
  go_wp2_with fail
  go_ret2
  exact ⟨rfl, rfl⟩
theorem vGiven (w : World) (p : Option Addr) (k : Int) (h : VoidW w p) : Calls Tryd.prog 39 #[.pointer p, .int .i64 k] w fun e w' => e = .returned (.tuple #[.int .i64 0, .bool false]) ∧ w = w' := by
  have T := Lib.hid (vMay w p k h)
  clear h
  go_enter Tryd.func39, Tryd.ntmps39
  go_wp2_with fail
  refine T.out.mono ?_
  rintro e _ ⟨rfl, rfl⟩
  go_wp2_with fail
  go_ret2
  exact ⟨rfl, rfl⟩
theorem vGive (w : World) (p : Option Addr) (k v : Int) (h : VoidW w p) : Calls Tryd.prog 35 #[.pointer p, .int .i64 k, .int .i64 v] w fun e w' => e = .returned (.int .i64 2) ∧ w = w' := by
  have T := Lib.hid (vMay w p k h)
  clear h
  go_enter Tryd.func35, Tryd.ntmps35
  go_wp2_with fail
  refine T.out.mono ?_
  rintro e _ ⟨rfl, rfl⟩
  go_wp2_with fail
  go_ret
  exact ⟨rfl, rfl⟩
theorem vTake (w : World) (p : Option Addr) (k : Int) (h : VoidW w p) : Calls Tryd.prog 40 #[.pointer p, .int .i64 k] w fun e w' => e = .returned (.int .i64 2) ∧ w = w' := by
  have T := Lib.hid (vMay w p k h)
  clear h
  go_enter Tryd.func40, Tryd.ntmps40
  go_wp2_with fail
  refine T.out.mono ?_
  rintro e _ ⟨rfl, rfl⟩
  go_wp2_with fail
  go_ret
  exact ⟨rfl, rfl⟩
end Go.Proofs.YteogoddnefeleaaDoor
