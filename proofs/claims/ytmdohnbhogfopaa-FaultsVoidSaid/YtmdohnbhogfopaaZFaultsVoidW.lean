/- FaultsVoid: the law. -/
import Derived.Test.YtmdohnbhogfopaaZVoidB
namespace Go.Proofs.Ytmdohnbhogfopaa
open Go.RowKit Go.Maps
set_option linter.unusedSimpArgs false
set_option linter.unusedVariables false
set_option maxRecDepth 100000
/-- Two mouths that have no links, in a list. -/
structure VoidAt (w : World) (t l : Int) (p : PostC) (u : Value) (lb : Nat) (W : World) : Prop where
  bel : Below w.heap.size w W
  box : Blk W w.heap.size #[.int .i64 t, .int .i64 l, .int .u8 p.s, u] 74
  w : WordAt 0 W u p.R
  two : ∀ i : Nat, i < 2 → ∃ a, W.cell? ⟨lb, i, none⟩ = some (.pointer a) ∧ ∀ W', Below W.heap.size W W' → Calls Try.prog 33 #[.pointer a, .int .i64 l] W' fun e w' => e = .returned (.bool false) ∧ W' = w'
  lt : lb < W.heap.size
theorem VoidAt.below {w : World} {t l : Int} {p : PostC} {u : Value} {lb : Nat} {W W' : World} (h : VoidAt w t l p u lb W) (hb : Below W.heap.size W W') : VoidAt w t l p u lb W' :=
  ⟨bthen h.bel hb, h.box.below hb h.box.lt, h.w.below hb, fun i hi => by
    obtain ⟨a, h1, h2⟩ := h.two i hi
    exact ⟨a, below_cell h1 hb (World.block_lt_of_cell? W _ h1), fun W2 hW2 => h2 W2 (bthen hb hW2)⟩, Nat.lt_of_lt_of_le h.lt hb.size⟩
theorem VoidAt.make {w W : World} {t l : Int} {p : PostC} {u : Value} (hb : Below w.heap.size w W) (hk : Blk W w.heap.size #[.int .i64 t, .int .i64 l, .int .u8 p.s, u] 74) (hw : WordAt 0 w u p.R) (x1 x2 x3 x4 x5 : Value) :
    VoidAt w t l p u (W.heap.size + 1) ((W.alloc (.cells #[.int .i64 0, x1, x2, x3, x4, x5] 104)).alloc (.cells #[.pointer none, .pointer (some ⟨W.heap.size, 0, none⟩)] 28)) := by
  have h2 : Below W.heap.size W ((W.alloc (.cells #[.int .i64 0, x1, x2, x3, x4, x5] 104)).alloc (.cells #[.pointer none, .pointer (some ⟨W.heap.size, 0, none⟩)] 28)) := blk_alloc2 _ _
  have kM : Blk ((W.alloc (.cells #[.int .i64 0, x1, x2, x3, x4, x5] 104)).alloc (.cells #[.pointer none, .pointer (some ⟨W.heap.size, 0, none⟩)] 28)) W.heap.size #[.int .i64 0, x1, x2, x3, x4, x5] 104 := (Blk.new W _ _).alloc _
  have kL : Blk ((W.alloc (.cells #[.int .i64 0, x1, x2, x3, x4, x5] 104)).alloc (.cells #[.pointer none, .pointer (some ⟨W.heap.size, 0, none⟩)] 28)) (W.heap.size + 1) #[.pointer none, .pointer (some ⟨W.heap.size, 0, none⟩)] 28 := by
    have := Blk.new (W.alloc (.cells #[.int .i64 0, x1, x2, x3, x4, x5] 104)) #[.pointer none, .pointer (some ⟨W.heap.size, 0, none⟩)] 28
    simpa using this
  refine ⟨bthen hb h2, hk.below h2 hk.lt, hw.below (bthen hb h2), fun i hi => ?_, kL.lt⟩
  match i, hi with
  | 0, _ => exact ⟨none, kL.cell (i := 0) rfl, fun W' _ => isNil W' l⟩
  | 1, _ => exact ⟨_, kL.cell (i := 1) rfl, fun W' hW' => isZero W' _ x1 x2 x3 x4 x5 (kM.below hW' kM.lt) l⟩
def InvVoid (w : World) (t l : Int) (p : PostC) (u : Value) (lb : Nat) (k : Nat) (a : Act) (wr : World) : Prop :=
  ∃ i, i + k = 2 ∧ Hid (VoidAt w t l p u lb wr) ∧ a.tmps.size = 41 ∧ a.defers = [] ∧ slot a 1 = .pointer (some ⟨w.heap.size, 0, none⟩) ∧ slot a 4 = .slice (some ⟨lb, 0, none⟩) 2 2 ∧ slot a 5 = .int .i64 i
set_option maxHeartbeats 8000000 in
theorem faultsVoid_any (w : World) (t l : Int) (p : PostC) (u : Value) (hs : (Lit.int .u8 p.s).wf = true) (hf : WordFit p.R) (hw : WordAt 0 w u p.R) :
    Calls Try.prog 7 #[.agg #[.int .i64 t, .int .i64 l, .int .u8 p.s, u]] w fun e w' => e = .returned (.bool true) ∧ Below w.heap.size w w' := by
  have hv : ∃ a n k, u = .slice a n k := by obtain ⟨a, n, k, _, rfl, _⟩ := hw.len; exact ⟨a, n, k, rfl⟩
  obtain ⟨ua, un, uk, rfl⟩ := hv
  have hb0 := below_alloc w (.cells #[.int .i64 t, .int .i64 l, .int .u8 p.s, .slice ua un uk] 74)
  have k0 : Blk (w.alloc (.cells #[.int .i64 t, .int .i64 l, .int .u8 p.s, .slice ua un uk] 74)) w.heap.size #[.int .i64 t, .int .i64 l, .int .u8 p.s, .slice ua un uk] 74 := Blk.new w _ _
  have hG := Lib.hid (greatR _ p.s _ ⟨ua, un, uk, rfl⟩ p.R (hw.below hb0) hf)
  have hLv := Lib.hid (fun W => lives29 W)
  replace hw := Lib.hid hw
  replace hf := Lib.hid hf
  replace hs := Lib.hid hs
  replace hb0 := Lib.hid hb0
  go_enter Try.func7, Try.ntmps7
  go_upto_region 1 with fail
  generalize w.alloc (.cells #[.int .i64 t, .int .i64 l, .int .u8 p.s, .slice ua un uk] 74) = w1 at *
  have d2 := k0.cell (i := 2) rfl
  have d3 := k0.cell (i := 3) rfl
  have l0 := k0.lt
  replace k0 := Lib.hid k0
  go_wp2_with fail
  refine hG.out.mono ?_
  rintro e w2 ⟨g, rfl, hb2, hg⟩
  have hb12 := Lib.hid (bthen hb0.out hb2)
  have k2 := Lib.hid (k0.out.below hb2 k0.out.lt)
  replace hg := Lib.hid hg
  clear hG hb2 k0 d2 d3 l0 hb0
  cases g
  · obtain ⟨hn, ht⟩ := hg.out rfl
    have hp : PostOk p := ⟨hs.out, hf.out.ok, hn, ht⟩
    replace hp := Lib.hid hp
    clear hn ht hg
    have hV : Hid (VoidAt w t l p (.slice ua un uk) (w2.heap.size + 1) ((w2.alloc (.cells #[.int .i64 0, .int .i64 0, .int .i64 0, .slice none 0 0, .map none, .map none] 104)).alloc (.cells #[.pointer none, .pointer (some ⟨w2.heap.size, 0, none⟩)] 28))) := VoidAt.make hb12.out k2.out hw.out _ _ _ _ _
    clear hb12 k2
    go_upto_region 5 with fail
    generalize (w2.alloc (.cells #[.int .i64 0, .int .i64 0, .int .i64 0, .slice none 0 0, .map none, .map none] 104)).alloc (.cells #[.pointer none, .pointer (some ⟨w2.heap.size, 0, none⟩)] 28) = w3 at *
    generalize w2.heap.size + 1 = lb at *
    go_wp2_with fail
    refine wp_loop_k (InvVoid w t l p (.slice ua un uk) lb) 2 ?_ ?_
    · exact ⟨0, by omega, hV, by kernel_rfl, rfl, by kernel_rfl, by kernel_rfl, by kernel_rfl⟩
    clear hV
    intro gk a wr hI K hK
    obtain ⟨i, hi0, hV, hs', hd', k1', k4', k5'⟩ := hI
    rw [fr41 a hs' hd']; simp only [k1', k4', k5']; clear hs' hd' k1' k4' k5'
    by_cases hlt : i < 2
    · have g1 : decide ((i : Int) < 2) = true := by simp; omega
      have g2 : (i : Int) < 2 := by omega
      have g3 : IntKind.i64.wrap ((i : Int) + 1) = ((i + 1 : Nat) : Int) := by rw [wrapI _ (by omega) (by omega)]; omega
      obtain ⟨pa, ca, hIs⟩ := hV.out.two i hlt
      have hcl : ∀ W, Below wr.heap.size wr W → W.cell? ⟨w.heap.size, 0, none⟩ = some (.int .i64 t) ∧ W.cell? ⟨w.heap.size, 1, none⟩ = some (.int .i64 l) ∧ W.cell? ⟨w.heap.size, 2, none⟩ = some (.int .u8 p.s) ∧ W.cell? ⟨w.heap.size, 3, none⟩ = some (.slice ua un uk) ∧ W.cell? ⟨lb, i, none⟩ = some (.pointer pa) := fun W hW => by
        have k := (hV.out.below hW).box
        exact ⟨k.cell (i := 0) rfl, k.cell (i := 1) rfl, k.cell (i := 2) rfl, k.cell (i := 3) rfl, below_cell ca hW (World.block_lt_of_cell? wr _ ca)⟩
      have llb := hV.out.lt
      have lbx := hV.out.box.lt
      replace hIs := Lib.hid hIs
      replace hcl := Lib.hid hcl
      clear ca
      have hR : Hid (Below wr.heap.size wr wr.drew) := below_drewN wr 1
      go_upto_region 8 with fail
      go_region_held3 (fun W => W.cell? ⟨w.heap.size, 0, none⟩ = some (.int .i64 t) ∧ W.cell? ⟨w.heap.size, 1, none⟩ = some (.int .i64 l) ∧ W.cell? ⟨w.heap.size, 2, none⟩ = some (.int .u8 p.s) ∧ W.cell? ⟨w.heap.size, 3, none⟩ = some (.slice ua un uk) ∧ W.cell? ⟨lb, i, none⟩ = some (.pointer pa))
        (exact hcl.out _ hR.out)
        (first
          | (go_at_call 33
             (with_reducible refine (hIs.out _ hR.out).mono ?_)
             rintro e wn ⟨rfl, rfl⟩)
          | (go_at_call 17
             (with_reducible refine (saysPlain _ (.pointer pa) l t (fun W hW => hIs.out W (bthen hR.out hW)) p hp.out _ ((hV.out.below hR.out).w)).mono ?_)
             rintro e wn ⟨vn, rfl, ⟨an, nn, cn, rfl⟩, hX, hbn⟩
             replace hR := Lib.hid (bthen hR.out hbn)
             replace hX := Lib.hid hX
             clear hbn)
          | (go_at_call 32
             (with_reducible refine (postP _ p hp.out _ ((hV.out.below hR.out).w)).mono ?_)
             rintro e wn ⟨vn, rfl, hO, hbn⟩
             replace hR := Lib.hid (bthen hR.out hbn)
             have hX2 := Lib.hid (hX.out.below hbn)
             have hY := Lib.hid (hO.at0 hp.out.R)
             obtain ⟨am, nm, cm, rfl⟩ := hO.sl
             clear hbn hO hX)
          | (go_at_call 35
             (with_reducible refine (sameP _ p.s _ _ p.R p.R hX2.out hY.out (RowsNear.self _) hp.out.R hp.out.R hp.out.big.1 hp.out.big.2).mono ?_)
             rw [sameRows_self hp.out.R]
             rintro e wn ⟨rfl, hbn⟩
             replace hR := Lib.hid (bthen hR.out hbn)
             clear hbn hX2 hY)
          | fail)
      have hV2 := Lib.hid (hV.out.below hR.out)
      clear hV hR hcl hIs
      go_wp2_with fail
      exact hK (2 - (i + 1)) _ _ (by omega) ⟨i + 1, by omega, hV2, by kernel_rfl, rfl, by kernel_rfl, by kernel_rfl, by kernel_rfl⟩
    have g1 : decide ((i : Int) < 2) = false := by simp; omega
    have g2 : ¬ (i : Int) < 2 := by omega
    have hb3 := Lib.hid hV.out.bel
    clear hV
    go_wp2_with fail
    refine (hLv.out _).mono ?_
    rintro e w4 ⟨rfl, hb4⟩
    have hb13 := Lib.hid (bthen hb3.out hb4)
    go_wp2_with fail
    go_ret
    exact ⟨rfl, hb13.out⟩
  · go_wp2_with fail
    refine (hLv.out _).mono ?_
    rintro e w3 ⟨rfl, hb3⟩
    have hb13 := Lib.hid (bthen hb12.out hb3)
    go_wp2_with fail
    go_ret
    exact ⟨rfl, hb13.out⟩
end Go.Proofs.Ytmdohnbhogfopaa
