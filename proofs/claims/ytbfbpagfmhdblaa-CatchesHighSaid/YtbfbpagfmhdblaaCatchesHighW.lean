/- CatchesHigh: SameSyms of unlike lists; the walk. -/
import Derived.Test.YtbfbpagfmhdblaaCatchG
import Derived.Laws.StructEq
namespace Go.Proofs.Ytbfbpagfmhdblaa
open Go.RowKit
set_option linter.unusedSimpArgs false
set_option linter.unusedVariables false
set_option maxRecDepth 100000
def InvSameG (w : World) (aa ab : Option Addr) (n ca cb : Nat) (A B : Nat → Int) (k : Nat) (a : Act) (wr : World) : Prop :=
  ∃ i q : Nat, i + k = n ∧ wr = w.drewN q ∧ alikeB A B i = true ∧ a.tmps.size = 26 ∧ a.defers = [] ∧ slot a 0 = .slice aa n ca ∧ slot a 1 = .slice ab n cb ∧ slot a 5 = .int .i64 i
set_option maxHeartbeats 800000 in
theorem sameSymsG (w : World) (aa ab : Option Addr) (n ca cb : Nat) (A B : Nat → Int) (ha : Rd .u8 w aa n A) (hb : Rd .u8 w ab n B) (hn : n ≤ 1000000000) :
    Calls Try.prog 20 #[.slice aa n ca, .slice ab n cb] w fun e w' => e = .returned (.bool (alikeB A B n)) ∧ ∃ q, w' = w.drewN q := by
  replace ha := Lib.hid ha
  replace hb := Lib.hid hb
  go_enter Try.func20, Try.ntmps20
  go_wp2
  refine wp_loop_k (InvSameG w aa ab n ca cb A B) n ?_ ?_
  · exact ⟨0, 0, by omega, rfl, rfl, by kernel_rfl, rfl, by kernel_rfl, by kernel_rfl, by kernel_rfl⟩
  · intro gk a wr hI K hK
    obtain ⟨i, q, hi, rfl, hal, hs', hd', k0', k1', k5'⟩ := hI
    rw [fr26 a hs' hd']; simp only [k0', k1', k5']; clear hs' hd' k0' k1' k5'
    replace hal := Lib.hid hal
    by_cases hlt : i < n
    · obtain ⟨b, o, rfl, hc⟩ := ha.out i hlt
      obtain ⟨b', o', rfl, hc'⟩ := hb.out i hlt
      have hin : (i : Int) < n := by omega
      have hwi : IntKind.i64.wrap (i : Int) = i := by rw [IntKind.wrap_i64]; omega
      by_cases he : A i = B i
      · have hne : (A i != B i) = false := by simp [he]
        have hal2 := Lib.hid (show alikeB A B (i + 1) = true by simp [alikeB, hal.out, he])
        clear he
        go_wp2_with fail
        go_quiet (fail)
        go_wp2
        refine hK (n - (i + 1)) _ _ (by omega) ⟨i + 1, _, by omega, rfl, hal2.out, by kernel_rfl, rfl, by kernel_rfl, by kernel_rfl, ?_⟩
        show Value.int _ _ = Value.int _ _
        simp
      · have hne : (A i != B i) = true := by simp [he]
        have hal2 := Lib.hid (alikeB_false hlt he)
        clear he
        go_wp2_with fail
        go_quiet (fail)
        go_wp2
        go_ret
        exact ⟨by rw [hal2.out]; rfl, q + nq, by simp⟩
    · obtain rfl : n = i := by omega
      go_wp2
      go_ret
      exact ⟨by rw [hal.out]; rfl, q, rfl⟩
theorem readV_has (L : Nat → Int) (n : Nat) : ∃ o k st sq v, readV L n = .agg #[.int .i64 o, .int .u8 k, .int .u8 st, .int .u32 sq, .int .u32 v] := by
  unfold readV
  split
  · exact getV_is _ _
  · exact ⟨_, _, _, _, _, rfl⟩
theorem readT_has (L : Nat → Int) (n : Nat) : ∃ x y, readT L n = tailV x y := by
  unfold readT
  split
  · exact ⟨_, _, rfl⟩
  · exact ⟨_, _, rfl⟩
theorem readE_ok {L : Nat → Int} (h : readE L 114 = 0) : readOk L 114 = true := by
  cases h1 : readOk L 114 with
  | true => rfl
  | false => rw [readE, h1] at h; simp at h
/-- Whose is the frame that was read? -/
theorem readV_owner {L : Nat → Int} (h : readE L 114 = 0) {o k st sq v : Int} (hv : readV L 114 = .agg #[.int .i64 o, .int .u8 k, .int .u8 st, .int .u32 sq, .int .u32 v]) : bytesL L 0 % 16 = o := by
  have hok := readE_ok h
  rw [readE, if_pos hok] at h
  rw [readV, if_pos hok, getV, if_pos h] at hv
  simp [frV] at hv
  exact hv.1
theorem readT_parts {L : Nat → Int} (h : readE L 114 = 0) {x y : Bool} (ht : readT L 114 = tailV x y) : x = decide (L 112 = 2) ∧ y = decide (L 113 = 2) := by
  rw [readT, if_pos (readE_ok h)] at ht
  simp [tailV] at ht
  exact ⟨ht.1.symm, ht.2.symm⟩
theorem read_congr {A B : Nat → Int} (h : ∀ i, i < 114 → A i = B i) : readE A 114 = readE B 114 ∧ readV A 114 = readV B 114 ∧ readT A 114 = readT B 114 := by
  have hok : readOk A 114 = readOk B 114 := by simp [readOk, wholeL_congr h]
  have hb := bytesL_congr (n := 14) (A := A) (B := B) (fun i hi => h i (by omega))
  obtain ⟨c1, c2⟩ := getE_congr hb
  refine ⟨by simp only [readE, hok, c1], by simp only [readV, hok, c2], by simp only [readT, hok, h 112 (by omega), h 113 (by omega)]⟩
/-- Where a catch is not high: which of the tests says so. -/
theorem low_ways {o : Int} {X Y : Nat → Int} (h : highQ o (knL X 114) (knL Y 114) = false) {o1 k1 s1 q1 v1 : Int} {wh un : Bool} (hv : readV X 114 = .agg #[.int .i64 o1, .int .u8 k1, .int .u8 s1, .int .u32 q1, .int .u32 v1]) (ht : readT X 114 = tailV wh un) :
    alikeB X Y 114 = false ∨ (alikeB X Y 114 = true ∧ (readE X 114 == 0) = false) ∨ (alikeB X Y 114 = true ∧ (readE X 114 == 0) = true ∧ goodB wh un = false) ∨ (alikeB X Y 114 = true ∧ (readE X 114 == 0) = true ∧ goodB wh un = true ∧ (o1 == o) = false) := by
  cases h1 : alikeB X Y 114 with
  | false => exact .inl rfl
  | true =>
    right
    by_cases h2 : readE X 114 = 0
    · right
      have e2 : (readE X 114 == 0) = true := by simp [h2]
      cases h3 : goodB wh un with
      | false => exact .inl ⟨rfl, e2, rfl⟩
      | true =>
        right
        refine ⟨rfl, e2, rfl, ?_⟩
        by_cases h4 : o1 = o
        · exfalso
          obtain ⟨t1, t2⟩ := readT_parts h2 ht
          simp [goodB, t1, t2] at h3
          have := high_read.2 ⟨fun i hi => alikeB_true.1 h1 i hi, h2, h3, by rw [readV_owner h2 hv, h4]⟩
          rw [h] at this
          exact absurd this (by simp)
        · simp [h4]
    · left
      exact ⟨rfl, by simp [h2]⟩
theorem out_ways {o : Int} {N F : Nat → Int} (h : highQ o N F = false) {wh un : Bool} (ht : readT (outI o N F) 114 = tailV wh un) : (readE (outI o N F) 114 == 0) = false ∨ ((readE (outI o N F) 114 == 0) = true ∧ goodB wh un = false) := by
  by_cases h1 : readE (outI o N F) 114 = 0
  · right
    refine ⟨by simp [h1], ?_⟩
    obtain ⟨t1, t2⟩ := readT_parts h1 ht
    have := low_read h
    cases hg : goodB wh un with
    | false => rfl
    | true =>
      simp [goodB, t1, t2] at hg
      exact absurd ⟨h1, hg.2⟩ this
  · left; simp [h1]
set_option maxHeartbeats 8000000 in
theorem highWalk (w : World) (o oo : Int) (a1 : Option Addr) (c1 : Nat) (a2 : Option Addr) (c2 : Nat) (OL : Nat → Int) (f0 f1 f2 f3 f4 o1 k1 s1 q1 v1 E1 o3 k3 s3 q3 v3 E3 : Int) (q x1 y1 x3 y3 AL AL2 : Bool)
    (ho : 0 ≤ o ∧ o < 256) (hoo : o % 8 = oo) (hoo2 : 0 ≤ oo ∧ oo < 8)
    (R : Hid (Calls Try.prog 40 #[.int .i64 oo, .slice a1 114 c1, .slice a2 114 c2] w fun e w' => ∃ a c, e = .returned (.tuple #[.slice a 114 c, .agg #[.int .i64 f0, .int .u8 f1, .int .u8 f2, .int .u32 f3, .int .u32 f4], .bool q]) ∧ 114 ≤ c ∧ c ≤ 9223372036854775807 ∧ Mine .u8 77 w.heap.size w' a 114 OL ∧ Below w.heap.size w w'))
    (S1 : Hid (∀ W, Below w.heap.size w W → Calls Try.prog 20 #[.slice a1 114 c1, .slice a2 114 c2] W fun e w' => e = .returned (.bool AL) ∧ ∃ q, w' = W.drewN q))
    (D1 : Hid (∀ W, Below w.heap.size w W → Calls Try.prog 35 #[.slice a1 114 c1] W fun e w' => e = .returned (.tuple #[.agg #[.int .i64 o1, .int .u8 k1, .int .u8 s1, .int .u32 q1, .int .u32 v1], .agg #[.bool x1, .bool y1], .int .i64 E1]) ∧ Below W.heap.size W w'))
    (D2 : Hid (∀ W a c, Rd .u8 W a 114 OL → NilOk a 114 c → Calls Try.prog 35 #[.slice a 114 c] W fun e w' => e = .returned (.tuple #[.agg #[.int .i64 o3, .int .u8 k3, .int .u8 s3, .int .u32 q3, .int .u32 v3], .agg #[.bool x3, .bool y3], .int .i64 E3]) ∧ Below W.heap.size W w'))
    (S2 : Hid (∀ W a c, Below w.heap.size w W → Rd .u8 W a 114 OL → Calls Try.prog 20 #[.slice a 114 c, .slice a1 114 c1] W fun e w' => e = .returned (.bool AL2) ∧ ∃ q, w' = W.drewN q))
    (hW : Hid ((q = false ∧ (f0 = 0 ∧ f1 = 0 ∧ f2 = 0 ∧ f3 = 0 ∧ f4 = 0) ∧ (AL = false ∨ (AL = true ∧ (E1 == 0) = false) ∨ (AL = true ∧ (E1 == 0) = true ∧ goodB x1 y1 = false) ∨ (AL = true ∧ (E1 == 0) = true ∧ goodB x1 y1 = true ∧ (o1 == oo) = false)) ∧ ((E3 == 0) = false ∨ ((E3 == 0) = true ∧ goodB x3 y3 = false))) ∨
      (q = true ∧ AL = true ∧ (E1 == 0) = true ∧ goodB x1 y1 = true ∧ (o1 == oo) = true ∧ (E3 == 0) = true ∧ goodB x3 y3 = true ∧ (f0 = o1 ∧ f1 = k1 ∧ f2 = s1 ∧ f3 = q1 ∧ f4 = v1) ∧ (o3 = o1 ∧ k3 = k1 ∧ s3 = s1 ∧ q3 = q1 ∧ v3 = v1) ∧ AL2 = true))) :
    Calls Try.prog 10 #[.int .u8 o, .slice a1 114 c1, .slice a2 114 c2] w fun e w' => e = .returned (.bool true) ∧ Below w.heap.size w w' := by
  have u2 : IntKind.i64.wrap oo = oo := wrap_i64_small _ (by omega) (by omega)
  have GD := Lib.hid (fun W x y => frGood W x y)
  unfold tailV at GD
  go_enter Try.func10, Try.ntmps10
  go_wp2_with fail
  refine R.out.mono ?_
  rintro e w1 ⟨a3, c3, rfl, hc3, hc3', m1, hb1⟩
  have hf2 := Blk.new w1 #[.int .i64 f0, .int .u8 f1, .int .u8 f2, .int .u32 f3, .int .u32 f4] 34
  have hb12 := below_alloc w1 (.cells #[.int .i64 f0, .int .u8 f1, .int .u8 f2, .int .u32 f3, .int .u32 f4] 34)
  have hb02 := bthen hb1 hb12
  have m2 := m1.below hb12 (Nat.le_refl _)
  go_wp2_with fail
  generalize w1.alloc (.cells #[.int .i64 f0, .int .u8 f1, .int .u8 f2, .int .u32 f3, .int .u32 f4] 34) = w2 at *
  refine (D1.out w2 hb02).mono ?_
  rintro e w3 ⟨rfl, hb3⟩
  have hb34 : Below w3.heap.size w3 ((w3.alloc (.cells #[.int .i64 o1, .int .u8 k1, .int .u8 s1, .int .u32 q1, .int .u32 v1] 34)).alloc (.cells #[.bool x1, .bool y1] 38)) := (below_alloc _ _).trans ((below_alloc _ _).mono (by simp))
  have hg4 : Blk ((w3.alloc (.cells #[.int .i64 o1, .int .u8 k1, .int .u8 s1, .int .u32 q1, .int .u32 v1] 34)).alloc (.cells #[.bool x1, .bool y1] 38)) w3.heap.size #[.int .i64 o1, .int .u8 k1, .int .u8 s1, .int .u32 q1, .int .u32 v1] 34 := (Blk.new w3 _ _).alloc _
  have ht4 : Blk ((w3.alloc (.cells #[.int .i64 o1, .int .u8 k1, .int .u8 s1, .int .u32 q1, .int .u32 v1] 34)).alloc (.cells #[.bool x1, .bool y1] 38)) (w3.heap.size + 1) #[.bool x1, .bool y1] 38 := by
    have := Blk.new (w3.alloc (.cells #[.int .i64 o1, .int .u8 k1, .int .u8 s1, .int .u32 q1, .int .u32 v1] 34)) #[.bool x1, .bool y1] 38
    simpa using this
  have hb24 := bthen hb3 hb34
  have hf4 := Lib.hid (hf2.below hb24 hf2.lt)
  have m4 := Lib.hid (m2.below hb24 (Nat.le_refl _))
  have hb04 := bthen hb02 hb24
  go_upto_region 6 with fail
  generalize (w3.alloc (.cells #[.int .i64 o1, .int .u8 k1, .int .u8 s1, .int .u32 q1, .int .u32 v1] 34)).alloc (.cells #[.bool x1, .bool y1] 38) = w4 at *
  replace hg4 := Lib.hid hg4
  replace ht4 := Lib.hid ht4
  clear hf2 hb12 hb02 m2 m1 hb3 hb34 hb24 R D1 hb1 u2 hoo ho
  refine wp_cut (fun a wx => (Below w4.heap.size w4 wx) ∧ a.tmps.size = 113 ∧ a.defers = [] ∧ slot a 1 = .slice a1 114 c1 ∧ slot a 7 = .int .i64 oo ∧ slot a 8 = .slice a3 114 c3 ∧ slot a 9 = .pointer (some ⟨w1.heap.size, 0, none⟩) ∧ slot a 10 = .bool q ∧ slot a 11 = .pointer (some ⟨w3.heap.size, 0, none⟩) ∧ slot a 14 = .bool q) ?_ ?_
  · intro K' hK'
    obtain ⟨⟨c0, c1', c2', c3', c4⟩, _⟩ := fr_cells hg4.out
    obtain ⟨⟨t0, t1⟩, _⟩ := tl_cells ht4.out
    go_wp2_with fail
    refine (S1.out w4 hb04).mono ?_
    rintro e w5 ⟨rfl, hq5⟩
    have hb45 : Below w4.heap.size w4 w5 := by
      obtain ⟨n, rfl⟩ := hq5
      exact below_drewN _ _
    clear hq5 c0 c1' c2' c3' c4 t0 t1
    obtain ⟨⟨c0, c1', c2', c3', c4⟩, _⟩ := fr_cells (hg4.out.below hb45 hg4.out.lt)
    obtain ⟨⟨t0, t1⟩, _⟩ := tl_cells (ht4.out.below hb45 ht4.out.lt)
    rcases hW.out with ⟨rfl, _, hA, _⟩ | ⟨rfl, rfl, e1, e2, e3, _⟩
    · rcases hA with rfl | ⟨rfl, e1⟩ | ⟨rfl, e1, e2⟩ | ⟨rfl, e1, e2, e3⟩
      · go_wp2_with fail
        exact hK' _ _ trivial ⟨hb45, by kernel_rfl, rfl, by kernel_rfl, by kernel_rfl, by kernel_rfl, by kernel_rfl, by kernel_rfl, by kernel_rfl, by kernel_rfl⟩
      · go_wp2_with fail
        exact hK' _ _ trivial ⟨hb45, by kernel_rfl, rfl, by kernel_rfl, by kernel_rfl, by kernel_rfl, by kernel_rfl, by kernel_rfl, by kernel_rfl, by kernel_rfl⟩
      · skip
        go_wp2_with fail
        refine (GD.out _ x1 y1).mono ?_
        rintro e w6 ⟨rfl, hb6⟩
        have hb46 := bthen hb45 hb6
        rw [e2]
        clear c0 c1' c2' c3' c4 t0 t1
        obtain ⟨⟨c0, c1', c2', c3', c4⟩, _⟩ := fr_cells (hg4.out.below hb46 hg4.out.lt)
        go_wp2_with fail
        exact hK' _ _ trivial ⟨hb46, by kernel_rfl, rfl, by kernel_rfl, by kernel_rfl, by kernel_rfl, by kernel_rfl, by kernel_rfl, by kernel_rfl, by kernel_rfl⟩
      · skip
        go_wp2_with fail
        refine (GD.out _ x1 y1).mono ?_
        rintro e w6 ⟨rfl, hb6⟩
        have hb46 := bthen hb45 hb6
        rw [e2]
        clear c0 c1' c2' c3' c4 t0 t1
        obtain ⟨⟨c0, c1', c2', c3', c4⟩, _⟩ := fr_cells (hg4.out.below hb46 hg4.out.lt)
        go_wp2_with fail
        exact hK' _ _ trivial ⟨hb46, by kernel_rfl, rfl, by kernel_rfl, by kernel_rfl, by kernel_rfl, by kernel_rfl, by kernel_rfl, by kernel_rfl, by kernel_rfl⟩
    · skip
      go_wp2_with fail
      refine (GD.out _ x1 y1).mono ?_
      rintro e w6 ⟨rfl, hb6⟩
      have hb46 := bthen hb45 hb6
      rw [e2]
      clear c0 c1' c2' c3' c4 t0 t1
      obtain ⟨⟨c0, c1', c2', c3', c4⟩, _⟩ := fr_cells (hg4.out.below hb46 hg4.out.lt)
      go_wp2_with fail
      exact hK' _ _ trivial ⟨hb46, by kernel_rfl, rfl, by kernel_rfl, by kernel_rfl, by kernel_rfl, by kernel_rfl, by kernel_rfl, by kernel_rfl, by kernel_rfl⟩
  clear S1
  rintro a wx ⟨hb4x, hs', hd', k1', k7', k8', k9', k10', k11', k14'⟩; rw [fr113 a hs' hd']; simp only [k1', k7', k8', k9', k10', k11', k14']; clear hs' hd' k1' k7' k8' k9' k10' k11' k14'
  have hb0x := bthen hb04 hb4x
  have mx := m4.out.below hb4x (Nat.le_refl _)
  have hfx := hf4.out.below hb4x hf4.out.lt
  have hgx := hg4.out.below hb4x hg4.out.lt
  have hnx : a3 ≠ none := fun e => by have := mx.none e; omega
  clear hb4x m4 hf4 hg4 ht4
  go_wp2_with fail
  refine (D2.out wx a3 c3 mx.rd ⟨hc3, hc3', fun e => absurd e hnx⟩).mono ?_
  rintro e w6 ⟨rfl, hb6⟩
  have hb67 : Below w6.heap.size w6 ((w6.alloc (.cells #[.int .i64 o3, .int .u8 k3, .int .u8 s3, .int .u32 q3, .int .u32 v3] 34)).alloc (.cells #[.bool x3, .bool y3] 38)) := (below_alloc _ _).trans ((below_alloc _ _).mono (by simp))
  have hh7 : Blk ((w6.alloc (.cells #[.int .i64 o3, .int .u8 k3, .int .u8 s3, .int .u32 q3, .int .u32 v3] 34)).alloc (.cells #[.bool x3, .bool y3] 38)) w6.heap.size #[.int .i64 o3, .int .u8 k3, .int .u8 s3, .int .u32 q3, .int .u32 v3] 34 := (Blk.new w6 _ _).alloc _
  have ht7 : Blk ((w6.alloc (.cells #[.int .i64 o3, .int .u8 k3, .int .u8 s3, .int .u32 q3, .int .u32 v3] 34)).alloc (.cells #[.bool x3, .bool y3] 38)) (w6.heap.size + 1) #[.bool x3, .bool y3] 38 := by
    have := Blk.new (w6.alloc (.cells #[.int .i64 o3, .int .u8 k3, .int .u8 s3, .int .u32 q3, .int .u32 v3] 34)) #[.bool x3, .bool y3] 38
    simpa using this
  have hbx7 := bthen hb6 hb67
  have hf7 := Lib.hid (hfx.below hbx7 hfx.lt)
  have hg7 := Lib.hid (hgx.below hbx7 hgx.lt)
  have m7 := Lib.hid (mx.below hbx7 (Nat.le_refl _))
  have hb07 := bthen hb0x hbx7
  go_upto_region 8 with fail
  generalize (w6.alloc (.cells #[.int .i64 o3, .int .u8 k3, .int .u8 s3, .int .u32 q3, .int .u32 v3] 34)).alloc (.cells #[.bool x3, .bool y3] 38) = w7 at *
  replace hh7 := Lib.hid hh7
  replace ht7 := Lib.hid ht7
  clear hfx hgx hb6 hb67 hbx7 mx hb0x
  refine wp_cut (fun a wx => (Below w7.heap.size w7 wx) ∧ a.tmps.size = 113 ∧ a.defers = [] ∧ slot a 1 = .slice a1 114 c1 ∧ slot a 8 = .slice a3 114 c3 ∧ slot a 9 = .pointer (some ⟨w1.heap.size, 0, none⟩) ∧ slot a 10 = .bool q ∧ slot a 11 = .pointer (some ⟨w3.heap.size, 0, none⟩) ∧ slot a 15 = .pointer (some ⟨w6.heap.size, 0, none⟩) ∧ slot a 84 = .bool false) ?_ ?_
  · intro K' hK'
    obtain ⟨⟨t0, t1⟩, _⟩ := tl_cells ht7.out
    rcases hW.out with ⟨rfl, _, _, hA⟩ | ⟨rfl, _, _, _, _, e1, e2, _⟩
    · rcases hA with e1 | ⟨e1, e2⟩
      · go_wp2_with fail
        exact hK' _ _ trivial ⟨Below.refl _ _, by kernel_rfl, rfl, by kernel_rfl, by kernel_rfl, by kernel_rfl, by kernel_rfl, by kernel_rfl, by kernel_rfl, by kernel_rfl⟩
      · skip
        go_wp2_with fail
        refine (GD.out _ x3 y3).mono ?_
        rintro e w8 ⟨rfl, hb8⟩
        rw [e2]
        go_wp2_with fail
        exact hK' _ _ trivial ⟨hb8, by kernel_rfl, rfl, by kernel_rfl, by kernel_rfl, by kernel_rfl, by kernel_rfl, by kernel_rfl, by kernel_rfl, by kernel_rfl⟩
    · skip
      go_wp2_with fail
      refine (GD.out _ x3 y3).mono ?_
      rintro e w8 ⟨rfl, hb8⟩
      rw [e2]
      go_wp2_with fail
      exact hK' _ _ trivial ⟨hb8, by kernel_rfl, rfl, by kernel_rfl, by kernel_rfl, by kernel_rfl, by kernel_rfl, by kernel_rfl, by kernel_rfl, by kernel_rfl⟩
  rintro a wx ⟨hb7x, hs', hd', k1', k8', k9', k10', k11', k15', k84'⟩; rw [fr113 a hs' hd']; simp only [k1', k8', k9', k10', k11', k15', k84']; clear hs' hd' k1' k8' k9' k10' k11' k15' k84'
  have hb0x := bthen hb07 hb7x
  have mx := Lib.hid (m7.out.below hb7x (Nat.le_refl _))
  obtain ⟨⟨c0, c1', c2', c3', c4⟩, _⟩ := fr_cells (hf7.out.below hb7x hf7.out.lt)
  obtain ⟨⟨d0, d1, d2, d3, d4⟩, _⟩ := fr_cells (hg7.out.below hb7x hg7.out.lt)
  obtain ⟨⟨i0, i1, i2, i3, i4⟩, _⟩ := fr_cells (hh7.out.below hb7x hh7.out.lt)
  clear hf7 hg7 hh7 ht7 m7 hb7x hb07 GD D2 hb04
  rcases hW.out with ⟨rfl, ⟨rfl, rfl, rfl, rfl, rfl⟩, _, _⟩ | ⟨rfl, _, _, _, _, _, _, ⟨rfl, rfl, rfl, rfl, rfl⟩, ⟨rfl, rfl, rfl, rfl, rfl⟩, rfl⟩
  · clear hW S2
    go_wp2_with fail
    refine (lives09 _).mono ?_
    rintro e w11 ⟨rfl, hb11⟩
    go_wp2_with fail
    go_ret
    exact ⟨rfl, bthen hb0x hb11⟩
  · clear hW
    go_wp2_with fail
    refine (S2.out wx a3 c3 hb0x mx.out.rd).mono ?_
    rintro e w9 ⟨rfl, hq9⟩
    have hb9 : Below wx.heap.size wx w9 := by
      obtain ⟨n, rfl⟩ := hq9
      exact below_drewN _ _
    have hb09 := bthen hb0x hb9
    clear hq9 hb9 mx S2
    go_wp2_with fail
    refine (lives09 _).mono ?_
    rintro e w11 ⟨rfl, hb11⟩
    go_wp2_with fail
    go_ret
    exact ⟨rfl, bthen hb09 hb11⟩
set_option maxHeartbeats 2000000 in
theorem catchesHigh_any (w : World) (o : Int) (a1 : Option Addr) (n1 c1 : Nat) (X : Nat → Int) (a2 : Option Addr) (n2 c2 : Nat) (Y : Nat → Int) (ho : 0 ≤ o ∧ o < 256) (hX : Rd .u8 w a1 n1 X) (hY : Rd .u8 w a2 n2 Y) (hn1 : NilOk a1 n1 c1) (hn2 : NilOk a2 n2 c2) :
    Calls Try.prog 10 #[.int .u8 o, .slice a1 n1 c1, .slice a2 n2 c2] w fun e w' => e = .returned (.bool true) ∧ Below w.heap.size w w' := by
  by_cases h1 : n1 = 114
  · by_cases h2 : n2 = 114
    · subst h1
      subst h2
      obtain ⟨oo, hoo, hoo2⟩ : ∃ oo : Int, o % 8 = oo ∧ 0 ≤ oo ∧ oo < 8 := ⟨_, rfl, by omega⟩
      have R := lawRun w oo a1 114 c1 X a2 114 c2 Y hoo2 hX hY (.inl ⟨rfl, by omega⟩)
      have S1 := fun W (hb : Below w.heap.size w W) => sameSymsG W a1 a2 114 c1 c2 X Y (hX.below hb (Nat.le_refl _)) (hY.below hb (Nat.le_refl _)) (by omega)
      have S2 := fun W a c (L : Nat → Int) (hb : Below w.heap.size w W) (h : Rd .u8 W a 114 L) => sameSymsG W a a1 114 c c1 L X h (hX.below hb (Nat.le_refl _)) (by omega)
      have D1 := fun W (hb : Below w.heap.size w W) => frRead W a1 114 c1 X (hX.below hb (Nat.le_refl _)) hn1 (by omega)
      have D2 := fun W a c (L : Nat → Int) (h : Rd .u8 W a 114 L) (hn : NilOk a 114 c) => frRead W a 114 c L h hn (by omega)
      obtain ⟨o1, k1, s1, q1, v1, hV1⟩ := readV_has X 114
      obtain ⟨x1, y1, hT1⟩ := readT_has X 114
      rw [hV1, hT1] at D1
      cases hh : highQ oo (knL X 114) (knL Y 114) with
      | true =>
        obtain ⟨hA, hE, ⟨h112, h113⟩, hown⟩ := high_read.1 hh
        obtain ⟨hout, hget⟩ := high_out hh
        rw [if_pos hh, hh, hget, hV1] at R
        obtain ⟨ce, cv, ct⟩ := read_congr hout
        obtain ⟨t1, t2⟩ := readT_parts hE hT1
        have hx1 : x1 = true := by rw [t1]; simp [h112]
        have hy1 : y1 = false := by rw [t2]; simp [h113]
        have D2' := fun W a c h hn => by
          have := D2 W a c (outI oo (knL X 114) (knL Y 114)) h hn
          rw [cv, ct, hV1, hT1] at this
          exact this
        refine highWalk w o oo a1 c1 a2 c2 (outI oo (knL X 114) (knL Y 114)) o1 k1 s1 q1 v1 o1 k1 s1 q1 v1 (readE X 114) o1 k1 s1 q1 v1 _ true x1 y1 x1 y1 _ _ ho hoo hoo2 R S1 D1 D2' (fun W a c hb h => S2 W a c _ hb h) (.inr ⟨rfl, alikeB_true.2 hA, by simp [hE], by simp [goodB, hx1, hy1], ?_, ?_, by simp [goodB, hx1, hy1], ⟨rfl, rfl, rfl, rfl, rfl⟩, ⟨rfl, rfl, rfl, rfl, rfl⟩, alikeB_true.2 hout⟩)
        · have := readV_owner hE hV1
          simp; omega
        · rw [ce]; simp [hE]
      | false =>
        obtain ⟨o3, k3, s3, q3, v3, hV3⟩ := readV_has (outI oo (knL X 114) (knL Y 114)) 114
        obtain ⟨x3, y3, hT3⟩ := readT_has (outI oo (knL X 114) (knL Y 114)) 114
        rw [if_neg (by rw [hh]; simp), hh] at R
        have D2' := fun W a c h hn => by
          have := D2 W a c (outI oo (knL X 114) (knL Y 114)) h hn
          rw [hV3, hT3] at this
          exact this
        exact highWalk w o oo a1 c1 a2 c2 (outI oo (knL X 114) (knL Y 114)) 0 0 0 0 0 o1 k1 s1 q1 v1 (readE X 114) o3 k3 s3 q3 v3 _ false x1 y1 x3 y3 _ _ ho hoo hoo2 R S1 D1 D2' (fun W a c hb h => S2 W a c _ hb h) (.inl ⟨rfl, ⟨rfl, rfl, rfl, rfl, rfl⟩, low_ways hh hV1 hT1, out_ways hh hT3⟩)
    · have g : decide ((n2 : Int) = 114) = false := by simp; omega
      have g' : ¬ (n2 : Int) = 114 := by omega
      have g2 : ((n2 : Int) != 114) = true := by simp; omega
      subst h1
      clear hX hY hn1 hn2
      go_enter Try.func10, Try.ntmps10
      go_wp2_with fail
      refine (lives09 _).mono ?_
      rintro e w11 ⟨rfl, hb11⟩
      go_wp2_with fail
      go_ret
      exact ⟨rfl, hb11⟩
  · have g : decide ((n1 : Int) = 114) = false := by simp; omega
    have g' : ¬ (n1 : Int) = 114 := by omega
    have g2 : ((n1 : Int) != 114) = true := by simp; omega
    clear hX hY hn1 hn2
    go_enter Try.func10, Try.ntmps10
    go_wp2_with fail
    refine (lives09 _).mono ?_
    rintro e w11 ⟨rfl, hb11⟩
    go_wp2_with fail
    go_ret
    exact ⟨rfl, hb11⟩
end Go.Proofs.Ytbfbpagfmhdblaa
