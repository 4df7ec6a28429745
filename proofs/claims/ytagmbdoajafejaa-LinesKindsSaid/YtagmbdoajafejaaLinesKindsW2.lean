/- LinesKinds: the walk, lines of hop 2. -/
import Derived.Test.YtagmbdoajafejaaLinesLives
import Derived.Test.YtagmbdoajafejaaLinesBStr
import Derived.Test.YtagmbdoajafejaaLinesBStrs
import Derived.Test.YtagmbdoajafejaaLinesCStr
namespace Go.Proofs.Ytagmbdoajafejaa
open Go.RowKit
set_option linter.unusedSimpArgs false
set_option linter.unusedVariables false
namespace Kinds2
/-- What was sent m ticks ago. -/
def sx (L : Nat → ByteArray) (i m : Nat) : ByteArray := if m ≤ i then L (i - m) else ⟨#[]⟩
/-- A list of one text that is on its way, or none. -/
def Held (B : Nat) (w : World) (is : Bool) (v : Value) (s : ByteArray) : Prop :=
  (is = false ∧ v = .slice none 0 0) ∨ (is = true ∧ ∃ g, v = .slice (some ⟨g, 0, none⟩) 1 1 ∧ B ≤ g ∧ Blk w g #[.string s] 9)
theorem Held.to {B : Nat} {w w' : World} {is : Bool} {v : Value} {s : ByteArray} (h : Held B w is v s) (f : ∀ g, Blk w g #[.string s] 9 → Blk w' g #[.string s] 9) : Held B w' is v s := by
  rcases h with h | ⟨h1, g, h2, h3, h4⟩
  · exact .inl h
  · exact .inr ⟨h1, g, h2, h3, f g h4⟩
set_option maxRecDepth 100000
theorem fr132 (a : Act) (hs : a.tmps.size = 132) (hd : a.defers = []) : a = ⟨#[slot a 0, slot a 1, slot a 2, slot a 3, slot a 4, slot a 5, slot a 6, slot a 7, slot a 8, slot a 9, slot a 10, slot a 11, slot a 12, slot a 13, slot a 14, slot a 15, slot a 16, slot a 17, slot a 18, slot a 19, slot a 20, slot a 21, slot a 22, slot a 23, slot a 24, slot a 25, slot a 26, slot a 27, slot a 28, slot a 29, slot a 30, slot a 31, slot a 32, slot a 33, slot a 34, slot a 35, slot a 36, slot a 37, slot a 38, slot a 39, slot a 40, slot a 41, slot a 42, slot a 43, slot a 44, slot a 45, slot a 46, slot a 47, slot a 48, slot a 49, slot a 50, slot a 51, slot a 52, slot a 53, slot a 54, slot a 55, slot a 56, slot a 57, slot a 58, slot a 59, slot a 60, slot a 61, slot a 62, slot a 63, slot a 64, slot a 65, slot a 66, slot a 67, slot a 68, slot a 69, slot a 70, slot a 71, slot a 72, slot a 73, slot a 74, slot a 75, slot a 76, slot a 77, slot a 78, slot a 79, slot a 80, slot a 81, slot a 82, slot a 83, slot a 84, slot a 85, slot a 86, slot a 87, slot a 88, slot a 89, slot a 90, slot a 91, slot a 92, slot a 93, slot a 94, slot a 95, slot a 96, slot a 97, slot a 98, slot a 99, slot a 100, slot a 101, slot a 102, slot a 103, slot a 104, slot a 105, slot a 106, slot a 107, slot a 108, slot a 109, slot a 110, slot a 111, slot a 112, slot a 113, slot a 114, slot a 115, slot a 116, slot a 117, slot a 118, slot a 119, slot a 120, slot a 121, slot a 122, slot a 123, slot a 124, slot a 125, slot a 126, slot a 127, slot a 128, slot a 129, slot a 130, slot a 131], []⟩ := frame_of 132 a hs hd
/-- The lines at the head of a round. -/
def On (B : Nat) (L : Nat → ByteArray) (p1 q1 p2 q2 i : Nat) (wr : World) : Prop :=
  LineStr wr p1 q1 2 [.string (sx L i 2), .bool (decide (2 ≤ i)), .string (sx L i 1), .bool (decide (1 ≤ i))] i ∧
  ∃ v2 v1, Held B wr (decide (2 ≤ i)) v2 (sx L i 2) ∧ Held B wr (decide (1 ≤ i)) v1 (sx L i 1) ∧ LineStrs wr p2 q2 2 [v2, .bool (decide (2 ≤ i)), v1, .bool (decide (1 ≤ i))] i
def Inv (w : World) (la : Option Addr) (n cap : Nat) (L : Nat → ByteArray) (p1 q1 p2 q2 k : Nat) (a : Act) (wr : World) : Prop :=
  ∃ i : Nat, i + k = n ∧ Below w.heap.size w wr ∧ (a.tmps.size = 132 ∧ a.defers = [] ∧ slot a 0 = .slice la n cap ∧ slot a 5 = .int .i64 2 ∧ slot a 6 = .pointer (some ⟨p1, 0, none⟩) ∧ slot a 8 = .pointer (some ⟨p2, 0, none⟩) ∧ slot a 10 = .int .i64 i) ∧ On w.heap.size L p1 q1 p2 q2 i wr
set_option maxHeartbeats 1000000 in
theorem kinds_any (w : World) (la : Option Addr) (n cap : Nat) (L : Nat → ByteArray)
    (hl : ∀ i, i < n → ∃ b o, la = some ⟨b, o, none⟩ ∧ w.cell? ⟨b, o + i, none⟩ = some (.string (L i))) (hn : n ≤ 100) :
    Calls Try.prog 6 #[.slice la n cap, .bool true] w fun e w' => e = .returned (.bool true) ∧ Below w.heap.size w w' := by
  have hn1 : decide ((100 : Int) < (n : Int)) = false := by simp; omega
  replace hl := Lib.hid hl
  go_enter Try.func6, Try.ntmps6
  go_wp2_with fail
  refine (nwStr_2 _).mono ?_
  rintro e w1 ⟨p1, q1, rfl, hA, lp1, lq1, hb1⟩
  go_wp2_with fail
  refine (nwStrs_2 _).mono ?_
  rintro e w2 ⟨p2, q2, rfl, hB, lp2, lq2, hb2⟩
  have la1 := hA.lt
  have la2 := hB.lt
  have hb : Below w.heap.size w w2 := hb1.trans (hb2.mono hb1.size)
  replace hA := hA.touch (Touch.of_below hb2 (Nat.le_refl _) []) (by simp) (by simp)
  have D : p1 ≠ p2 ∧ p1 ≠ q2 ∧ q1 ≠ p2 ∧ q1 ≠ q2 := by have := hb1.size; omega
  have lps : w.heap.size ≤ p1 ∧ w.heap.size ≤ q1 ∧ w.heap.size ≤ p2 ∧ w.heap.size ≤ q2 := by have := hb1.size; omega
  replace D := Lib.hid D
  clear hb1 hb2 la1 la2 lp1 lq1 lp2 lq2
  go_wp2_with fail
  refine wp_loop_k (Inv w la n cap L p1 q1 p2 q2) n ?_ ?_
  · exact ⟨0, by omega, hb, ⟨by kernel_rfl, rfl, by kernel_rfl, by kernel_rfl, by kernel_rfl, by kernel_rfl, by kernel_rfl⟩, by simpa [sx] using hA, _, _, .inl ⟨by decide, rfl⟩, .inl ⟨by decide, rfl⟩, by simpa using hB⟩
  · intro gk a wr hI K hK
    obtain ⟨i, hi, hbr, ⟨hs', hd', k0', k5', k6', k8', k10'⟩, hOn⟩ := hI
    rw [fr132 a hs' hd']; simp only [k0', k5', k6', k8', k10']; clear hs' hd' k0' k5' k6' k8' k10'
    clear hA hB hb
    by_cases hlt : i < n
    · go_wp2_with fail
      obtain ⟨hA, v2, v1, hv2, hv1, hB⟩ := hOn
      refine (hereStr _ _ _ _ _ _ _ _ (by decide) hA).mono ?_
      rintro e wx ⟨rfl, m1, rfl⟩
      go_wp2_with fail
      refine (hereStrs _ _ _ _ _ _ _ _ (by decide) (hB.drewN m1)).mono ?_
      rintro e wx ⟨rfl, m2, rfl⟩
      replace hbr := bdrewN hbr (m1 + m2)
      replace hA := hA.drewN (m1 + m2)
      replace hB := hB.drewN (m1 + m2)
      replace hv1 := hv1.to (w' := wr.drewN (m1 + m2)) (fun g h => h.drewN _)
      replace hv2 := hv2.to (w' := wr.drewN (m1 + m2)) (fun g h => h.drewN _)
      go_upto_region 15 with fail
      generalize wr.drewN (m1 + m2) = W at *
      refine wp_cut (fun a wx => (Below w.heap.size w wx ∧ On w.heap.size L p1 q1 p2 q2 i wx) ∧ a.tmps.size = 132 ∧ a.defers = [] ∧ slot a 0 = .slice la n cap ∧ slot a 5 = .int .i64 2 ∧ slot a 6 = .pointer (some ⟨p1, 0, none⟩) ∧ slot a 8 = .pointer (some ⟨p2, 0, none⟩) ∧ slot a 10 = .int .i64 i ∧ slot a 96 = .bool false) ?_ ?_
      · intro K' hK'
        have hfin : ∀ wx, Below W.heap.size W wx → Below w.heap.size w wx ∧ On w.heap.size L p1 q1 p2 q2 i wx := fun wx hx =>
          have hT := Touch.of_below hx (Nat.le_refl _) []
          ⟨hbr.trans (hx.mono hbr.size), hA.touch hT (by simp) (by simp), v2, v1, hv2.to (fun g h => h.touch hT (by simp)), hv1.to (fun g h => h.touch hT (by simp)), hB.touch hT (by simp) (by simp)⟩
        by_cases hM : 2 ≤ i
        · obtain ⟨j, rfl⟩ : ∃ j, i = j + 2 := ⟨i - 2, by omega⟩
          have x2 : sx L (j + 2) 2 = L j := by simp [sx]
          have dM : decide (2 ≤ j + 2) = true := by simp
          have d1 : decide (1 ≤ j + 2) = true := by simp
          obtain ⟨b, o, rfl, hx0⟩ := hl.out j (by omega)
          have hx := below_cell hx0 hbr (World.block_lt_of_cell? w _ hx0)
          have z3 : j < n := by omega
          clear hx0 hl
          rcases hv2 with ⟨h1, _⟩ | ⟨_, g, rfl, hg, hG⟩
          · exact absurd h1 (by simp)
          · rw [x2] at hG
            have hGc := hG.cell (i := 0) rfl
            simp only [x2, dM, d1] at hA hB ⊢
            go_wp2_with fail
            refine (wayStr_2_yes _ _ _ _ _ _ _ hA).mono ?_
            rintro e wx ⟨g', rfl, hw, _, _, _, _⟩
            go_wp2_with fail
            refine hK' _ _ trivial ⟨?_, by kernel_rfl, rfl, by kernel_rfl, by kernel_rfl, by kernel_rfl, by kernel_rfl, by kernel_rfl, ?_⟩
            · exact hfin _ hw
            · show Value.bool _ = Value.bool false; first | rfl | (simp; done) | (simp; omega) | skip
        · have dM : decide (2 ≤ i) = false := by simp; omega
          have x2 : sx L i 2 = ⟨#[]⟩ := by simp [sx]; omega
          clear hl
          simp only [x2, dM] at hA hB ⊢
          by_cases h1 : 1 ≤ i
          · have d1 : decide (1 ≤ i) = true := by simp; omega
            simp only [d1] at hA hB
            go_wp2_with fail
            refine (wayStr_2_yes _ _ _ _ _ _ _ hA).mono ?_
            rintro e wx ⟨g', rfl, hw, _, _, _, _⟩
            go_wp2_with fail
            refine hK' _ _ trivial ⟨?_, by kernel_rfl, rfl, by kernel_rfl, by kernel_rfl, by kernel_rfl, by kernel_rfl, by kernel_rfl, ?_⟩
            · exact hfin _ hw
            · show Value.bool _ = Value.bool false; first | rfl | (simp; done) | (simp; omega) | skip
          · have d1 : decide (1 ≤ i) = false := by simp; omega
            simp only [d1] at hA hB
            go_wp2_with fail
            refine (wayStr_2_no _ _ _ _ _ _ _ hA).mono ?_
            rintro e wx ⟨rfl, hw⟩
            go_wp2_with fail
            refine hK' _ _ trivial ⟨?_, by kernel_rfl, rfl, by kernel_rfl, by kernel_rfl, by kernel_rfl, by kernel_rfl, by kernel_rfl, ?_⟩
            · exact hfin _ hw
            · show Value.bool _ = Value.bool false; first | rfl | (simp; done) | (simp; omega) | skip
      · rintro a wx ⟨⟨hb1, hOn1⟩, hs', hd', k0', k5', k6', k8', k10', k96'⟩; rw [fr132 a hs' hd']; simp only [k0', k5', k6', k8', k10', k96']; clear hs' hd' k0' k5' k6' k8' k10' k96'
        clear hA hB hbr hv1 hv2
        obtain ⟨hA, v2, v1, hv2, hv1, hB⟩ := hOn1
        have hS := hb1.size
        have lt1 := hA.lt
        have lt2 := hB.lt
        obtain ⟨b, o, rfl, hx0⟩ := hl.out i hlt
        have hx := below_cell hx0 hb1 (World.block_lt_of_cell? w _ hx0)
        replace hx0 := Lib.hid hx0
        go_wp2_with fail
        have hy := (Blk.new wx #[.string (L i)] 9).cell (i := 0) rfl
        refine (sendStr_2_yes _ _ _ _ _ _ _ _ _ _ _ _ (by omega) (by omega) (hA.alloc _) hy).mono ?_
        rintro e w5 ⟨rfl, hA2, ht⟩
        have hb2 := ht.below (hb1.alloc hS _) (by simp; omega) (by simp; omega)
        have hup := ht.size
        simp only [World.size_alloc] at hup
        replace hB := (hB.alloc _).touch ht (by have := D.out; simp only [List.mem_cons, List.not_mem_nil, or_false]; omega) (by have := D.out; simp only [List.mem_cons, List.not_mem_nil, or_false]; omega)
        have hkeep : ∀ g s, Blk wx g #[.string s] 9 → Blk w5 g #[.string s] 9 := fun g s h => (h.alloc _).touch ht (by
          have e1 := h.ne hA.1 (by decide)
          have e2 := h.ne hA.2 (by decide)
          simp only [List.mem_cons, List.not_mem_nil, or_false]; omega)
        replace hv1 := hv1.to (w' := w5) (fun g h => hkeep g _ h)
        replace hv2 := hv2.to (w' := w5) (fun g h => hkeep g _ h)
        have hx := below_cell hx0.out hb2 (World.block_lt_of_cell? w _ hx0.out)
        clear ht hb1 hA hy hkeep
        replace hS := hb2.size
        obtain ⟨ya, yn, yc, rfl⟩ : ∃ a n c, v1 = .slice a n c := by rcases hv1 with ⟨_, rfl⟩ | ⟨_, g, rfl, _⟩ <;> exact ⟨_, _, _, rfl⟩
        go_wp2_with fail
        have hy := (Blk.new (w5.alloc (.cells #[.string (L i)] 9)) #[.slice (some ⟨w5.heap.size, 0, none⟩) 1 1] 63).cell (i := 0) rfl
        simp only [World.size_alloc] at hy
        refine (sendStrs_2_yes _ _ _ _ _ _ _ _ _ _ _ _ _ _ _ _ (by omega) (by omega) ((hB.alloc _).alloc _) hy).mono ?_
        rintro e w6 ⟨rfl, hB2, ht⟩
        have hb3 := ht.below ((hb2.alloc hS _).alloc (by simp; omega) _) (by simp; omega) (by simp; omega)
        replace hA2 := ((hA2.alloc _).alloc _).touch ht (by have := D.out; simp only [List.mem_cons, List.not_mem_nil, or_false]; omega) (by have := D.out; simp only [List.mem_cons, List.not_mem_nil, or_false]; omega)
        have hG := ((Blk.new w5 #[.string (L i)] 9).alloc (.cells #[.slice (some ⟨w5.heap.size, 0, none⟩) 1 1] 63)).touch ht (by
          have := hB.lt
          simp only [List.mem_cons, List.not_mem_nil, or_false]; omega)
        have hkeep : ∀ g s, Blk w5 g #[.string s] 9 → Blk w6 g #[.string s] 9 := fun g s h => ((h.alloc _).alloc _).touch ht (by
          have e1 := h.ne hB.1 (by decide)
          have e2 := h.ne hB.2 (by decide)
          simp only [List.mem_cons, List.not_mem_nil, or_false]; omega)
        replace hv1 := hv1.to (w' := w6) (fun g h => hkeep g _ h)
        replace hv2 := hv2.to (w' := w6) (fun g h => hkeep g _ h)
        have hx := below_cell hx0.out hb3 (World.block_lt_of_cell? w _ hx0.out)
        have hg5 : w.heap.size ≤ w5.heap.size := hS
        clear ht hb2 hB hy hkeep
        replace hS := hb3.size
        go_wp2_with fail
        have hwi : IntKind.i64.wrap (i : Int) = i := wrap_i64_small _ (by omega) (by omega)
        have hin : (i : Int) < n := by omega
        go_region_with (go_at_call 31; refine (sendStr_many _ _ _ _ _ _ _ _ _ (by decide) (by decide) ((hA2.drewN 1).alloc _)).mono ?_; rintro e w7 ⟨rfl, rfl⟩)
        all_goals
          clear hwi
          go_wp2_with fail
          have hT : Touch [] w6 ((w6.drewN 1).alloc (.cells #[.string (L i), .string (L i)] 9)) := ((Touch.refl _ _).drewN 1).alloc _
          refine hK (n - (i + 1)) _ _ (by omega) ⟨i + 1, by omega, (bdrewN hb3 1).alloc hS _, ⟨by kernel_rfl, rfl, by kernel_rfl, by kernel_rfl, by kernel_rfl, by kernel_rfl, ?_⟩, ?_, ?_⟩
          · show Value.int _ _ = Value.int _ _
            simp
          · have := hA2.touch hT (by simp) (by simp)
            simpa [sx, Nat.add_sub_add_right] using this
          · refine ⟨_, _, ?_, .inr ⟨by simp, w5.heap.size, rfl, hg5, ?_⟩, by simpa using hB2.touch hT (by simp) (by simp)⟩
            · have := hv1.to (w' := _) (fun g h => h.touch hT (by simp))
              simpa [sx, Nat.add_sub_add_right] using this
            · simpa [sx] using hG.touch hT (by simp)
    · obtain ⟨hA, -⟩ := hOn
      obtain rfl : i = n := by omega
      go_wp2_with fail
      refine (ticksStr _ _ _ _ _ _ (by decide) hA).mono ?_
      rintro e wx ⟨rfl, rfl⟩
      go_wp2_with fail
      refine (lives07 _).mono ?_
      rintro e wx ⟨rfl, hbL⟩
      go_wp2_with fail
      go_ret
      exact ⟨rfl, hbr.trans (hbL.mono hbr.size)⟩
end Kinds2
end Go.Proofs.Ytagmbdoajafejaa
