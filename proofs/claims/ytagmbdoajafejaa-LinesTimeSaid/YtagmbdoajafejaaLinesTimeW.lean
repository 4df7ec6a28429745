/- LinesTime: the walk. -/
import Derived.Test.YtagmbdoajafejaaLinesLives
import Derived.Test.YtagmbdoajafejaaLinesBByte
namespace Go.Proofs.Ytagmbdoajafejaa
open Go.RowKit
set_option linter.unusedSimpArgs false
set_option linter.unusedVariables false
/-- What was sent k - 2 ticks after the beginning: is it something? -/
def entB (n m : Nat) (G : Nat → Bool) (k : Nat) : Bool := decide (2 ≤ k) && decide (k - 2 < n) && !(decide (k - 2 < m) && G (k - 2))
/-- And what. -/
def entX (n m : Nat) (G : Nat → Bool) (L : Nat → Int) (k : Nat) : Int := if entB n m G k then L (k - 2) else 0
theorem entB_lt {n m : Nat} {G : Nat → Bool} {k : Nat} (h : entB n m G k = true) : 2 ≤ k ∧ k - 2 < n := by
  simp [entB] at h; exact h.1
theorem entX_of {n m : Nat} {G : Nat → Bool} {L : Nat → Int} {k : Nat} (h : entB n m G k = true) : entX n m G L k = L (k - 2) := by simp [entX, h]
theorem entX_no {n m : Nat} {G : Nat → Bool} {L : Nat → Int} {k : Nat} (h : entB n m G k = false) : entX n m G L k = 0 := by simp [entX, h]
theorem ticksByte (w : World) (bL bW hop : Nat) (cs : List Value) (t : Int) (hp : 0 < hop) (h : LineByte w bL bW hop cs t) :
    Calls Try.prog 10 #[.pointer (some ⟨bL, 0, none⟩)] w fun e w' => e = .returned (.int .i64 t) ∧ w = w' := by
  have : (0:Int) < hop := by omega
  have c0 := h.1.cell (i := 0) rfl
  have c1 := h.1.cell (i := 1) rfl
  clear h
  go_enter Try.func10, Try.ntmps10
  go_wp2
  go_ret
  exact ⟨rfl, rfl⟩
set_option maxRecDepth 100000
theorem fr215 (a : Act) (hs : a.tmps.size = 215) (hd : a.defers = []) : a = ⟨#[slot a 0, slot a 1, slot a 2, slot a 3, slot a 4, slot a 5, slot a 6, slot a 7, slot a 8, slot a 9, slot a 10, slot a 11, slot a 12, slot a 13, slot a 14, slot a 15, slot a 16, slot a 17, slot a 18, slot a 19, slot a 20, slot a 21, slot a 22, slot a 23, slot a 24, slot a 25, slot a 26, slot a 27, slot a 28, slot a 29, slot a 30, slot a 31, slot a 32, slot a 33, slot a 34, slot a 35, slot a 36, slot a 37, slot a 38, slot a 39, slot a 40, slot a 41, slot a 42, slot a 43, slot a 44, slot a 45, slot a 46, slot a 47, slot a 48, slot a 49, slot a 50, slot a 51, slot a 52, slot a 53, slot a 54, slot a 55, slot a 56, slot a 57, slot a 58, slot a 59, slot a 60, slot a 61, slot a 62, slot a 63, slot a 64, slot a 65, slot a 66, slot a 67, slot a 68, slot a 69, slot a 70, slot a 71, slot a 72, slot a 73, slot a 74, slot a 75, slot a 76, slot a 77, slot a 78, slot a 79, slot a 80, slot a 81, slot a 82, slot a 83, slot a 84, slot a 85, slot a 86, slot a 87, slot a 88, slot a 89, slot a 90, slot a 91, slot a 92, slot a 93, slot a 94, slot a 95, slot a 96, slot a 97, slot a 98, slot a 99, slot a 100, slot a 101, slot a 102, slot a 103, slot a 104, slot a 105, slot a 106, slot a 107, slot a 108, slot a 109, slot a 110, slot a 111, slot a 112, slot a 113, slot a 114, slot a 115, slot a 116, slot a 117, slot a 118, slot a 119, slot a 120, slot a 121, slot a 122, slot a 123, slot a 124, slot a 125, slot a 126, slot a 127, slot a 128, slot a 129, slot a 130, slot a 131, slot a 132, slot a 133, slot a 134, slot a 135, slot a 136, slot a 137, slot a 138, slot a 139, slot a 140, slot a 141, slot a 142, slot a 143, slot a 144, slot a 145, slot a 146, slot a 147, slot a 148, slot a 149, slot a 150, slot a 151, slot a 152, slot a 153, slot a 154, slot a 155, slot a 156, slot a 157, slot a 158, slot a 159, slot a 160, slot a 161, slot a 162, slot a 163, slot a 164, slot a 165, slot a 166, slot a 167, slot a 168, slot a 169, slot a 170, slot a 171, slot a 172, slot a 173, slot a 174, slot a 175, slot a 176, slot a 177, slot a 178, slot a 179, slot a 180, slot a 181, slot a 182, slot a 183, slot a 184, slot a 185, slot a 186, slot a 187, slot a 188, slot a 189, slot a 190, slot a 191, slot a 192, slot a 193, slot a 194, slot a 195, slot a 196, slot a 197, slot a 198, slot a 199, slot a 200, slot a 201, slot a 202, slot a 203, slot a 204, slot a 205, slot a 206, slot a 207, slot a 208, slot a 209, slot a 210, slot a 211, slot a 212, slot a 213, slot a 214], []⟩ := frame_of 215 a hs hd
/-- What holds at the head of each round. -/
def InvT (w : World) (la ga : Option Addr) (n cap m gcap : Nat) (L : Nat → Int) (G : Nat → Bool) (p1 q1 p2 q2 p3 q3 k : Nat) (a : Act) (wr : World) : Prop :=
  ∃ i : Nat, i + k = n + 3 ∧ Below w.heap.size w wr ∧
    (a.tmps.size = 215 ∧ a.defers = [] ∧ slot a 0 = .slice la n cap ∧ slot a 1 = .slice ga m gcap ∧ slot a 5 = .pointer (some ⟨p1, 0, none⟩) ∧ slot a 7 = .pointer (some ⟨p2, 0, none⟩) ∧ slot a 9 = .pointer (some ⟨p3, 0, none⟩) ∧ slot a 11 = .int .i64 i) ∧
    LineByte wr p1 q1 1 [.int .u8 (entX n m G L (i + 1)), .bool (entB n m G (i + 1))] i ∧
    LineByte wr p2 q2 1 [.int .u8 (entX n m G L i), .bool (entB n m G i)] i ∧
    LineByte wr p3 q3 2 [.int .u8 (entX n m G L i), .bool (entB n m G i), .int .u8 (entX n m G L (i + 1)), .bool (entB n m G (i + 1))] i
set_option maxHeartbeats 1000000 in

theorem linesTime_any (w : World) (la ga : Option Addr) (n cap m gcap : Nat) (L : Nat → Int) (G : Nat → Bool)
    (hl : ∀ i, i < n → ∃ b o, la = some ⟨b, o, none⟩ ∧ w.cell? ⟨b, o + i, none⟩ = some (.int .u8 (L i)))
    (hg : ∀ i, i < m → ∃ b o, ga = some ⟨b, o, none⟩ ∧ w.cell? ⟨b, o + i, none⟩ = some (.bool (G i))) (hm : m ≤ 9223372036854775807) :
    Calls Try.prog 3 #[.slice la n cap, .slice ga m gcap] w fun e w' => e = .returned (.bool true) ∧ Below w.heap.size w w' := by
  by_cases hn : n ≤ 300
  · have hn1 : decide ((300 : Int) < (n : Int)) = false := by simp; omega
    replace hl := Lib.hid hl
    replace hg := Lib.hid hg
    go_enter Try.func3, Try.ntmps3
    go_wp2_with fail
    refine (nwByte_1 _).mono ?_
    rintro e w1 ⟨p1, q1, rfl, hA, lp1, lq1, hb1⟩
    go_wp2_with fail
    refine (nwByte_1 _).mono ?_
    rintro e w2 ⟨p2, q2, rfl, hB, lp2, lq2, hb2⟩
    go_wp2_with fail
    refine (nwByte_2 _).mono ?_
    rintro e w3 ⟨p3, q3, rfl, hC, lp3, lq3, hb3⟩
    have la1 := hA.lt
    have la2 := hB.lt
    have la3 := hC.lt
    have hb : Below w.heap.size w w3 := (hb1.trans (hb2.mono hb1.size)).trans (hb3.mono (Nat.le_trans hb1.size hb2.size))
    replace hA := (hA.touch (Touch.of_below hb2 (Nat.le_refl _) []) (by simp) (by simp)).touch (Touch.of_below hb3 (Nat.le_refl _) []) (by simp) (by simp)
    replace hB := hB.touch (Touch.of_below hb3 (Nat.le_refl _) []) (by simp) (by simp)
    have D : p1 ≠ p2 ∧ p1 ≠ q2 ∧ q1 ≠ p2 ∧ q1 ≠ q2 ∧ p1 ≠ p3 ∧ p1 ≠ q3 ∧ q1 ≠ p3 ∧ q1 ≠ q3 ∧ p2 ≠ p3 ∧ p2 ≠ q3 ∧ q2 ≠ p3 ∧ q2 ≠ q3 := by have := hb1.size; have := hb2.size; omega
    have lps : w.heap.size ≤ p1 ∧ w.heap.size ≤ q1 ∧ w.heap.size ≤ p2 ∧ w.heap.size ≤ q2 ∧ w.heap.size ≤ p3 ∧ w.heap.size ≤ q3 := by have := hb1.size; have := hb2.size; omega
    replace D := Lib.hid D
    clear hb1 hb2 hb3 la1 la2 la3 lp1 lq1 lp2 lq2 lp3 lq3
    go_wp2_with fail
    refine wp_loop_k (InvT w la ga n cap m gcap L G p1 q1 p2 q2 p3 q3) (n + 3) ?_ ?_
    · have e0 : entB n m G 0 = false := by simp [entB]
      have e1 : entB n m G 1 = false := by simp [entB]
      exact ⟨0, by omega, hb, ⟨by kernel_rfl, rfl, by kernel_rfl, by kernel_rfl, by kernel_rfl, by kernel_rfl, by kernel_rfl, by kernel_rfl⟩, by simpa [entX, e0, e1] using hA, by simpa [entX, e0, e1] using hB, by simpa [entX, e0, e1] using hC⟩
    · intro gk a wr hI K hK
      obtain ⟨i, hi, hbr, ⟨hs', hd', k0', k1', k5', k7', k9', k11'⟩, hAr, hBr, hCr⟩ := hI
      rw [fr215 a hs' hd']; simp only [k0', k1', k5', k7', k9', k11']; clear hs' hd' k0' k1' k5' k7' k9' k11'
      clear hA hB hC hb
      by_cases hlt : i < n + 3
      · have hgi : ∀ j, j < m → ∃ b o, ga = some ⟨b, o, none⟩ ∧ wr.cell? ⟨b, o + j, none⟩ = some (.bool (G j)) := fun j h => by
          obtain ⟨b, o, h1, h2⟩ := hg.out j h
          exact ⟨b, o, h1, below_cell h2 hbr (World.block_lt_of_cell? w _ h2)⟩
        have hli : ∀ j, j < n → ∃ b o, la = some ⟨b, o, none⟩ ∧ wr.cell? ⟨b, o + j, none⟩ = some (.int .u8 (L j)) := fun j h => by
          obtain ⟨b, o, h1, h2⟩ := hl.out j h
          exact ⟨b, o, h1, below_cell h2 hbr (World.block_lt_of_cell? w _ h2)⟩
        replace hgi := Lib.hid hgi
        replace hli := Lib.hid hli
        go_upto_region 11 with fail
        refine wp_cut (fun a wx => wr = wx ∧ a.tmps.size = 215 ∧ a.defers = [] ∧ slot a 0 = .slice la n cap ∧ slot a 1 = .slice ga m gcap ∧ slot a 5 = .pointer (some ⟨p1, 0, none⟩) ∧ slot a 7 = .pointer (some ⟨p2, 0, none⟩) ∧ slot a 9 = .pointer (some ⟨p3, 0, none⟩) ∧ slot a 11 = .int .i64 i ∧ slot a 12 = .bool (!entB n m G (i + 2))) ?_ ?_
        · intro K' hK'
          by_cases him : i < m
          · obtain ⟨b, o, rfl, hc⟩ := hgi.out i him
            have hgv : G i = true ∨ G i = false := by cases G i <;> simp
            rcases hgv with hgv | hgv
            all_goals
              rw [hgv] at hc
              by_cases hin : i < n
              · go_wp2
                all_goals (refine hK' _ _ trivial ⟨rfl, by kernel_rfl, rfl, by kernel_rfl, by kernel_rfl, by kernel_rfl, by kernel_rfl, by kernel_rfl, by kernel_rfl, ?_⟩; show Value.bool _ = Value.bool _; simp [entB, him, hin, hgv])
              · go_wp2
                all_goals (refine hK' _ _ trivial ⟨rfl, by kernel_rfl, rfl, by kernel_rfl, by kernel_rfl, by kernel_rfl, by kernel_rfl, by kernel_rfl, by kernel_rfl, ?_⟩; show Value.bool _ = Value.bool _; simp [entB, him, hin, hgv]; try omega)
          · by_cases hin : i < n
            · go_wp2
              all_goals (refine hK' _ _ trivial ⟨rfl, by kernel_rfl, rfl, by kernel_rfl, by kernel_rfl, by kernel_rfl, by kernel_rfl, by kernel_rfl, by kernel_rfl, ?_⟩; show Value.bool _ = Value.bool _; simp [entB, him, hin])
            · go_wp2
              all_goals (refine hK' _ _ trivial ⟨rfl, by kernel_rfl, rfl, by kernel_rfl, by kernel_rfl, by kernel_rfl, by kernel_rfl, by kernel_rfl, by kernel_rfl, ?_⟩; show Value.bool _ = Value.bool _; simp [entB, him, hin]; omega)
        · rintro a wx ⟨rfl, hs', hd', k0', k1', k5', k7', k9', k11', k12'⟩; rw [fr215 a hs' hd']; simp only [k0', k1', k5', k7', k9', k11', k12']; clear hs' hd' k0' k1' k5' k7' k9' k11' k12'
          go_wp2_with fail
          refine (hereByte _ _ _ _ _ _ _ _ (by decide) hAr).mono ?_
          rintro e wx ⟨rfl, n1, rfl⟩
          go_wp2_with fail
          refine (hereByte _ _ _ _ _ _ _ _ (by decide) (hBr.drewN n1)).mono ?_
          rintro e wx ⟨rfl, n2, rfl⟩
          go_wp2_with fail
          refine (hereByte _ _ _ _ _ _ _ _ (by decide) (hCr.drewN _)).mono ?_
          rintro e wx ⟨rfl, n3, rfl⟩
          go_upto_region 15 with fail
          refine wp_cut (fun a wx => wr.drewN (n1 + n2 + n3) = wx ∧ a.tmps.size = 215 ∧ a.defers = [] ∧ slot a 0 = .slice la n cap ∧ slot a 1 = .slice ga m gcap ∧ slot a 5 = .pointer (some ⟨p1, 0, none⟩) ∧ slot a 7 = .pointer (some ⟨p2, 0, none⟩) ∧ slot a 9 = .pointer (some ⟨p3, 0, none⟩) ∧ slot a 11 = .int .i64 i ∧ slot a 12 = .bool (!entB n m G (i + 2)) ∧ slot a 13 = .int .u8 (entX n m G L (i + 1)) ∧ slot a 14 = .bool (entB n m G (i + 1)) ∧ slot a 15 = .int .u8 (entX n m G L i) ∧ slot a 16 = .bool (entB n m G i) ∧ slot a 17 = .int .u8 (entX n m G L i) ∧ slot a 18 = .bool (entB n m G i) ∧ slot a 19 = .bool (entB n m G (i + 1))) ?_ ?_
          · intro K' hK'
            by_cases hi1 : 1 ≤ i
            · obtain ⟨j, rfl⟩ : ∃ j, i = j + 1 := ⟨i - 1, by omega⟩
              by_cases hin : j < n
              · by_cases him : j < m
                · obtain ⟨b, o, rfl, hc⟩ := hgi.out j him
                  have hgv : G j = true ∨ G j = false := by cases G j <;> simp
                  rcases hgv with hgv | hgv
                  all_goals
                    rw [hgv] at hc
                    go_wp2
                    all_goals (refine hK' _ _ trivial ⟨rfl, by kernel_rfl, rfl, by kernel_rfl, by kernel_rfl, by kernel_rfl, by kernel_rfl, by kernel_rfl, by kernel_rfl, by kernel_rfl, by kernel_rfl, by kernel_rfl, by kernel_rfl, by kernel_rfl, by kernel_rfl, by kernel_rfl, ?_⟩; show Value.bool _ = Value.bool _; simp [entB, him, hin, hgv])
                · go_wp2
                  all_goals (refine hK' _ _ trivial ⟨rfl, by kernel_rfl, rfl, by kernel_rfl, by kernel_rfl, by kernel_rfl, by kernel_rfl, by kernel_rfl, by kernel_rfl, by kernel_rfl, by kernel_rfl, by kernel_rfl, by kernel_rfl, by kernel_rfl, by kernel_rfl, by kernel_rfl, ?_⟩; show Value.bool _ = Value.bool _; simp [entB, him, hin])
              · go_wp2
                all_goals (refine hK' _ _ trivial ⟨rfl, by kernel_rfl, rfl, by kernel_rfl, by kernel_rfl, by kernel_rfl, by kernel_rfl, by kernel_rfl, by kernel_rfl, by kernel_rfl, by kernel_rfl, by kernel_rfl, by kernel_rfl, by kernel_rfl, by kernel_rfl, by kernel_rfl, ?_⟩; show Value.bool _ = Value.bool _; simp [entB, hin])
            · go_wp2
              all_goals (refine hK' _ _ trivial ⟨rfl, by kernel_rfl, rfl, by kernel_rfl, by kernel_rfl, by kernel_rfl, by kernel_rfl, by kernel_rfl, by kernel_rfl, by kernel_rfl, by kernel_rfl, by kernel_rfl, by kernel_rfl, by kernel_rfl, by kernel_rfl, by kernel_rfl, ?_⟩; show Value.bool _ = Value.bool _; simp [entB]; try omega)
          · rintro a wx ⟨rfl, hs', hd', k0', k1', k5', k7', k9', k11', k12', k13', k14', k15', k16', k17', k18', k19'⟩; rw [fr215 a hs' hd']; simp only [k0', k1', k5', k7', k9', k11', k12', k13', k14', k15', k16', k17', k18', k19']; clear hs' hd' k0' k1' k5' k7' k9' k11' k12' k13' k14' k15' k16' k17' k18' k19'
            go_upto_region 16 with fail
            refine wp_cut (fun a wx => wr.drewN (n1 + n2 + n3) = wx ∧ a.tmps.size = 215 ∧ a.defers = [] ∧ slot a 0 = .slice la n cap ∧ slot a 1 = .slice ga m gcap ∧ slot a 5 = .pointer (some ⟨p1, 0, none⟩) ∧ slot a 7 = .pointer (some ⟨p2, 0, none⟩) ∧ slot a 9 = .pointer (some ⟨p3, 0, none⟩) ∧ slot a 11 = .int .i64 i ∧ slot a 12 = .bool (!entB n m G (i + 2)) ∧ slot a 13 = .int .u8 (entX n m G L (i + 1)) ∧ slot a 14 = .bool (entB n m G (i + 1)) ∧ slot a 15 = .int .u8 (entX n m G L i) ∧ slot a 16 = .bool (entB n m G i) ∧ slot a 17 = .int .u8 (entX n m G L i) ∧ slot a 18 = .bool (entB n m G i) ∧ slot a 19 = .bool (entB n m G (i + 1)) ∧ slot a 20 = .bool (entB n m G i)) ?_ ?_
            · intro K' hK'
              by_cases hi1 : 2 ≤ i
              · obtain ⟨j, rfl⟩ : ∃ j, i = j + 2 := ⟨i - 2, by omega⟩
                by_cases hin : j < n
                · by_cases him : j < m
                  · obtain ⟨b, o, rfl, hc⟩ := hgi.out j him
                    have hgv : G j = true ∨ G j = false := by cases G j <;> simp
                    rcases hgv with hgv | hgv
                    all_goals
                      rw [hgv] at hc
                      go_wp2
                      all_goals (refine hK' _ _ trivial ⟨rfl, by kernel_rfl, rfl, by kernel_rfl, by kernel_rfl, by kernel_rfl, by kernel_rfl, by kernel_rfl, by kernel_rfl, by kernel_rfl, by kernel_rfl, by kernel_rfl, by kernel_rfl, by kernel_rfl, by kernel_rfl, by kernel_rfl, by kernel_rfl, ?_⟩; show Value.bool _ = Value.bool _; simp [entB, him, hin, hgv])
                  · go_wp2
                    all_goals (refine hK' _ _ trivial ⟨rfl, by kernel_rfl, rfl, by kernel_rfl, by kernel_rfl, by kernel_rfl, by kernel_rfl, by kernel_rfl, by kernel_rfl, by kernel_rfl, by kernel_rfl, by kernel_rfl, by kernel_rfl, by kernel_rfl, by kernel_rfl, by kernel_rfl, by kernel_rfl, ?_⟩; show Value.bool _ = Value.bool _; simp [entB, him, hin])
                · go_wp2
                  all_goals (refine hK' _ _ trivial ⟨rfl, by kernel_rfl, rfl, by kernel_rfl, by kernel_rfl, by kernel_rfl, by kernel_rfl, by kernel_rfl, by kernel_rfl, by kernel_rfl, by kernel_rfl, by kernel_rfl, by kernel_rfl, by kernel_rfl, by kernel_rfl, by kernel_rfl, by kernel_rfl, ?_⟩; show Value.bool _ = Value.bool _; simp [entB, hin])
              · go_wp2
                all_goals (refine hK' _ _ trivial ⟨rfl, by kernel_rfl, rfl, by kernel_rfl, by kernel_rfl, by kernel_rfl, by kernel_rfl, by kernel_rfl, by kernel_rfl, by kernel_rfl, by kernel_rfl, by kernel_rfl, by kernel_rfl, by kernel_rfl, by kernel_rfl, by kernel_rfl, by kernel_rfl, ?_⟩; show Value.bool _ = Value.bool _; simp [entB]; try omega)
            · rintro a wx ⟨rfl, hs', hd', k0', k1', k5', k7', k9', k11', k12', k13', k14', k15', k16', k17', k18', k19', k20'⟩; rw [fr215 a hs' hd']; simp only [k0', k1', k5', k7', k9', k11', k12', k13', k14', k15', k16', k17', k18', k19', k20']; clear hs' hd' k0' k1' k5' k7' k9' k11' k12' k13' k14' k15' k16' k17' k18' k19' k20'
              have hb1 := bdrewN hbr (n1 + n2 + n3)
              have hA1 := hAr.drewN (n1 + n2 + n3)
              have hB1 := hBr.drewN (n1 + n2 + n3)
              have hC1 := hCr.drewN (n1 + n2 + n3)
              have hl1 : Hid (∀ j, j < n → ∃ b o, la = some ⟨b, o, none⟩ ∧ (wr.drewN (n1 + n2 + n3)).cell? ⟨b, o + j, none⟩ = some (.int .u8 (L j))) := hli.out
              generalize wr.drewN (n1 + n2 + n3) = W at *
              clear hAr hBr hCr hbr hli hgi
              go_upto_region 17 with fail
              refine wp_cut (fun a wx => W = wx ∧ a.tmps.size = 215 ∧ a.defers = [] ∧ slot a 0 = .slice la n cap ∧ slot a 1 = .slice ga m gcap ∧ slot a 5 = .pointer (some ⟨p1, 0, none⟩) ∧ slot a 7 = .pointer (some ⟨p2, 0, none⟩) ∧ slot a 9 = .pointer (some ⟨p3, 0, none⟩) ∧ slot a 11 = .int .i64 i ∧ slot a 12 = .bool (!entB n m G (i + 2)) ∧ slot a 187 = .bool false ∧ slot a 13 = .int .u8 (entX n m G L (i + 1)) ∧ slot a 14 = .bool (entB n m G (i + 1))) ?_ ?_
              · intro K' hK'
                have hc1 := Bool.eq_false_or_eq_true (entB n m G (i + 1))
                have hc2 := Bool.eq_false_or_eq_true (entB n m G i)
                rcases hc1 with hc1 | hc1 <;> rcases hc2 with hc2 | hc2
                · have z1 := entB_lt hc1
                  have z2 := entB_lt hc2
                  obtain ⟨j, rfl⟩ : ∃ j, i = j + 2 := ⟨i - 2, by omega⟩
                  obtain ⟨b, o, rfl, hx⟩ := hl1.out (j + 1) (by omega)
                  obtain ⟨b', o', hbo, hy⟩ := hl1.out j (by omega)
                  simp only [Option.some.injEq, Addr.mk.injEq, and_true] at hbo
                  obtain ⟨rfl, rfl⟩ := hbo
                  have x1 : entX n m G L (j + 2 + 1) = L (j + 1) := entX_of hc1
                  have x2 : entX n m G L (j + 2) = L j := entX_of hc2
                  simp only [hc1, hc2, x1, x2] at hA1 hB1 hC1 ⊢
                  have z3 : j + 1 < n := by omega
                  clear z1 z2
                  go_wp2_with fail
                  refine (ticksByte _ _ _ _ _ _ (by decide) hC1).mono ?_
                  rintro e wx ⟨rfl, rfl⟩
                  go_wp2_with fail
                  refine hK' _ _ trivial ⟨rfl, by kernel_rfl, rfl, by kernel_rfl, by kernel_rfl, by kernel_rfl, by kernel_rfl, by kernel_rfl, by kernel_rfl, by kernel_rfl, by kernel_rfl, ?_, ?_⟩
                  · show Value.int _ _ = Value.int _ _; rw [x1]
                  · show Value.bool _ = Value.bool _; rw [hc1]
                · have z1 := entB_lt hc1
                  obtain ⟨j, rfl⟩ : ∃ j, i = j + 1 := ⟨i - 1, by omega⟩
                  obtain ⟨b, o, rfl, hx⟩ := hl1.out j (by omega)
                  have x1 : entX n m G L (j + 1 + 1) = L j := entX_of hc1
                  simp only [hc1, hc2, x1] at hA1 hB1 hC1 ⊢
                  have z3 : j < n := by omega
                  clear z1
                  go_wp2_with fail
                  refine (ticksByte _ _ _ _ _ _ (by decide) hC1).mono ?_
                  rintro e wx ⟨rfl, rfl⟩
                  go_wp2_with fail
                  refine hK' _ _ trivial ⟨rfl, by kernel_rfl, rfl, by kernel_rfl, by kernel_rfl, by kernel_rfl, by kernel_rfl, by kernel_rfl, by kernel_rfl, by kernel_rfl, by kernel_rfl, ?_, ?_⟩
                  · show Value.int _ _ = Value.int _ _; rw [x1]
                  · show Value.bool _ = Value.bool _; rw [hc1]
                · have z2 := entB_lt hc2
                  obtain ⟨j, rfl⟩ : ∃ j, i = j + 2 := ⟨i - 2, by omega⟩
                  obtain ⟨b, o, rfl, hx⟩ := hl1.out j (by omega)
                  have x2 : entX n m G L (j + 2) = L j := entX_of hc2
                  simp only [hc1, hc2, x2] at hA1 hB1 hC1 ⊢
                  have z3 : j < n := by omega
                  clear z2
                  go_wp2_with fail
                  refine (ticksByte _ _ _ _ _ _ (by decide) hC1).mono ?_
                  rintro e wx ⟨rfl, rfl⟩
                  go_wp2_with fail
                  refine hK' _ _ trivial ⟨rfl, by kernel_rfl, rfl, by kernel_rfl, by kernel_rfl, by kernel_rfl, by kernel_rfl, by kernel_rfl, by kernel_rfl, by kernel_rfl, by kernel_rfl, ?_, ?_⟩
                  · show Value.int _ _ = Value.int _ _; rfl
                  · show Value.bool _ = Value.bool _; rw [hc1]
                · simp only [hc1, hc2] at hA1 hB1 hC1 ⊢
                  go_wp2_with fail
                  refine (ticksByte _ _ _ _ _ _ (by decide) hC1).mono ?_
                  rintro e wx ⟨rfl, rfl⟩
                  go_wp2_with fail
                  refine hK' _ _ trivial ⟨rfl, by kernel_rfl, rfl, by kernel_rfl, by kernel_rfl, by kernel_rfl, by kernel_rfl, by kernel_rfl, by kernel_rfl, by kernel_rfl, by kernel_rfl, ?_, ?_⟩
                  · show Value.int _ _ = Value.int _ _; rfl
                  · show Value.bool _ = Value.bool _; rw [hc1]
              · rintro a wx ⟨rfl, hs', hd', k0', k1', k5', k7', k9', k11', k12', k187', k13', k14'⟩; rw [fr215 a hs' hd']; simp only [k0', k1', k5', k7', k9', k11', k12', k187', k13', k14']; clear hs' hd' k0' k1' k5' k7' k9' k11' k12' k187' k13' k14'
                go_upto_if 188 with fail
                refine wp_cut (fun a wx => (Below w.heap.size w wx ∧ LineByte wx p1 q1 1 [.int .u8 (entX n m G L (i + 1)), .bool (entB n m G (i + 1))] i ∧ LineByte wx p2 q2 1 [.int .u8 (entX n m G L (i + 1)), .bool (entB n m G (i + 1))] (i + 1) ∧ LineByte wx p3 q3 2 [.int .u8 (entX n m G L i), .bool (entB n m G i), .int .u8 (entX n m G L (i + 1)), .bool (entB n m G (i + 1))] i) ∧ a.tmps.size = 215 ∧ a.defers = [] ∧ slot a 0 = .slice la n cap ∧ slot a 1 = .slice ga m gcap ∧ slot a 5 = .pointer (some ⟨p1, 0, none⟩) ∧ slot a 7 = .pointer (some ⟨p2, 0, none⟩) ∧ slot a 9 = .pointer (some ⟨p3, 0, none⟩) ∧ slot a 11 = .int .i64 i ∧ slot a 12 = .bool (!entB n m G (i + 2))) ?_ ?_
                · intro K' hK'
                  have hS := hb1.size
                  have hc1 := Bool.eq_false_or_eq_true (entB n m G (i + 1))
                  rcases hc1 with hc1 | hc1
                  · rw [hc1]
                    go_wp2_with fail
                    have hx := (Blk.new W #[.int .u8 (entX n m G L (i + 1))] 5).cell (i := 0) rfl
                    refine (sendByte_1_yes _ _ _ _ _ _ _ _ _ _ (by omega) (by omega) (hB1.alloc _) hx).mono ?_
                    rintro e wx ⟨rfl, hB2, ht⟩
                    go_wp2_with fail
                    refine hK' _ _ trivial ⟨?_, by kernel_rfl, rfl, by kernel_rfl, by kernel_rfl, by kernel_rfl, by kernel_rfl, by kernel_rfl, by kernel_rfl, by kernel_rfl⟩
                    have hb2 := ht.below (hb1.alloc hS _) (by simp; omega) (by simp; omega)
                    refine ⟨hb2, (hA1.alloc _).touch ht (by have := D.out; simp only [List.mem_cons, List.not_mem_nil, or_false]; omega) (by have := D.out; simp only [List.mem_cons, List.not_mem_nil, or_false]; omega), by rw [hc1]; exact hB2, (hC1.alloc _).touch ht (by have := D.out; simp only [List.mem_cons, List.not_mem_nil, or_false]; omega) (by have := D.out; simp only [List.mem_cons, List.not_mem_nil, or_false]; omega)⟩
                  · rw [hc1]
                    go_wp2_with fail
                    refine (sendByte_1_no _ _ _ _ _ _ _ _ (by omega) (by omega) hB1).mono ?_
                    rintro e wx ⟨rfl, hB2, ht⟩
                    go_wp2_with fail
                    refine hK' _ _ trivial ⟨?_, by kernel_rfl, rfl, by kernel_rfl, by kernel_rfl, by kernel_rfl, by kernel_rfl, by kernel_rfl, by kernel_rfl, by kernel_rfl⟩
                    have hb2 := ht.below hb1 hS (by simp; omega)
                    refine ⟨hb2, hA1.touch ht (by have := D.out; simp only [List.mem_cons, List.not_mem_nil, or_false]; omega) (by have := D.out; simp only [List.mem_cons, List.not_mem_nil, or_false]; omega), by rw [hc1, entX_no hc1]; exact hB2, hC1.touch ht (by have := D.out; simp only [List.mem_cons, List.not_mem_nil, or_false]; omega) (by have := D.out; simp only [List.mem_cons, List.not_mem_nil, or_false]; omega)⟩
                · clear hA1 hB1 hC1 hb1 hl1
                  rintro a wx ⟨⟨hb1, hA1, hB1, hC1⟩, hs', hd', k0', k1', k5', k7', k9', k11', k12'⟩; rw [fr215 a hs' hd']; simp only [k0', k1', k5', k7', k9', k11', k12']; clear hs' hd' k0' k1' k5' k7' k9' k11' k12'
                  have hS := hb1.size
                  have hc0 := Bool.eq_false_or_eq_true (entB n m G (i + 2))
                  rcases hc0 with hc0 | hc0
                  · rw [hc0]
                    have z := entB_lt hc0
                    have z3 : i < n := by omega
                    clear z
                    obtain ⟨b, o, rfl, hx0⟩ := hl.out i z3
                    have hx := below_cell hx0 hb1 (World.block_lt_of_cell? w _ hx0)
                    have hx1 := below_cell hx0 (Below.refl _ _) (World.block_lt_of_cell? w _ hx0)
                    clear hx0
                    go_wp2_with fail
                    have hy := (Blk.new wx #[.int .u8 (L i)] 5).cell (i := 0) rfl
                    refine (sendByte_1_yes _ _ _ _ _ _ _ _ _ _ (by omega) (by omega) (hA1.alloc _) hy).mono ?_
                    rintro e w5 ⟨rfl, hA2, ht⟩
                    have hb2 := ht.below (hb1.alloc hS _) (by simp; omega) (by simp; omega)
                    replace hB1 := (hB1.alloc _).touch ht (by have := D.out; simp only [List.mem_cons, List.not_mem_nil, or_false]; omega) (by have := D.out; simp only [List.mem_cons, List.not_mem_nil, or_false]; omega)
                    replace hC1 := (hC1.alloc _).touch ht (by have := D.out; simp only [List.mem_cons, List.not_mem_nil, or_false]; omega) (by have := D.out; simp only [List.mem_cons, List.not_mem_nil, or_false]; omega)
                    replace hS := hb2.size
                    have hx := below_cell hx1 hb2 (World.block_lt_of_cell? w _ hx1)
                    clear ht hb1 hA1 hy
                    go_wp2_with fail
                    have hy := (Blk.new w5 #[.int .u8 (L i)] 5).cell (i := 0) rfl
                    refine (sendByte_2_yes _ _ _ _ _ _ _ _ _ _ _ _ (by omega) (by omega) (hC1.alloc _) hy).mono ?_
                    rintro e w6 ⟨rfl, hC2, ht⟩
                    have hb3 := ht.below (hb2.alloc hS _) (by simp; omega) (by simp; omega)
                    replace hB1 := (hB1.alloc _).touch ht (by have := D.out; simp only [List.mem_cons, List.not_mem_nil, or_false]; omega) (by have := D.out; simp only [List.mem_cons, List.not_mem_nil, or_false]; omega)
                    replace hA2 := (hA2.alloc _).touch ht (by have := D.out; simp only [List.mem_cons, List.not_mem_nil, or_false]; omega) (by have := D.out; simp only [List.mem_cons, List.not_mem_nil, or_false]; omega)
                    clear ht hb2 hy
                    go_wp2_with fail
                    refine hK (n + 3 - (i + 1)) _ _ (by omega) ⟨i + 1, by omega, hb3, ⟨by kernel_rfl, rfl, by kernel_rfl, by kernel_rfl, by kernel_rfl, by kernel_rfl, by kernel_rfl, ?_⟩, ?_, ?_, ?_⟩
                    · show Value.int _ _ = Value.int _ _
                      simp
                    · rw [hc0]; simpa [entX_no, entX_of, hc0] using hA2
                    · simpa using hB1
                    · rw [hc0]; simpa [entX_no, entX_of, hc0] using hC2
                  · rw [hc0]
                    go_wp2_with fail
                    refine (sendByte_1_no _ _ _ _ _ _ _ _ (by omega) (by omega) hA1).mono ?_
                    rintro e w5 ⟨rfl, hA2, ht⟩
                    have hb2 := ht.below hb1 hS (by simp; omega)
                    replace hB1 := hB1.touch ht (by have := D.out; simp only [List.mem_cons, List.not_mem_nil, or_false]; omega) (by have := D.out; simp only [List.mem_cons, List.not_mem_nil, or_false]; omega)
                    replace hC1 := hC1.touch ht (by have := D.out; simp only [List.mem_cons, List.not_mem_nil, or_false]; omega) (by have := D.out; simp only [List.mem_cons, List.not_mem_nil, or_false]; omega)
                    replace hS := hb2.size
                    clear ht hb1 hA1
                    go_wp2_with fail
                    refine (sendByte_2_no _ _ _ _ _ _ _ _ _ _ (by omega) (by omega) hC1).mono ?_
                    rintro e w6 ⟨rfl, hC2, ht⟩
                    have hb3 := ht.below hb2 hS (by simp; omega)
                    replace hB1 := hB1.touch ht (by have := D.out; simp only [List.mem_cons, List.not_mem_nil, or_false]; omega) (by have := D.out; simp only [List.mem_cons, List.not_mem_nil, or_false]; omega)
                    replace hA2 := hA2.touch ht (by have := D.out; simp only [List.mem_cons, List.not_mem_nil, or_false]; omega) (by have := D.out; simp only [List.mem_cons, List.not_mem_nil, or_false]; omega)
                    clear ht hb2
                    go_wp2_with fail
                    refine hK (n + 3 - (i + 1)) _ _ (by omega) ⟨i + 1, by omega, hb3, ⟨by kernel_rfl, rfl, by kernel_rfl, by kernel_rfl, by kernel_rfl, by kernel_rfl, by kernel_rfl, ?_⟩, ?_, ?_, ?_⟩
                    · show Value.int _ _ = Value.int _ _
                      simp
                    · rw [hc0]; simpa [entX_no, entX_of, hc0] using hA2
                    · simpa using hB1
                    · rw [hc0]; simpa [entX_no, entX_of, hc0] using hC2
      · have hge : i = n + 3 := by omega
        go_wp2_with fail
        refine (lives07 _).mono ?_
        rintro e wx ⟨rfl, hbL⟩
        go_wp2_with fail
        go_ret
        exact ⟨rfl, hbr.trans (hbL.mono hbr.size)⟩
  · have hn1 : decide ((300 : Int) < (n : Int)) = true := by simp; omega
    clear hl hg
    go_enter Try.func3, Try.ntmps3
    go_wp2_with fail
    refine (lives07 _).mono ?_
    rintro e wx ⟨rfl, hbL⟩
    go_wp2_with fail
    go_ret
    exact ⟨rfl, hbL⟩
end Go.Proofs.Ytagmbdoajafejaa
