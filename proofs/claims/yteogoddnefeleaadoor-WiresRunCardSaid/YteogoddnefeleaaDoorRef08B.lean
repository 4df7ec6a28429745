/- The document's wires: Given, Here, Set, New. -/
import Derived.Test.YteogoddnefeleaaDoorRef08A
namespace Go.Proofs.YteogoddnefeleaaDoor
open Go.RowKit Go.Maps
set_option linter.unusedSimpArgs false
set_option linter.unusedVariables false
set_option maxRecDepth 100000
set_option maxHeartbeats 2000000 in
theorem rGiven {B : Nat} {w : World} {mw n : Nat} {v : Value} {L : Nat} {rb : Nat → Nat} {F : Nat → Int → Option Int} (h : Ref8 B w mw n v L rb F) (hL : L ≤ 1000) (k : Int) :
    Calls Tryd.prog 45 #[.pointer (some ⟨mw, 0, none⟩), .int .i64 k] w fun e w' => e = .returned (.tuple #[.int .i64 ((givenO n (F (L - 1)) k).getD 0), .bool (givenO n (F (L - 1)) k).isSome]) ∧ Below w.heap.size w w' := by
  obtain ⟨g, cap, cur, rfl, hBg, hgb, hrows⟩ := h.open
  have hpos := h.pos
  have hn := h.hn
  have c0 := h.blk.cell (i := 0) rfl
  have c1 := h.blk.cell (i := 1) rfl
  simp only [List.getElem_toArray, List.getElem_cons_zero, List.getElem_cons_succ] at c0 c1
  have hlt := h.blk.lt
  obtain ⟨L', hL'⟩ : ∃ L', L = L' + 1 := ⟨L - 1, by omega⟩
  have cr := hrows L' (by omega)
  have hrow := h.row L' (by omega)
  have wl : IntKind.i64.wrap ((L : Int) - 1) = (L' : Int) := by rw [wrap_near _ (by omega) (by omega)]; omega
  have q1 : (L' : Int) < (L : Int) := by omega
  have q2 : L' < L := by omega
  have eL : L - 1 = L' := by omega
  clear hL'
  have wn : IntKind.i64.wrap (4 * (n : Int)) = 4 * (n : Int) := wrap_near _ (by omega) (by omega)
  rw [eL]
  clear eL
  by_cases h1 : k < 0
  · have e : givenO n (F L') k = none := by unfold givenO; rw [if_neg (by omega)]
    rw [e]
    have t1 : decide (k < 0) = true := by simp [h1]
    clear h hrows hrow hgb
    go_enter Tryd.func45, Tryd.ntmps45
    go_wp2_with fail
    go_ret2
    exact ⟨rfl, Below.refl _ _⟩
  by_cases h2 : 4 * (n : Int) ≤ k
  · have e : givenO n (F L') k = none := by unfold givenO; rw [if_neg (by omega)]
    rw [e]
    have t1 : decide (k < 0) = false := by simp; omega
    have t2 : decide (4 * (n : Int) ≤ k) = true := by simp [h2]
    clear h hrows hrow hgb
    go_enter Tryd.func45, Tryd.ntmps45
    go_wp2_with fail
    go_ret2
    exact ⟨rfl, Below.refl _ _⟩
  obtain ⟨kk, rfl⟩ : ∃ kk : Nat, k = kk := ⟨k.toNat, by omega⟩
  have e : givenO n (F L') kk = F L' kk := by unfold givenO; rw [if_pos (by omega)]
  rw [e]
  obtain ⟨r0, r1⟩ := rowA_get (n := n) (f := F L') (k := kk) (by omega)
  have s0 := hrow.cell r0
  have s1 := hrow.cell r1
  have hlr := hrow.lt
  have t1 : decide ((kk : Int) < 0) = false := by simp
  have t2 : decide (4 * (n : Int) ≤ (kk : Int)) = false := by simp; omega
  have t3 : (kk : Int) < 4 * (n : Int) := by omega
  have t4 : kk < 4 * n := by omega
  generalize F L' (kk : Int) = o at *
  generalize o.getD 0 = ov at *
  generalize o.isSome = ob at *
  clear h hrows hrow hgb r0 r1
  go_enter Tryd.func45, Tryd.ntmps45
  go_upto_region 3 with fail
  have hall := And.intro c0 (And.intro c1 (And.intro cr (And.intro s0 s1)))
  have hcl : ∀ W, Below w.heap.size w W → W.cell? ⟨mw, 0, none⟩ = some (.int .i64 n) ∧ W.cell? ⟨mw, 1, none⟩ = some (.slice (some ⟨g, 0, none⟩) L cap) ∧ W.cell? ⟨g, L', none⟩ = some (.slice (some ⟨rb L', 0, none⟩) (4 * n) (4 * n)) ∧ W.cell? ⟨rb L', kk * 2, none⟩ = some (.int .i64 ov) ∧ W.cell? ⟨rb L', kk * 2 + 1, none⟩ = some (.bool ob) := fun W hW =>
    ⟨below_cell c0 hW (World.block_lt_of_cell? w _ c0), below_cell c1 hW (World.block_lt_of_cell? w _ c1), below_cell cr hW (World.block_lt_of_cell? w _ cr), below_cell s0 hW (World.block_lt_of_cell? w _ s0), below_cell s1 hW (World.block_lt_of_cell? w _ s1)⟩
  replace hcl := Lib.hid hcl
  go_region_held3 (fun W => W.cell? ⟨mw, 0, none⟩ = some (.int .i64 n) ∧ W.cell? ⟨mw, 1, none⟩ = some (.slice (some ⟨g, 0, none⟩) L cap) ∧ W.cell? ⟨g, L', none⟩ = some (.slice (some ⟨rb L', 0, none⟩) (4 * n) (4 * n)) ∧ W.cell? ⟨rb L', kk * 2, none⟩ = some (.int .i64 ov) ∧ W.cell? ⟨rb L', kk * 2 + 1, none⟩ = some (.bool ob))
    (first | exact hall | exact hcl.out _ (below_drewN w 1) | exact hcl.out _ ((below_drewN w 1).alloc (Nat.le_refl _) _)) (fail)
  have hb2 : Below w.heap.size w (w.alloc (.cells #[.int .i64 ov, .bool ob] 69)).drew := bdrewN (below_alloc w _) 1
  have hk2 : Blk (w.alloc (.cells #[.int .i64 ov, .bool ob] 69)).drew w.heap.size #[.int .i64 ov, .bool ob] 69 := Blk.new w _ _
  clear hall hcl
  generalize (w.alloc (.cells #[.int .i64 ov, .bool ob] 69)).drew = w2 at *
  have d0 : w2.cell? ⟨w.heap.size, 0, none⟩ = some (.int .i64 ov) := hk2.cell (i := 0) rfl
  have d1 : w2.cell? ⟨w.heap.size, 1, none⟩ = some (.bool ob) := hk2.cell (i := 1) rfl
  clear c0 c1 cr s0 s1 hk2
  replace hb2 := Lib.hid hb2
  go_wp2_with fail
  go_quiet (fail)
  go_wp2_with fail
  go_ret2
  exact ⟨rfl, bdrewN hb2.out _⟩
theorem drew_drewN (w : World) (q : Nat) : w.drew.drewN q = w.drewN (1 + q) := by
  unfold World.drewN World.drew
  simp only [Nat.add_assoc]
def back (F : Nat → Int → Option Int) (L j : Nat) : Int → Option Int := if j < L then F (L - 1 - j) else noneG
theorem linkOf_in {n d node hop : Int} (hd : 0 ≤ d) (h : 0 ≤ linkOf n d node hop) : linkOf n d node hop < 4 * n ∧ hop = linkOf n d node hop % 2 + 1 := by
  unfold linkOf at h ⊢
  generalize srcI n d node hop = i at *
  unfold linkI at h ⊢
  split at h
  · rename_i hc
    rw [if_pos hc]
    simp at hc
    have h1 := okR_true hc.1.1
    have h2 := inR_true hc.1.2
    have h3 := okH_true hc.2
    omega
  · omega
set_option maxHeartbeats 2000000 in
theorem rHere {B : Nat} {w : World} {mw n : Nat} {v : Value} {L : Nat} {rb : Nat → Nat} {F : Nat → Int → Option Int} (h : Ref8 B w mw n v L rb F) (hL : L ≤ 1000) (d node hop : Int) (hd : 0 ≤ d) :
    Calls Tryd.prog 44 #[.pointer (some ⟨mw, 0, none⟩), .int .u8 d, .int .i64 node, .int .i64 hop] w fun e w' => e = .returned (.tuple #[.int .i64 ((hereO n (back F L 1) (back F L 2) (linkOf n d node hop)).getD 0), .bool (hereO n (back F L 1) (back F L 2) (linkOf n d node hop)).isSome]) ∧ ∃ q, w' = w.drewN q := by
  obtain ⟨g, cap, cur, rfl, hBg, hgb, hrows⟩ := h.open
  have hpos := h.pos
  have hn := h.hn
  have c0 := h.blk.cell (i := 0) rfl
  have c1 := h.blk.cell (i := 1) rfl
  simp only [List.getElem_toArray, List.getElem_cons_zero, List.getElem_cons_succ] at c0 c1
  have hlt := h.blk.lt
  have P1 : Hid (∀ W, Calls Tryd.prog 23 #[.int .i64 n, .int .u8 d, .int .i64 node, .int .i64 hop] W fun e w' => e = .returned (.int .i64 (srcI n d node hop)) ∧ W = w') := fun W => refSource W n d node hop hd
  have P2 : Hid (∀ W, Calls Tryd.prog 25 #[.int .i64 n, .int .u8 d, .int .i64 (srcI n d node hop), .int .i64 hop] W fun e w' => e = .returned (.int .i64 (linkOf n d node hop)) ∧ W = w') := fun W => refLink W n d _ hop hd
  have hin := linkOf_in (n := n) (node := node) (hop := hop) hd
  generalize linkOf n d node hop = K at *
  generalize srcI n d node hop = S at *
  obtain ⟨L1, hL1⟩ : ∃ L1 : Int, L1 = (L : Int) - 1 := ⟨_, rfl⟩
  have wl : IntKind.i64.wrap ((L : Int) - 1) = L1 := by rw [wrap_near _ (by omega) (by omega), hL1]
  have hcl : ∀ q, (w.drewN q).cell? ⟨mw, 0, none⟩ = some (.int .i64 n) ∧ (w.drewN q).cell? ⟨mw, 1, none⟩ = some (.slice (some ⟨g, 0, none⟩) L cap) := fun q => ⟨c0, c1⟩
  replace hcl := Lib.hid hcl
  by_cases h1 : K < 0
  · have e : hereO n (back F L 1) (back F L 2) K = none := by unfold hereO; rw [if_neg (by omega)]
    rw [e]
    have t1 : decide (K < 0) = true := by simp [h1]
    clear h hrows hgb hin e hL1
    go_enter Tryd.func44, Tryd.ntmps44
    go_upto_region 1 with fail
    go_region_held3 (fun W => W.cell? ⟨mw, 0, none⟩ = some (.int .i64 n) ∧ W.cell? ⟨mw, 1, none⟩ = some (.slice (some ⟨g, 0, none⟩) L cap)) (exact hcl.out _)
      (first
        | (go_at_call 23; (with_reducible refine (P1.out _).mono ?_); rintro e w3 ⟨rfl, rfl⟩)
        | (go_at_call 25; (with_reducible refine (P2.out _).mono ?_); rintro e w4 ⟨rfl, rfl⟩))
    go_wp2_with fail
    go_ret2
    exact ⟨rfl, _, rfl⟩
  obtain ⟨hK4, hK2⟩ := hin (by omega)
  obtain ⟨kk, rfl⟩ : ∃ kk : Nat, K = kk := ⟨K.toNat, by omega⟩
  have t1 : decide ((kk : Int) < 0) = false := by simp
  have t3 : (kk : Int) < 4 * (n : Int) := by omega
  have t4 : kk < 4 * n := by omega
  have hHO : hereO n (back F L 1) (back F L 2) kk = if hop < (L : Int) then F (L - 1 - hop.toNat) kk else none := by
    unfold hereO
    rw [if_pos (by omega)]
    by_cases h2 : (kk : Int) % 2 = 0
    · have e1 : hop.toNat = 1 := by omega
      rw [if_pos h2, e1]
      unfold back
      by_cases h3 : 1 < L
      · rw [if_pos h3, if_pos (by omega)]
      · rw [if_neg h3, if_neg (by omega)]
        rfl
    · have e1 : hop.toNat = 2 := by omega
      rw [if_neg h2, e1]
      unfold back
      by_cases h3 : 2 < L
      · rw [if_pos h3, if_pos (by omega)]
      · rw [if_neg h3, if_neg (by omega)]
        rfl
  rw [hHO]
  by_cases h2 : hop < (L : Int)
  · rw [if_pos h2]
    obtain ⟨at', ha⟩ : ∃ at' : Nat, L - 1 - hop.toNat = at' := ⟨_, rfl⟩
    rw [ha]
    have wat : IntKind.i64.wrap (L1 - hop) = (at' : Int) := by rw [wrap_near _ (by omega) (by omega)]; omega
    have t5 : decide ((at' : Int) < 0) = false := by simp
    have q1 : (at' : Int) < (L : Int) := by omega
    have q2 : at' < L := by omega
    have cr := hrows at' q2
    have hrow := h.row at' q2
    obtain ⟨r0, r1⟩ := rowA_get (n := n) (f := F at') (k := kk) (by omega)
    have s0 := hrow.cell r0
    have s1 := hrow.cell r1
    generalize F at' (kk : Int) = o at *
    generalize o.getD 0 = ov at *
    generalize o.isSome = ob at *
    clear h hrows hgb hrow r0 r1 hHO hL1 h2 h1 hin hK2 ha
    go_enter Tryd.func44, Tryd.ntmps44
    go_upto_region 1 with fail
    go_region_held3 (fun W => W.cell? ⟨mw, 0, none⟩ = some (.int .i64 n) ∧ W.cell? ⟨mw, 1, none⟩ = some (.slice (some ⟨g, 0, none⟩) L cap)) (exact hcl.out _)
      (first
        | (go_at_call 23; (with_reducible refine (P1.out _).mono ?_); rintro e w3 ⟨rfl, rfl⟩)
        | (go_at_call 25; (with_reducible refine (P2.out _).mono ?_); rintro e w4 ⟨rfl, rfl⟩))
    go_wp2_with fail
    go_quiet (fail)
    go_wp2_with fail
    go_ret2
    exact ⟨rfl, _, drew_drewN w _⟩
  · rw [if_neg h2]
    have wat : IntKind.i64.wrap (L1 - hop) = L1 - hop := by rw [wrap_near _ (by omega) (by omega)]
    have t5 : decide (L1 - hop < 0) = true := by simp; omega
    have t6 : L1 - hop < 0 := by omega
    clear h hrows hgb hHO hL1 h2 h1 hin hK2
    go_enter Tryd.func44, Tryd.ntmps44
    go_upto_region 1 with fail
    go_region_held3 (fun W => W.cell? ⟨mw, 0, none⟩ = some (.int .i64 n) ∧ W.cell? ⟨mw, 1, none⟩ = some (.slice (some ⟨g, 0, none⟩) L cap)) (exact hcl.out _)
      (first
        | (go_at_call 23; (with_reducible refine (P1.out _).mono ?_); rintro e w3 ⟨rfl, rfl⟩)
        | (go_at_call 25; (with_reducible refine (P2.out _).mono ?_); rintro e w4 ⟨rfl, rfl⟩))
    go_wp2_with fail
    go_ret2
    exact ⟨rfl, _, rfl⟩
end Go.Proofs.YteogoddnefeleaaDoor
