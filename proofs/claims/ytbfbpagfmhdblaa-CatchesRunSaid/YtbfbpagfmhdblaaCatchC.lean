/- Catches: frame, tail, High. -/
import Derived.Test.YtbfbpagfmhdblaaCatchB
namespace Go.Proofs.Ytbfbpagfmhdblaa
open Go.RowKit
set_option linter.unusedSimpArgs false
set_option linter.unusedVariables false
set_option maxRecDepth 100000
/-- Is it a frame of that owner's? -/
def isL (o : Int) (L : Nat → Int) : Bool := decide (getE (bytesL L) 14 = 0) && decide (bytesL L 0 % 16 = o)
theorem frame_ways (L : Nat → Int) (o' o : Int) : (getE L 14 = 4 ∧ (decide (getE L 14 = 0) && decide (o' = o)) = false) ∨ (getE L 14 = 5 ∧ (decide (getE L 14 = 0) && decide (o' = o)) = false) ∨ (getE L 14 = 0 ∧ (decide (getE L 14 = 0) && decide (o' = o)) = (o' == o)) := by
  have h : getE L 14 = 0 ∨ getE L 14 = 4 ∨ getE L 14 = 5 := by
    unfold getE
    split
    · split
      · split
        · exact .inl rfl
        · exact .inr (.inl rfl)
      · exact .inr (.inr rfl)
    · exact .inr (.inl rfl)
  rcases h with h | h | h
  · right; right; rw [h]; exact ⟨rfl, by simp; rfl⟩
  · left; rw [h]; exact ⟨rfl, by simp⟩
  · right; left; rw [h]; exact ⟨rfl, by simp⟩
set_option maxHeartbeats 2000000 in
theorem catchFrame (w : World) (b : Nat) (o : Int) (nx v : Value) (had un : Int) (cut wh hi : Bool) (L : Nat → Int) (h : Ct w b o nx v had un cut wh hi) (hown : w.ownsRow 0 77 1 v 112 (nums .u8 L 112)) (hw : wholeL L 112 = true) :
    Calls Try.prog 82 #[.pointer (some ⟨b, 0, none⟩)] w fun e w' => e = .returned (.tuple #[getV (bytesL L) 14, .bool (isL o L)]) ∧ Below w.heap.size w w' := by
  obtain ⟨a, c, rfl, hac, hc63, hnil, hmine⟩ := own_mine hown
  have hrd := Lib.hid hmine.rd
  have hob : okB L 112 = true := by simp [okB, hw]
  have hcb : cntB L 112 = 14 := by simp [cntB, hob]
  have hby := Lib.hid (bytesL_byte (q := 14) hw)
  have C := Lib.hid (fun (W : World) (h : Rd .u8 W a 112 L) => by
    have := bitsBytes W a 112 c L h ⟨hac, hc63, hnil⟩ (by omega)
    rw [hob, hcb] at this
    exact this)
  obtain ⟨o', k, st, sq, v', hgv⟩ := getV_is (bytesL L) 14
  have G := Lib.hid (fun (W : World) (a : Option Addr) (cc : Nat) (h : Rd .u8 W a 14 (bytesL L)) (h2 : NilOk a 14 cc) => by
    have := frGet W a 14 cc (bytesL L) h h2 hby.out (by omega)
    rw [hgv] at this
    exact this)
  have hB : isL o L = (decide (getE (bytesL L) 14 = 0) && decide (o' = o)) := by
    unfold isL
    by_cases hE : getE (bytesL L) 14 = 0
    · have : getV (bytesL L) 14 = frV (bytesL L 0 % 16) (bytesL L 0 / 16) (bytesL L 1) (sqOf (bytesL L)) (vlOf (bytesL L)) := by simp [getV, hE]
      rw [this] at hgv
      simp [frV] at hgv
      rw [hgv.1]
    · simp [hE]
  rw [hB, hgv]
  have hU := frame_ways (bytesL L) o' o
  generalize (decide (getE (bytesL L) 14 = 0) && decide (o' = o)) = q at *
  generalize getE (bytesL L) 14 = E at *
  have hlt := h.lt
  have h0 := Lib.hid h
  have hcl : Hid (∀ W, Below w.heap.size w W → W.cell? ⟨b, 0, none⟩ = some (.int .i64 o) ∧ W.cell? ⟨b, 2, none⟩ = some (.slice a 112 c)) := fun W hb => by
    have := (Ct.cells (w := W) (Blk.below h0.out hb h0.out.lt)).1
    exact ⟨this.1, this.2.2.1⟩
  clear hnil hmine hob hcb hgv hB hown h
  obtain ⟨d0, d2⟩ := hcl.out _ (below_alloc w (.cells #[.int .i64 0, .int .u8 0, .int .u8 0, .int .u32 0, .int .u32 0] 34))
  rcases hU with ⟨rfl, rfl⟩ | ⟨rfl, rfl⟩ | ⟨rfl, rfl⟩
  all_goals
    go_enter Try.func82, Try.ntmps82
    go_wp2_with fail
    have hR0 := (Blk.new w #[.int .i64 0, .int .u8 0, .int .u8 0, .int .u32 0, .int .u32 0] 34)
    refine (C.out _ (hrd.out.below (below_alloc _ _) (Nat.le_refl _))).mono ?_
    rintro e w1 ⟨a1, rfl, m1, hb1⟩
    have hR1 := hR0.below hb1 hR0.lt
    have hb01 := bthen (below_alloc _ _) hb1
    have x1 := Lib.hid m1.rd
    have n1 : a1 = none → 14 = 0 ∧ 14 = 0 := m1.none
    clear hR0 hb1 m1 d0 d2 C
    go_wp2_with fail
    refine (G.out _ a1 14 x1.out ⟨Nat.le_refl _, by omega, fun e => by have := n1 e; omega⟩).mono ?_
    rintro e w2 ⟨rfl, hb2⟩
    have hR2 := Lib.hid (hR1.below hb2 hR1.lt)
    have hb02 := bthen hb01 hb2
    have hs2 := hb02.size
    have hRl := hR2.out.lt
    go_wp2_with fail
    have hF5 := Blk.new w2 #[.int .i64 o', .int .u8 k, .int .u8 st, .int .u32 sq, .int .u32 v'] 34
    have hR5 := hR2.out.alloc (.cells #[.int .i64 o', .int .u8 k, .int .u8 st, .int .u32 sq, .int .u32 v'] 34)
    have hC5 := (Blk.below h0.out hb02 h0.out.lt).alloc (.cells #[.int .i64 o', .int .u8 k, .int .u8 st, .int .u32 sq, .int .u32 v'] 34)
    have hb05 := bthen hb02 (below_alloc w2 (.cells #[.int .i64 o', .int .u8 k, .int .u8 st, .int .u32 sq, .int .u32 v'] 34))
    have hb1 : b ≠ w.heap.size := by omega
    have hb2 : w2.heap.size ≠ w.heap.size := by omega
    generalize w2.alloc (.cells #[.int .i64 o', .int .u8 k, .int .u8 st, .int .u32 sq, .int .u32 v'] 34) = w5 at *
    clear hR1 hb01 n1 x1 G hcl hb02
    obtain ⟨⟨c0, c1, c2, c3, c4⟩, f0, f1, f2, f3, f4⟩ := fr_cells hR5
    replace hF5 := Lib.hid hF5
    replace hR5 := Lib.hid hR5
    replace hC5 := Lib.hid hC5
    have hcl : Hid (∀ W, Blk W w2.heap.size #[.int .i64 o', .int .u8 k, .int .u8 st, .int .u32 sq, .int .u32 v'] 34 → Blk W b #[.int .i64 o, nx, .slice a 112 c, .int .i64 had, .int .i64 un, .bool cut, .bool wh, .bool hi] 102 →
        (W.cell? ⟨w2.heap.size, 0, none⟩ = some (.int .i64 o') ∧ W.cell? ⟨w2.heap.size, 1, none⟩ = some (.int .u8 k) ∧ W.cell? ⟨w2.heap.size, 2, none⟩ = some (.int .u8 st) ∧ W.cell? ⟨w2.heap.size, 3, none⟩ = some (.int .u32 sq) ∧ W.cell? ⟨w2.heap.size, 4, none⟩ = some (.int .u32 v')) ∧ W.cell? ⟨b, 0, none⟩ = some (.int .i64 o)) := fun W h1 h2 => ⟨(fr_cells h1).1, (Ct.cells h2).1.1⟩
    obtain ⟨⟨k0, k1, k2, k3, k4⟩, k5⟩ := hcl.out _ hF5.out.drew hC5.out.drew
  · skip
    refine wp_region_held_drew (S := fun W => (W.cell? ⟨w2.heap.size, 0, none⟩ = some (.int .i64 o') ∧ W.cell? ⟨w2.heap.size, 1, none⟩ = some (.int .u8 k) ∧ W.cell? ⟨w2.heap.size, 2, none⟩ = some (.int .u8 st) ∧ W.cell? ⟨w2.heap.size, 3, none⟩ = some (.int .u32 sq) ∧ W.cell? ⟨w2.heap.size, 4, none⟩ = some (.int .u32 v')) ∧ W.cell? ⟨b, 0, none⟩ = some (.int .i64 o)) (by kernel_rfl) ⟨⟨k0, k1, k2, k3, k4⟩, k5⟩ (fun hHeld => ?_)
    refine wpAnyH_take (i := 0) (oi := { dst := some 21, op := .load _ (.tmp 6), type := _, pos := _, after := _, guard := _ }) (v := ?_) rfl (by kernel_rfl) (by kernel_rfl) (by kernel_rfl) (fun _ _ _ h => h) (Or.inl ⟨by rfl, ?_⟩) (by assumption) ?_
    rotate_left
    · (intro w hSw; (try dsimp only at hSw); go_simp) <;> with_reducible rfl
    simp only [Act.put, List.setIfInBounds_toArray, List.set_cons_zero, List.set_cons_succ]
    refine wpAnyH_take (i := 1) (oi := { dst := some 22, op := .move (.tmp 7), type := _, pos := _, after := _, guard := _ }) (v := ?_) rfl (by kernel_rfl) (by kernel_rfl) (by kernel_rfl) (fun _ _ _ h => h) (Or.inl ⟨by rfl, ?_⟩) (by assumption) ?_
    rotate_left
    · (intro w hSw; (try dsimp only at hSw); go_simp) <;> with_reducible rfl
    simp only [Act.put, List.setIfInBounds_toArray, List.set_cons_zero, List.set_cons_succ]
    refine wpAnyH_take (i := 2) (oi := { dst := some 23, op := .binOp .eql _ (.tmp 22) (.const (.int .i64 0)) _, type := _, pos := _, after := _, guard := _ }) (v := ?_) rfl (by kernel_rfl) (by kernel_rfl) (by kernel_rfl) (fun _ _ _ h => h) (Or.inl ⟨by rfl, ?_⟩) (by assumption) ?_
    rotate_left
    · (intro w hSw; (try dsimp only at hSw); go_simp) <;> with_reducible rfl
    simp only [Act.put, List.setIfInBounds_toArray, List.set_cons_zero, List.set_cons_succ]
    refine wpAnyH_take (i := 3) (oi := { dst := some 24, op := .move (.tmp 23), type := _, pos := _, after := _, guard := _ }) (v := ?_) rfl (by kernel_rfl) (by kernel_rfl) (by kernel_rfl) (fun _ _ _ h => h) (Or.inl ⟨by rfl, ?_⟩) (by assumption) ?_
    rotate_left
    · (intro w hSw; (try dsimp only at hSw); go_simp) <;> with_reducible rfl
    simp only [Act.put, List.setIfInBounds_toArray, List.set_cons_zero, List.set_cons_succ]
    refine wpAnyH_take (i := 4) (v := undef) rfl (by kernel_rfl) (by kernel_rfl) (by kernel_rfl) (fun _ _ _ h => h) (Or.inr ⟨by rfl, rfl⟩) (by assumption) ?_
    simp only [Act.put, List.setIfInBounds_toArray, List.set_cons_zero, List.set_cons_succ]
    refine wpAnyH_take (i := 5) (v := undef) rfl (by kernel_rfl) (by kernel_rfl) (by kernel_rfl) (fun _ _ _ h => h) (Or.inr ⟨by rfl, rfl⟩) (by assumption) ?_
    simp only [Act.put, List.setIfInBounds_toArray, List.set_cons_zero, List.set_cons_succ]
    refine wpAnyH_take (i := 6) (v := undef) rfl (by kernel_rfl) (by kernel_rfl) (by kernel_rfl) (fun _ _ _ h => h) (Or.inr ⟨by rfl, rfl⟩) (by assumption) ?_
    simp only [Act.put, List.setIfInBounds_toArray, List.set_cons_zero, List.set_cons_succ]
    refine wpAnyH_take (i := 7) (v := undef) rfl (by kernel_rfl) (by kernel_rfl) (by kernel_rfl) (fun _ _ _ h => h) (Or.inr ⟨by rfl, rfl⟩) (by assumption) ?_
    simp only [Act.put, List.setIfInBounds_toArray, List.set_cons_zero, List.set_cons_succ]
    refine wpAnyH_take (i := 8) (v := undef) rfl (by kernel_rfl) (by kernel_rfl) (by kernel_rfl) (fun _ _ _ h => h) (Or.inr ⟨by rfl, rfl⟩) (by assumption) ?_
    simp only [Act.put, List.setIfInBounds_toArray, List.set_cons_zero, List.set_cons_succ]
    refine wpAnyH_take (i := 9) (v := undef) rfl (by kernel_rfl) (by kernel_rfl) (by kernel_rfl) (fun _ _ _ h => h) (Or.inr ⟨by rfl, rfl⟩) (by assumption) ?_
    simp only [Act.put, List.setIfInBounds_toArray, List.set_cons_zero, List.set_cons_succ]
    refine wpAnyH_take (i := 10) (v := undef) rfl (by kernel_rfl) (by kernel_rfl) (by kernel_rfl) (fun _ _ _ h => h) (Or.inr ⟨by rfl, rfl⟩) (by assumption) ?_
    simp only [Act.put, List.setIfInBounds_toArray, List.set_cons_zero, List.set_cons_succ]
    refine wpAnyH_take (i := 11) (oi := { dst := some 32, op := .pick (.tmp 24) (.tmp 31) (.const (.bool false)), type := _, pos := _, after := _, guard := _ }) (v := ?_) rfl (by kernel_rfl) (by kernel_rfl) (by kernel_rfl) (fun _ _ _ h => h) (Or.inl ⟨by rfl, ?_⟩) (by assumption) ?_
    rotate_left
    · (intro w hSw; (try dsimp only at hSw); go_simp) <;> with_reducible rfl
    simp only [Act.put, List.setIfInBounds_toArray, List.set_cons_zero, List.set_cons_succ]
    refine wpAnyH_ready (rs := [12]) (by kernel_rfl) (by simp) ?_
    refine AllReadyH.cons (o := { dst := none, op := .store _ (.tmp 2) (.tmp 21), type := _, pos := _, after := _, guard := _ }) rfl (fun K hK => ?_) AllReadyH.nil
    go_simp
    refine hK.out _ _ ?_ (fun _ => ?_)
    · exact hcl.out _ (fr_setNe hF5.out hb2 _ _ _ _ _).drew (fr_setNe hC5.out hb1 _ _ _ _ _).drew
    clear hK K
    try simp only [Act.put, List.setIfInBounds_toArray, List.set_cons_zero, List.set_cons_succ]
    refine wpAnyH_take (i := 13) (oi := { dst := some 3, op := .assign (.tmp 32), type := _, pos := _, after := _, guard := _ }) (v := ?_) rfl (by kernel_rfl) (by kernel_rfl) (by kernel_rfl) (fun _ _ _ h => h) (Or.inl ⟨by rfl, ?_⟩) (by assumption) ?_
    rotate_left
    · (intro w hSw; (try dsimp only at hSw); go_simp) <;> with_reducible rfl
    simp only [Act.put, List.setIfInBounds_toArray, List.set_cons_zero, List.set_cons_succ]
    refine wpAnyH_done (by kernel_rfl) ?_ _
    have hR6 := (fr_set hR5.out (.int .i64 o') (.int .u8 k) (.int .u8 st) (.int .u32 sq) (.int .u32 v')).drew
    have hb06 := (fr_below hb05 (Nat.le_refl _) (.int .i64 o') (.int .u8 k) (.int .u8 st) (.int .u32 sq) (.int .u32 v')).drew
    go_wp2_with fail
    obtain ⟨⟨r0, r1, r2, r3, r4⟩, _⟩ := fr_cells hR6
    refine bodyPost_ret (v := .tuple #[.agg #[.int .i64 o', .int .u8 k, .int .u8 st, .int .u32 sq, .int .u32 v'], .bool false]) (by simp [results, Try.results82, go_sem, r0, r1, r2, r3, r4]) rfl ⟨rfl, hb06⟩
  · skip
    refine wp_region_held_drew (S := fun W => (W.cell? ⟨w2.heap.size, 0, none⟩ = some (.int .i64 o') ∧ W.cell? ⟨w2.heap.size, 1, none⟩ = some (.int .u8 k) ∧ W.cell? ⟨w2.heap.size, 2, none⟩ = some (.int .u8 st) ∧ W.cell? ⟨w2.heap.size, 3, none⟩ = some (.int .u32 sq) ∧ W.cell? ⟨w2.heap.size, 4, none⟩ = some (.int .u32 v')) ∧ W.cell? ⟨b, 0, none⟩ = some (.int .i64 o)) (by kernel_rfl) ⟨⟨k0, k1, k2, k3, k4⟩, k5⟩ (fun hHeld => ?_)
    refine wpAnyH_take (i := 0) (oi := { dst := some 21, op := .load _ (.tmp 6), type := _, pos := _, after := _, guard := _ }) (v := ?_) rfl (by kernel_rfl) (by kernel_rfl) (by kernel_rfl) (fun _ _ _ h => h) (Or.inl ⟨by rfl, ?_⟩) (by assumption) ?_
    rotate_left
    · (intro w hSw; (try dsimp only at hSw); go_simp) <;> with_reducible rfl
    simp only [Act.put, List.setIfInBounds_toArray, List.set_cons_zero, List.set_cons_succ]
    refine wpAnyH_take (i := 1) (oi := { dst := some 22, op := .move (.tmp 7), type := _, pos := _, after := _, guard := _ }) (v := ?_) rfl (by kernel_rfl) (by kernel_rfl) (by kernel_rfl) (fun _ _ _ h => h) (Or.inl ⟨by rfl, ?_⟩) (by assumption) ?_
    rotate_left
    · (intro w hSw; (try dsimp only at hSw); go_simp) <;> with_reducible rfl
    simp only [Act.put, List.setIfInBounds_toArray, List.set_cons_zero, List.set_cons_succ]
    refine wpAnyH_take (i := 2) (oi := { dst := some 23, op := .binOp .eql _ (.tmp 22) (.const (.int .i64 0)) _, type := _, pos := _, after := _, guard := _ }) (v := ?_) rfl (by kernel_rfl) (by kernel_rfl) (by kernel_rfl) (fun _ _ _ h => h) (Or.inl ⟨by rfl, ?_⟩) (by assumption) ?_
    rotate_left
    · (intro w hSw; (try dsimp only at hSw); go_simp) <;> with_reducible rfl
    simp only [Act.put, List.setIfInBounds_toArray, List.set_cons_zero, List.set_cons_succ]
    refine wpAnyH_take (i := 3) (oi := { dst := some 24, op := .move (.tmp 23), type := _, pos := _, after := _, guard := _ }) (v := ?_) rfl (by kernel_rfl) (by kernel_rfl) (by kernel_rfl) (fun _ _ _ h => h) (Or.inl ⟨by rfl, ?_⟩) (by assumption) ?_
    rotate_left
    · (intro w hSw; (try dsimp only at hSw); go_simp) <;> with_reducible rfl
    simp only [Act.put, List.setIfInBounds_toArray, List.set_cons_zero, List.set_cons_succ]
    refine wpAnyH_take (i := 4) (v := undef) rfl (by kernel_rfl) (by kernel_rfl) (by kernel_rfl) (fun _ _ _ h => h) (Or.inr ⟨by rfl, rfl⟩) (by assumption) ?_
    simp only [Act.put, List.setIfInBounds_toArray, List.set_cons_zero, List.set_cons_succ]
    refine wpAnyH_take (i := 5) (v := undef) rfl (by kernel_rfl) (by kernel_rfl) (by kernel_rfl) (fun _ _ _ h => h) (Or.inr ⟨by rfl, rfl⟩) (by assumption) ?_
    simp only [Act.put, List.setIfInBounds_toArray, List.set_cons_zero, List.set_cons_succ]
    refine wpAnyH_take (i := 6) (v := undef) rfl (by kernel_rfl) (by kernel_rfl) (by kernel_rfl) (fun _ _ _ h => h) (Or.inr ⟨by rfl, rfl⟩) (by assumption) ?_
    simp only [Act.put, List.setIfInBounds_toArray, List.set_cons_zero, List.set_cons_succ]
    refine wpAnyH_take (i := 7) (v := undef) rfl (by kernel_rfl) (by kernel_rfl) (by kernel_rfl) (fun _ _ _ h => h) (Or.inr ⟨by rfl, rfl⟩) (by assumption) ?_
    simp only [Act.put, List.setIfInBounds_toArray, List.set_cons_zero, List.set_cons_succ]
    refine wpAnyH_take (i := 8) (v := undef) rfl (by kernel_rfl) (by kernel_rfl) (by kernel_rfl) (fun _ _ _ h => h) (Or.inr ⟨by rfl, rfl⟩) (by assumption) ?_
    simp only [Act.put, List.setIfInBounds_toArray, List.set_cons_zero, List.set_cons_succ]
    refine wpAnyH_take (i := 9) (v := undef) rfl (by kernel_rfl) (by kernel_rfl) (by kernel_rfl) (fun _ _ _ h => h) (Or.inr ⟨by rfl, rfl⟩) (by assumption) ?_
    simp only [Act.put, List.setIfInBounds_toArray, List.set_cons_zero, List.set_cons_succ]
    refine wpAnyH_take (i := 10) (v := undef) rfl (by kernel_rfl) (by kernel_rfl) (by kernel_rfl) (fun _ _ _ h => h) (Or.inr ⟨by rfl, rfl⟩) (by assumption) ?_
    simp only [Act.put, List.setIfInBounds_toArray, List.set_cons_zero, List.set_cons_succ]
    refine wpAnyH_take (i := 11) (oi := { dst := some 32, op := .pick (.tmp 24) (.tmp 31) (.const (.bool false)), type := _, pos := _, after := _, guard := _ }) (v := ?_) rfl (by kernel_rfl) (by kernel_rfl) (by kernel_rfl) (fun _ _ _ h => h) (Or.inl ⟨by rfl, ?_⟩) (by assumption) ?_
    rotate_left
    · (intro w hSw; (try dsimp only at hSw); go_simp) <;> with_reducible rfl
    simp only [Act.put, List.setIfInBounds_toArray, List.set_cons_zero, List.set_cons_succ]
    refine wpAnyH_ready (rs := [12]) (by kernel_rfl) (by simp) ?_
    refine AllReadyH.cons (o := { dst := none, op := .store _ (.tmp 2) (.tmp 21), type := _, pos := _, after := _, guard := _ }) rfl (fun K hK => ?_) AllReadyH.nil
    go_simp
    refine hK.out _ _ ?_ (fun _ => ?_)
    · exact hcl.out _ (fr_setNe hF5.out hb2 _ _ _ _ _).drew (fr_setNe hC5.out hb1 _ _ _ _ _).drew
    clear hK K
    try simp only [Act.put, List.setIfInBounds_toArray, List.set_cons_zero, List.set_cons_succ]
    refine wpAnyH_take (i := 13) (oi := { dst := some 3, op := .assign (.tmp 32), type := _, pos := _, after := _, guard := _ }) (v := ?_) rfl (by kernel_rfl) (by kernel_rfl) (by kernel_rfl) (fun _ _ _ h => h) (Or.inl ⟨by rfl, ?_⟩) (by assumption) ?_
    rotate_left
    · (intro w hSw; (try dsimp only at hSw); go_simp) <;> with_reducible rfl
    simp only [Act.put, List.setIfInBounds_toArray, List.set_cons_zero, List.set_cons_succ]
    refine wpAnyH_done (by kernel_rfl) ?_ _
    have hR6 := (fr_set hR5.out (.int .i64 o') (.int .u8 k) (.int .u8 st) (.int .u32 sq) (.int .u32 v')).drew
    have hb06 := (fr_below hb05 (Nat.le_refl _) (.int .i64 o') (.int .u8 k) (.int .u8 st) (.int .u32 sq) (.int .u32 v')).drew
    go_wp2_with fail
    obtain ⟨⟨r0, r1, r2, r3, r4⟩, _⟩ := fr_cells hR6
    refine bodyPost_ret (v := .tuple #[.agg #[.int .i64 o', .int .u8 k, .int .u8 st, .int .u32 sq, .int .u32 v'], .bool false]) (by simp [results, Try.results82, go_sem, r0, r1, r2, r3, r4]) rfl ⟨rfl, hb06⟩
  · skip
    go_region_held3 (fun W => (W.cell? ⟨w2.heap.size, 0, none⟩ = some (.int .i64 o') ∧ W.cell? ⟨w2.heap.size, 1, none⟩ = some (.int .u8 k) ∧ W.cell? ⟨w2.heap.size, 2, none⟩ = some (.int .u8 st) ∧ W.cell? ⟨w2.heap.size, 3, none⟩ = some (.int .u32 sq) ∧ W.cell? ⟨w2.heap.size, 4, none⟩ = some (.int .u32 v')) ∧ W.cell? ⟨b, 0, none⟩ = some (.int .i64 o))
      (first
        | with_reducible exact hcl.out _ hF5.out.drew hC5.out.drew
        | with_reducible exact hcl.out _ (fr_setNe hF5.out hb2 _ _ _ _ _).drew (fr_setNe hC5.out hb1 _ _ _ _ _).drew
        | (trace_state; fail)) (fail)
    have hR6 := (fr_set hR5.out (.int .i64 o') (.int .u8 k) (.int .u8 st) (.int .u32 sq) (.int .u32 v')).drew
    have hb06 := (fr_below hb05 (Nat.le_refl _) (.int .i64 o') (.int .u8 k) (.int .u8 st) (.int .u32 sq) (.int .u32 v')).drew
    go_wp2_with fail
    obtain ⟨⟨r0, r1, r2, r3, r4⟩, _⟩ := fr_cells hR6
    refine bodyPost_ret (v := .tuple #[.agg #[.int .i64 o', .int .u8 k, .int .u8 st, .int .u32 sq, .int .u32 v'], .bool (o' == o)]) (by simp [results, Try.results82, go_sem, r0, r1, r2, r3, r4]) rfl ⟨rfl, hb06⟩
theorem tail_ways (t : Bool) (un x y : Int) : (t = false ∧ (t && (decide (un = -1) && (decide (x = 2) && decide (y = 2)))) = false) ∨ (t = true ∧ (un == -1) = false ∧ (t && (decide (un = -1) && (decide (x = 2) && decide (y = 2)))) = false) ∨
    (t = true ∧ (un == -1) = true ∧ (x == 2) = false ∧ (t && (decide (un = -1) && (decide (x = 2) && decide (y = 2)))) = false) ∨ (t = true ∧ (un == -1) = true ∧ (x == 2) = true ∧ (y == 2) = false ∧ (t && (decide (un = -1) && (decide (x = 2) && decide (y = 2)))) = false) ∨
    (t = true ∧ (un == -1) = true ∧ (x == 2) = true ∧ (y == 2) = true ∧ (t && (decide (un = -1) && (decide (x = 2) && decide (y = 2)))) = true) := by
  cases t
  · left; simp
  · by_cases h1 : un = -1
    · by_cases h2 : x = 2
      · by_cases h3 : y = 2
        · right; right; right; right; simp [h1, h2, h3]
        · right; right; right; left; simp [h1, h2, h3]
      · right; right; left; simp [h1, h2]
    · right; left; simp [h1]
theorem ct_b {w w' : World} {B b : Nat} {o : Int} {nx v : Value} {had un : Int} {cut wh hi : Bool} (h : Ct w b o nx v had un cut wh hi) (hb : Below w.heap.size w w') : Ct w' b o nx v had un cut wh hi := Blk.below h hb h.lt
set_option maxHeartbeats 4000000 in
theorem catchTail (w : World) (b : Nat) (o : Int) (nx v : Value) (had un : Int) (cut wh hi : Bool) (L : Nat → Int) (x y : Int) (h : Ct w b o nx v had un cut wh hi) (hown : w.ownsRow 0 77 1 v 112 (nums .u8 L 112)) (hw : wholeL L 112 = true) :
    Calls Try.prog 97 #[.pointer (some ⟨b, 0, none⟩), .int .u8 x, .int .u8 y] w fun e w' =>
      e = .returned (.int .u8 (if isL o L && (decide (un = -1) && (decide (x = 2) && decide (y = 2))) then 2 else 1)) ∧ Ct w' b o (lastF b) v had un cut (isL o L && (decide (un = -1) && (decide (x = 2) && decide (y = 2)))) hi ∧ Touch [b] w w' := by
  have F := Lib.hid (catchFrame w b o nx v had un cut wh hi L h hown hw)
  obtain ⟨o', k, st, sq, v', hgv⟩ := getV_is (bytesL L) 14
  rw [hgv] at F
  have O := Lib.hid (fun W q => catchOf W q)
  have hU := tail_ways (isL o L) un x y
  generalize (isL o L && (decide (un = -1) && (decide (x = 2) && decide (y = 2)))) = q at *
  generalize isL o L = t at *
  replace hU := Lib.hid hU
  replace h := Lib.hid h
  clear hgv hown hw
  go_enter Try.func97, Try.ntmps97
  go_wp2_with fail
  refine F.out.mono ?_
  rintro e w1 ⟨rfl, hb1⟩
  have hb2 := bthen hb1 (below_alloc w1 (.cells #[.int .i64 o', .int .u8 k, .int .u8 st, .int .u32 sq, .int .u32 v'] 34))
  have h2 := Lib.hid (show Ct (w1.alloc (.cells #[.int .i64 o', .int .u8 k, .int .u8 st, .int .u32 sq, .int .u32 v'] 34)) b o nx v had un cut wh hi from Blk.below h.out hb2 h.out.lt)
  have hT := Lib.hid (Touch.of_below hb2 (Nat.le_refl _) [b])
  clear F hb1 hb2
  obtain ⟨⟨c0, c1, c2, c3, c4, c5, c6, c7⟩, ⟨f1, f2, f3, f4, f5, f6, f7⟩, hlt⟩ := Ct.cells h2.out
  rcases hU.out with ⟨rfl, rfl⟩ | ⟨rfl, u1, rfl⟩ | ⟨rfl, u1, u2, rfl⟩ | ⟨rfl, u1, u2, u3, rfl⟩ | ⟨rfl, u1, u2, u3, rfl⟩
  all_goals
    clear hU
    simp only [Bool.false_eq_true, if_false, if_true]
    go_wp2_with fail
    refine (O.out _ _).mono ?_
    rintro e w3 ⟨rfl, rfl⟩
    go_wp2
    go_ret
    exact ⟨rfl, (h2.out.set6 _).set1 _, touch_set (touch_set hT.out (by simp) _) (by simp) _⟩
theorem catchHighNo (w : World) (b : Nat) (o : Int) (nx v : Value) (had un : Int) (cut wh : Bool) (h : Ct w b o nx v had un cut wh false) :
    Calls Try.prog 48 #[.pointer (some ⟨b, 0, none⟩)] w fun e w' => e = .returned (.tuple #[frV 0 0 0 0 0, .bool false]) ∧ Below w.heap.size w w' := by
  obtain ⟨⟨c0, c1, c2, c3, c4, c5, c6, c7⟩, _, hlt⟩ := h.cells
  clear h
  unfold frV
  go_enter Try.func48, Try.ntmps48
  go_wp2
  refine bodyPost_ret (v := .tuple #[.agg #[.int .i64 0, .int .u8 0, .int .u8 0, .int .u32 0, .int .u32 0], .bool false]) (by simp [results, Try.results48, go_sem]) rfl ⟨rfl, below_alloc _ _⟩
set_option maxHeartbeats 1000000 in
theorem catchHighYes (w : World) (b : Nat) (o : Int) (nx v : Value) (had un : Int) (cut wh : Bool) (L : Nat → Int) (h : Ct w b o nx v had un cut wh true) (hown : w.ownsRow 0 77 1 v 112 (nums .u8 L 112)) (hw : wholeL L 112 = true) :
    Calls Try.prog 48 #[.pointer (some ⟨b, 0, none⟩)] w fun e w' => e = .returned (.tuple #[getV (bytesL L) 14, .bool (isL o L)]) ∧ Below w.heap.size w w' := by
  have hne : v.ownBlock ≠ some b := own_ne hown h (by decide)
  have F := Lib.hid (fun W (h1 : Ct W b o nx v had un cut wh true) (h2 : W.ownsRow 0 77 1 v 112 (nums .u8 L 112)) => catchFrame W b o nx v had un cut wh true L h1 h2 hw)
  obtain ⟨o', k, st, sq, v', hgv⟩ := getV_is (bytesL L) 14
  rw [hgv] at F ⊢
  generalize isL o L = t at *
  have hb0 := below_alloc w (.cells #[.int .i64 0, .int .u8 0, .int .u8 0, .int .u32 0, .int .u32 0] 34)
  have h2 := Lib.hid (show Ct (w.alloc (.cells #[.int .i64 0, .int .u8 0, .int .u8 0, .int .u32 0, .int .u32 0] 34)) b o nx v had un cut wh true from Blk.below h hb0 h.lt)
  have ho2 := Lib.hid (hown.alloc (.cells #[.int .i64 0, .int .u8 0, .int .u8 0, .int .u32 0, .int .u32 0] 34))
  obtain ⟨⟨c0, c1, c2, c3, c4, c5, c6, c7⟩, _, hlt⟩ := Ct.cells h2.out
  have hl := h.lt
  clear hgv hown hw h
  go_enter Try.func48, Try.ntmps48
  go_wp2_with fail
  have hR0 := (Blk.new w #[.int .i64 0, .int .u8 0, .int .u8 0, .int .u32 0, .int .u32 0] 34)
  refine (F.out _ h2.out ho2.out).mono ?_
  rintro e w1 ⟨rfl, hb1⟩
  have hR1 := Lib.hid (hR0.below hb1 hR0.lt)
  have hb01 := bthen hb0 hb1
  clear hR0 hb1 hb0 F h2 ho2
  obtain ⟨⟨d0, d1, d2, d3, d4⟩, g0, g1, g2, g3, g4⟩ := fr_cells hR1.out
  go_wp2
  obtain ⟨⟨s0, s1, s2, s3, s4⟩, _⟩ := fr_cells (fr_set hR1.out (.int .i64 o') (.int .u8 k) (.int .u8 st) (.int .u32 sq) (.int .u32 v'))
  refine bodyPost_ret (v := .tuple #[.agg #[.int .i64 o', .int .u8 k, .int .u8 st, .int .u32 sq, .int .u32 v'], .bool t]) (by simp [results, Try.results48, go_sem, s0, s1, s2, s3, s4]) rfl ⟨rfl, fr_below hb01 (Nat.le_refl _) _ _ _ _ _⟩
end Go.Proofs.Ytbfbpagfmhdblaa
