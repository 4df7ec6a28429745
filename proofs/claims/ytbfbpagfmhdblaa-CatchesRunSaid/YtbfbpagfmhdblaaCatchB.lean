/- Catches: first, last, frame, tail. -/
import Derived.Test.YtbfbpagfmhdblaaCatchA
namespace Go.Proofs.Ytbfbpagfmhdblaa
open Go.RowKit
set_option linter.unusedSimpArgs false
set_option linter.unusedVariables false
set_option maxRecDepth 100000
theorem Ct.set1 {w : World} {b : Nat} {o : Int} {nx v : Value} {had un : Int} {cut wh hi : Bool} (h : Ct w b o nx v had un cut wh hi) (u : Value) : Ct (w.setCell ⟨b, 1, none⟩ u) b o u v had un cut wh hi := (Blk.set h 1 u).congr (by simp)
theorem Ct.set2 {w : World} {b : Nat} {o : Int} {nx v : Value} {had un : Int} {cut wh hi : Bool} (h : Ct w b o nx v had un cut wh hi) (u : Value) : Ct (w.setCell ⟨b, 2, none⟩ u) b o nx u had un cut wh hi := (Blk.set h 2 u).congr (by simp)
theorem Ct.set3 {w : World} {b : Nat} {o : Int} {nx v : Value} {had un : Int} {cut wh hi : Bool} (h : Ct w b o nx v had un cut wh hi) (u : Int) : Ct (w.setCell ⟨b, 3, none⟩ (.int .i64 u)) b o nx v u un cut wh hi := (Blk.set h 3 _).congr (by simp)
theorem Ct.set4 {w : World} {b : Nat} {o : Int} {nx v : Value} {had un : Int} {cut wh hi : Bool} (h : Ct w b o nx v had un cut wh hi) (u : Int) : Ct (w.setCell ⟨b, 4, none⟩ (.int .i64 u)) b o nx v had u cut wh hi := (Blk.set h 4 _).congr (by simp)
theorem Ct.set5 {w : World} {b : Nat} {o : Int} {nx v : Value} {had un : Int} {cut wh hi : Bool} (h : Ct w b o nx v had un cut wh hi) (u : Bool) : Ct (w.setCell ⟨b, 5, none⟩ (.bool u)) b o nx v had un u wh hi := (Blk.set h 5 _).congr (by simp)
theorem Ct.set6 {w : World} {b : Nat} {o : Int} {nx v : Value} {had un : Int} {cut wh hi : Bool} (h : Ct w b o nx v had un cut wh hi) (u : Bool) : Ct (w.setCell ⟨b, 6, none⟩ (.bool u)) b o nx v had un cut u hi := (Blk.set h 6 _).congr (by simp)
theorem Ct.set7 {w : World} {b : Nat} {o : Int} {nx v : Value} {had un : Int} {cut wh hi : Bool} (h : Ct w b o nx v had un cut wh hi) (u : Bool) : Ct (w.setCell ⟨b, 7, none⟩ (.bool u)) b o nx v had un cut wh u := (Blk.set h 7 _).congr (by simp)
theorem touch_set {S : List Nat} {a w : World} (h : Touch S a w) {b i : Nat} (hb : b ∈ S) (u : Value) : Touch S a (w.setCell ⟨b, i, none⟩ u) := h.setCell (.inl hb) u
theorem last_ways (t : Bool) (x y : Int) : (t = false ∧ (t && (decide (x = 1) && decide (y = 1))) = false) ∨
    (t = true ∧ (x == 1) = false ∧ (t && (decide (x = 1) && decide (y = 1))) = false) ∨ (t = true ∧ (x == 1) = true ∧ (y == 1) = false ∧ (t && (decide (x = 1) && decide (y = 1))) = false) ∨
    (t = true ∧ (x == 1) = true ∧ (y == 1) = true ∧ (t && (decide (x = 1) && decide (y = 1))) = true) := by
  cases t
  · left; simp
  · by_cases h2 : x = 1
    · by_cases h3 : y = 1
      · right; right; right; simp [h2, h3]
      · right; right; left; simp [h2, h3]
    · right; left; simp [h2]
set_option maxHeartbeats 1000000 in
theorem catchLast (w : World) (b : Nat) (o : Int) (nx v : Value) (had un : Int) (cut wh hi : Bool) (x y : Int) (h : Ct w b o nx v had un cut wh hi) :
    Calls Try.prog 102 #[.pointer (some ⟨b, 0, none⟩), .int .u8 x, .int .u8 y] w fun e w' =>
      e = .returned (.int .u8 (if wh && (decide (x = 1) && decide (y = 1)) then 1 else 2)) ∧ Ct w' b o .nilFunc v had un cut wh (wh && (decide (x = 1) && decide (y = 1))) ∧ Touch [b] w w' := by
  have O := Lib.hid (fun W q => catchOf W q)
  have hU := last_ways wh x y
  generalize (wh && (decide (x = 1) && decide (y = 1))) = q at *
  have hlt := h.lt
  replace h := Lib.hid h
  rcases hU with ⟨rfl, rfl⟩ | ⟨rfl, u1, rfl⟩ | ⟨rfl, u1, u2, rfl⟩ | ⟨rfl, u1, u2, rfl⟩
  all_goals
    simp only [Bool.false_eq_true, if_false, if_true]
    obtain ⟨⟨c0, c1, c2, c3, c4, c5, c6, c7⟩, ⟨f1, f2, f3, f4, f5, f6, f7⟩, _⟩ := Ct.cells h.out
    go_enter Try.func102, Try.ntmps102
    go_wp2_with fail
    refine (O.out _ _).mono ?_
    rintro e w1 ⟨rfl, rfl⟩
    go_wp2
    go_ret
    exact ⟨rfl, (h.out.set7 _).set1 _, touch_set (touch_set (Touch.refl _ _) (by simp) _) (by simp) _⟩
set_option maxHeartbeats 2000000 in
/-- One body symbol more. -/
theorem catchFirst (w : World) (b m : Nat) (o : Int) (nx v : Value) (had un : Int) (cut wh hi : Bool) (x y : Int) (B : Nat → Int) (hm : m < 112) (hB : B m = if x ≠ 0 then x else y)
    (h : Ct w b o nx v had un cut wh hi) (hown : w.ownsRow 0 77 1 v m (nums .u8 B m)) :
    Calls Try.prog 76 #[.pointer (some ⟨b, 0, none⟩), .int .u8 x, .int .u8 y] w fun e w' =>
      e = .returned (.int .u8 (B m)) ∧ ∃ v', Ct w' b o (if m + 1 = 112 then tailF b else nx) v' had un (decide (B m = 0)) wh hi ∧ w'.ownsRow 0 77 1 v' (m + 1) (nums .u8 B (m + 1)) ∧ Touch (catchS b v) w w' ∧ (v'.ownBlock = v.ownBlock ∨ ∃ g, v'.ownBlock = some g ∧ w.heap.size ≤ g) := by
  have hne : v.ownBlock ≠ some b := own_ne hown h (by decide)
  obtain ⟨i0, hi0, hz0, hz1, hz2⟩ := info_parts elemS
  obtain ⟨⟨c0, c1, c2, c3, c4, c5, c6, c7⟩, ⟨f1, f2, f3, f4, f5, f6, f7⟩, hlt⟩ := h.cells
  replace h := Lib.hid h
  replace hown := Lib.hid hown
  have hS : Hid (nums .u8 B (m + 1) = nums .u8 B m ++ [.int .u8 (B m)]) := nums_succ _ _ _
  rw [hS.out]
  clear hS
  generalize hxs : nums .u8 B m = xs at *
  generalize B m = z at *
  generalize hnx0 : (if m + 1 = 112 then tailF b else nx) = nx' at *
  replace hnx0 := Lib.hid hnx0
  have mainP : ∀ (hx : (x ≠ 0 ∧ z = x) ∨ (x = 0 ∧ z = y)), Calls Try.prog 76 #[.pointer (some ⟨b, 0, none⟩), .int .u8 x, .int .u8 y] w fun e w' =>
      e = .returned (.int .u8 z) ∧ ∃ v', Ct w' b o nx' v' had un (decide (z = 0)) wh hi ∧ w'.ownsRow 0 77 1 v' (m + 1) (xs ++ [.int .u8 z]) ∧ Touch (catchS b v) w w' ∧ (v'.ownBlock = v.ownBlock ∨ ∃ g, v'.ownBlock = some g ∧ w.heap.size ≤ g) := by
    intro hx
    clear hB
    rcases hx with ⟨hx, rfl⟩ | ⟨rfl, rfl⟩
    · have e1 : (z == 0) = false := by simp [hx]
      have d1 : Hid (decide (z = 0) = false) := by show decide (z = 0) = false; simp [hx]
      rw [d1.out]
      clear hx
      go_enter Try.func76, Try.ntmps76
      go_wp2_with (at_builtin; refine append_at rfl _ _ 40 rfl 77 i0 (.int .u8 0) 1 Try.underlying40 hi0 hz0 hz1 hz2 rfl v m xs rfl (own_setNe hown.out hne _) _ w.heap.size (by simp) rfl rfl (by omega) (by omega) ?_)
      intro g c w1 hown1 hg1 hat
      have h1 := Lib.hid (show Ct w1 b o nx v had un _ wh hi from Blk.grown (h.out.set5 _) hg1 (fun e => hne e.symm))
      have hT := Lib.hid (show Touch (catchS b v) w w1 from Touch.grown (touch_set (Touch.refl _ _) (catchS_mem.2 (.inl rfl)) _) hg1 (fun k e => .inl (catchS_mem.2 (.inr e))))
      have hgb : Hid ((Value.slice (some ⟨g, 0, none⟩) (m + 1) c).ownBlock ≠ some b) := own_ne hown1 h1.out (by decide)
      replace hown1 := Lib.hid hown1
      replace hat := Lib.hid hat
      clear c0 c1 c2 c3 c4 c5 c6 c7 f1 f2 f3 f4 f5 f6 f7 hlt hg1
      obtain ⟨⟨c0, c1, c2, c3, c4, c5, c6, c7⟩, ⟨f1, f2, f3, f4, f5, f6, f7⟩, hlt⟩ := Ct.cells h1.out
      have hat2 : Hid (∀ W : World, (Value.slice (some ⟨g, 0, none⟩) (m + 1) c).ownBlock = v.ownBlock ∨ ∃ g', (Value.slice (some ⟨g, 0, none⟩) (m + 1) c).ownBlock = some g' ∧ w.heap.size ≤ g') := fun _ => hat.out.imp (fun e => e.symm) (fun e => ⟨g, rfl, e⟩)
      by_cases h112 : m + 1 = 112
      · have e112 : (((m + 1 : Nat) : Int) == 112) = true := by simp; omega
        have e112' : (((m : Int) + 1) == 112) = true := by simp; omega
        have e112'' : ((m : Int) + 1) = 112 := by omega
        have hnx : Hid (nx' = tailF b) := hnx0.out.symm.trans (if_pos h112)
        clear h112
        go_wp2
        go_ret
        rw [hnx.out]
        exact ⟨rfl, _, (h1.out.set2 _).set1 _, own_setNe (own_setNe hown1.out hgb.out _) hgb.out _, touch_set (touch_set hT.out (catchS_mem.2 (.inl rfl)) _) (catchS_mem.2 (.inl rfl)) _, hat2.out w⟩
      · have e112 : (((m + 1 : Nat) : Int) == 112) = false := by simp; omega
        have e112' : (((m : Int) + 1) == 112) = false := by simp; omega
        have e112'' : ¬ ((m : Int) + 1) = 112 := by omega
        have hnx : Hid (nx' = nx) := hnx0.out.symm.trans (if_neg h112)
        clear h112
        go_wp2
        go_ret
        rw [hnx.out]
        exact ⟨rfl, _, h1.out.set2 _, own_setNe hown1.out hgb.out _, touch_set hT.out (catchS_mem.2 (.inl rfl)) _, hat2.out w⟩
    · by_cases hx : z = 0
      · have e1 : (z == 0) = true := by simp [hx]
        have d1 : Hid (decide (z = 0) = true) := by show decide (z = 0) = true; simp [hx]
        rw [d1.out]
        clear hx
        go_enter Try.func76, Try.ntmps76
        go_wp2_with (at_builtin; refine append_at rfl _ _ 40 rfl 77 i0 (.int .u8 0) 1 Try.underlying40 hi0 hz0 hz1 hz2 rfl v m xs rfl (own_setNe hown.out hne _) _ w.heap.size (by simp) rfl rfl (by omega) (by omega) ?_)
        intro g c w1 hown1 hg1 hat
        have h1 := Lib.hid (show Ct w1 b o nx v had un _ wh hi from Blk.grown (h.out.set5 _) hg1 (fun e => hne e.symm))
        have hT := Lib.hid (show Touch (catchS b v) w w1 from Touch.grown (touch_set (Touch.refl _ _) (catchS_mem.2 (.inl rfl)) _) hg1 (fun k e => .inl (catchS_mem.2 (.inr e))))
        have hgb : Hid ((Value.slice (some ⟨g, 0, none⟩) (m + 1) c).ownBlock ≠ some b) := own_ne hown1 h1.out (by decide)
        replace hown1 := Lib.hid hown1
        replace hat := Lib.hid hat
        clear c0 c1 c2 c3 c4 c5 c6 c7 f1 f2 f3 f4 f5 f6 f7 hlt hg1
        obtain ⟨⟨c0, c1, c2, c3, c4, c5, c6, c7⟩, ⟨f1, f2, f3, f4, f5, f6, f7⟩, hlt⟩ := Ct.cells h1.out
        have hat2 : Hid (∀ W : World, (Value.slice (some ⟨g, 0, none⟩) (m + 1) c).ownBlock = v.ownBlock ∨ ∃ g', (Value.slice (some ⟨g, 0, none⟩) (m + 1) c).ownBlock = some g' ∧ w.heap.size ≤ g') := fun _ => hat.out.imp (fun e => e.symm) (fun e => ⟨g, rfl, e⟩)
        by_cases h112 : m + 1 = 112
        · have e112 : (((m + 1 : Nat) : Int) == 112) = true := by simp; omega
          have e112' : (((m : Int) + 1) == 112) = true := by simp; omega
          have e112'' : ((m : Int) + 1) = 112 := by omega
          have hnx : Hid (nx' = tailF b) := hnx0.out.symm.trans (if_pos h112)
          clear h112
          go_wp2
          go_ret
          rw [hnx.out]
          exact ⟨rfl, _, (h1.out.set2 _).set1 _, own_setNe (own_setNe hown1.out hgb.out _) hgb.out _, touch_set (touch_set hT.out (catchS_mem.2 (.inl rfl)) _) (catchS_mem.2 (.inl rfl)) _, hat2.out w⟩
        · have e112 : (((m + 1 : Nat) : Int) == 112) = false := by simp; omega
          have e112' : (((m : Int) + 1) == 112) = false := by simp; omega
          have e112'' : ¬ ((m : Int) + 1) = 112 := by omega
          have hnx : Hid (nx' = nx) := hnx0.out.symm.trans (if_neg h112)
          clear h112
          go_wp2
          go_ret
          rw [hnx.out]
          exact ⟨rfl, _, h1.out.set2 _, own_setNe hown1.out hgb.out _, touch_set hT.out (catchS_mem.2 (.inl rfl)) _, hat2.out w⟩
      · have e1 : (z == 0) = false := by simp [hx]
        have d1 : Hid (decide (z = 0) = false) := by show decide (z = 0) = false; simp [hx]
        rw [d1.out]
        clear hx
        go_enter Try.func76, Try.ntmps76
        go_wp2_with (at_builtin; refine append_at rfl _ _ 40 rfl 77 i0 (.int .u8 0) 1 Try.underlying40 hi0 hz0 hz1 hz2 rfl v m xs rfl (own_setNe hown.out hne _) _ w.heap.size (by simp) rfl rfl (by omega) (by omega) ?_)
        intro g c w1 hown1 hg1 hat
        have h1 := Lib.hid (show Ct w1 b o nx v had un _ wh hi from Blk.grown (h.out.set5 _) hg1 (fun e => hne e.symm))
        have hT := Lib.hid (show Touch (catchS b v) w w1 from Touch.grown (touch_set (Touch.refl _ _) (catchS_mem.2 (.inl rfl)) _) hg1 (fun k e => .inl (catchS_mem.2 (.inr e))))
        have hgb : Hid ((Value.slice (some ⟨g, 0, none⟩) (m + 1) c).ownBlock ≠ some b) := own_ne hown1 h1.out (by decide)
        replace hown1 := Lib.hid hown1
        replace hat := Lib.hid hat
        clear c0 c1 c2 c3 c4 c5 c6 c7 f1 f2 f3 f4 f5 f6 f7 hlt hg1
        obtain ⟨⟨c0, c1, c2, c3, c4, c5, c6, c7⟩, ⟨f1, f2, f3, f4, f5, f6, f7⟩, hlt⟩ := Ct.cells h1.out
        have hat2 : Hid (∀ W : World, (Value.slice (some ⟨g, 0, none⟩) (m + 1) c).ownBlock = v.ownBlock ∨ ∃ g', (Value.slice (some ⟨g, 0, none⟩) (m + 1) c).ownBlock = some g' ∧ w.heap.size ≤ g') := fun _ => hat.out.imp (fun e => e.symm) (fun e => ⟨g, rfl, e⟩)
        by_cases h112 : m + 1 = 112
        · have e112 : (((m + 1 : Nat) : Int) == 112) = true := by simp; omega
          have e112' : (((m : Int) + 1) == 112) = true := by simp; omega
          have e112'' : ((m : Int) + 1) = 112 := by omega
          have hnx : Hid (nx' = tailF b) := hnx0.out.symm.trans (if_pos h112)
          clear h112
          go_wp2
          go_ret
          rw [hnx.out]
          exact ⟨rfl, _, (h1.out.set2 _).set1 _, own_setNe (own_setNe hown1.out hgb.out _) hgb.out _, touch_set (touch_set hT.out (catchS_mem.2 (.inl rfl)) _) (catchS_mem.2 (.inl rfl)) _, hat2.out w⟩
        · have e112 : (((m + 1 : Nat) : Int) == 112) = false := by simp; omega
          have e112' : (((m : Int) + 1) == 112) = false := by simp; omega
          have e112'' : ¬ ((m : Int) + 1) = 112 := by omega
          have hnx : Hid (nx' = nx) := hnx0.out.symm.trans (if_neg h112)
          clear h112
          go_wp2
          go_ret
          rw [hnx.out]
          exact ⟨rfl, _, h1.out.set2 _, own_setNe hown1.out hgb.out _, touch_set hT.out (catchS_mem.2 (.inl rfl)) _, hat2.out w⟩
  exact mainP (by split at hB <;> simp_all)
end Go.Proofs.Ytbfbpagfmhdblaa
