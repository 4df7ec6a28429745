/- Rings: the document's answers: Is, other, next, Step, Distance, Place. -/
import Derived.Test.YteogoddnefeleaaDoorRingsB
namespace Go.Proofs.YteogoddnefeleaaDoor
open Go.RowKit
set_option linter.unusedSimpArgs false
set_option linter.unusedVariables false
set_option maxRecDepth 100000
theorem refIs (w : World) (n d : Int) : Calls Tryd.prog 50 #[.int .i64 n, .int .u8 d] w fun e w' => e = .returned (.bool (okR n d)) ∧ w = w' := by
  have e2 : decide (d < 2) = decide (d ≤ 1) := by
    by_cases h : d ≤ 1
    · simp [h]; omega
    · simp [h]; omega
  unfold okR
  by_cases h1 : 4 ≤ n
  · by_cases h2 : n ≤ 16
    · rw [← e2]
      clear e2
      go_enter Tryd.func50, Tryd.ntmps50
      go_wp2
      go_ret
      exact ⟨by simp [h1, h2], rfl⟩
    · go_enter Tryd.func50, Tryd.ntmps50
      go_wp2
      go_ret
      exact ⟨by simp [h1, h2]; omega, rfl⟩
  · go_enter Tryd.func50, Tryd.ntmps50
    go_wp2
    go_ret
    exact ⟨by simp [h1]; omega, rfl⟩
theorem refOther (w : World) (d : Int) : Calls Tryd.prog 51 #[.int .u8 d] w fun e w' => e = .returned (.int .u8 (otherI d)) ∧ w = w' := by
  by_cases h : d = 0
  · subst h
    go_enter Tryd.func51, Tryd.ntmps51
    go_wp2
    go_ret
    exact ⟨rfl, rfl⟩
  · have e1 : (d == 0) = false := by simp [h]
    have e2 : otherI d = 0 := by simp [otherI, h]
    rw [e2]
    go_enter Tryd.func51, Tryd.ntmps51
    go_wp2
    go_ret
    exact ⟨rfl, rfl⟩
theorem refNext (w : World) (n d i : Int) (hn : 4 ≤ n) (hn' : n ≤ 16) (hi : 0 ≤ i ∧ i < n) : Calls Tryd.prog 52 #[.int .i64 n, .int .u8 d, .int .i64 i] w fun e w' => e = .returned (.int .i64 (nextI n d i)) ∧ w = w' := by
  have e1 : IntKind.i64.wrap (n - 1) = n - 1 := wrap_near _ (by omega) (by omega)
  have e2 : IntKind.i64.wrap (i - 1) = i - 1 := wrap_near _ (by omega) (by omega)
  have e3 : IntKind.i64.wrap (i + 1) = i + 1 := wrap_near _ (by omega) (by omega)
  clear hi hn hn'
  by_cases h : d = 0
  · subst h
    by_cases h2 : i = n - 1
    · have e4 : (i == n - 1) = true := by simp [h2]
      have hr := Lib.hid (show nextI n 0 i = 0 by simp [nextI, h2])
      clear h2
      go_enter Tryd.func52, Tryd.ntmps52
      go_wp2
      go_ret
      exact ⟨by rw [hr.out]; rfl, rfl⟩
    · have e4 : (i == n - 1) = false := by simp [h2]
      have hr := Lib.hid (show nextI n 0 i = i + 1 by simp [nextI, h2])
      clear h2
      go_enter Tryd.func52, Tryd.ntmps52
      go_wp2
      go_ret
      exact ⟨by rw [hr.out]; rfl, rfl⟩
  · have e0 : (d == 0) = false := by simp [h]
    by_cases h2 : i = 0
    · have hr := Lib.hid (show nextI n d i = n - 1 by simp [nextI, h, h2])
      subst h2
      clear h
      go_enter Tryd.func52, Tryd.ntmps52
      go_wp2
      go_ret
      exact ⟨by rw [hr.out]; rfl, rfl⟩
    · have e4 : (i == 0) = false := by simp [h2]
      have hr := Lib.hid (show nextI n d i = i - 1 by simp [nextI, h, h2])
      clear h2 h
      go_enter Tryd.func52, Tryd.ntmps52
      go_wp2
      go_ret
      exact ⟨by rw [hr.out]; rfl, rfl⟩
/-- The loop of steps: from x on, many of them. -/
def InvStep (w : World) (n d x : Int) (m : Nat) (k : Nat) (a : Act) (wr : World) : Prop :=
  ∃ j : Nat, j + k = m ∧ wr = w ∧ a.tmps.size = 43 ∧ a.defers = [] ∧ slot a 0 = .int .i64 n ∧ slot a 1 = .int .u8 d ∧ slot a 2 = .int .i64 ((x + sgn d * j) % n) ∧ slot a 9 = .int .i64 m ∧ slot a 10 = .int .i64 j
set_option maxHeartbeats 400000 in
theorem refStep (w : World) (n d i k : Int) (hd : 0 ≤ d) : Calls Tryd.prog 16 #[.int .i64 n, .int .u8 d, .int .i64 i, .int .i64 k] w fun e w' => e = .returned (.int .i64 (stepI n d i k)) ∧ w = w' := by
  by_cases h1 : okR n d = true
  · by_cases h2 : inR n i = true
    · obtain ⟨h4, h16, hd1⟩ := okR_true h1
      obtain ⟨hi0, hin⟩ := inR_true h2
      have hdd : d = 0 ∨ d = 1 := by omega
      have t1 := Int.tmod_lt_of_pos k (show 0 < n by omega)
      have t2 : -n < Int.tmod k n := Int.lt_tmod_of_pos k (by omega)
      have hne : n ≠ 0 := by omega
      have e1 : IntKind.i64.wrap (Int.tmod k n) = Int.tmod k n := wrap_near _ (by omega) (by omega)
      have hx0 : i % n = i := Int.emod_eq_of_lt hi0 hin
      have hri : stepI n d i k = (i + sgn d * Int.tmod k n) % n := by simp [stepI, h1, h2, emod_tmod]
      have g1 : decide (i < 0) = false := by simp; omega
      have g2 : decide (n ≤ i) = false := by simp; omega
      by_cases hneg : Int.tmod k n < 0
      · obtain ⟨m, hm⟩ : ∃ m : Nat, -Int.tmod k n = m := ⟨(-Int.tmod k n).toNat, by omega⟩
        have hdd := @other_in d
        have hr := Lib.hid (show ∀ j : Nat, j = m → (i + sgn (otherI d) * j) % n = stepI n d i k by
          rintro j rfl
          rw [hri, sgn_other (by omega), ← hm, Int.neg_mul_neg])
        have e2 : IntKind.i64.wrap (m : Int) = m := wrap_near _ (by omega) (by omega)
        have e3 : IntKind.i64.wrap (-Int.tmod k n) = m := by rw [hm, e2]
        have hneg' : decide (Int.tmod k n < 0) = true := by simp [hneg]
        have hm16 : (m : Int) < 16 := by omega
        clear hneg t1 t2 hri
        go_enter Tryd.func16, Tryd.ntmps16
        go_wp2_with fail
        refine (refIs _ _ _).mono ?_
        rintro e _ ⟨rfl, rfl⟩
        rw [h1]
        go_wp2_with fail
        refine (refOther _ _).mono ?_
        rintro e _ ⟨rfl, rfl⟩
        clear h1 h2
        generalize otherI d = d2 at *
        go_wp2
        refine wp_loop_k (InvStep w n d2 i m) m ?_ ?_
        · exact ⟨0, by omega, rfl, by kernel_rfl, rfl, by kernel_rfl, by kernel_rfl, by show Value.int _ _ = Value.int _ _; simp [hx0], by kernel_rfl, by kernel_rfl⟩
        · intro gk a wr hI K hK
          obtain ⟨j, hj, rfl, hs', hd', k0', k1', k2', k9', k10'⟩ := hI
          rw [fr43 a hs' hd']; simp only [k0', k1', k2', k9', k10']; clear hs' hd' k0' k1' k2' k9' k10'
          by_cases hlt : j < m
          · have e1 : decide ((j : Int) < m) = true := by simp; omega
            have hnx := nextI_go (x := i) h4 hdd j
            have ein := emod_in (x := i + sgn d2 * j) h4
            have ew : IntKind.i64.wrap ((j : Int) + 1) = ((j + 1 : Nat) : Int) := wrap_near _ (by omega) (by omega)
            generalize (i + sgn d2 * (j : Int)) % n = y at *
            go_wp2_with fail
            refine (refNext _ _ _ _ h4 h16 ein).mono ?_
            rintro e _ ⟨rfl, rfl⟩
            go_wp2_with fail
            refine hK (m - (j + 1)) _ _ (by omega) ⟨j + 1, by omega, rfl, by kernel_rfl, rfl, by kernel_rfl, by kernel_rfl, ?_, by kernel_rfl, by kernel_rfl⟩
            show Value.int _ _ = Value.int _ _
            simp
          · obtain rfl : j = m := by omega
            have hr2 := hr.out j rfl
            go_wp2
            go_ret
            exact ⟨by rw [← hr2]; rfl, rfl⟩
      · obtain ⟨m, hm⟩ : ∃ m : Nat, Int.tmod k n = m := ⟨(Int.tmod k n).toNat, by omega⟩
        have hr := Lib.hid (show ∀ j : Nat, j = m → (i + sgn d * j) % n = stepI n d i k by
          rintro j rfl
          rw [hri, hm])
        have e2 : IntKind.i64.wrap (Int.tmod k n) = m := by rw [e1, hm]
        have hneg' : decide ((m : Int) < 0) = false := by simp <;> omega
        have hm16 : (m : Int) < 16 := by omega
        clear hneg t1 t2 hri e1
        go_enter Tryd.func16, Tryd.ntmps16
        go_wp2_with fail
        refine (refIs _ _ _).mono ?_
        rintro e _ ⟨rfl, rfl⟩
        rw [h1]
        clear h1 h2
        go_wp2
        refine wp_loop_k (InvStep w n d i m) m ?_ ?_
        · exact ⟨0, by omega, rfl, by kernel_rfl, rfl, by kernel_rfl, by kernel_rfl, by show Value.int _ _ = Value.int _ _; simp [hx0], by kernel_rfl, by kernel_rfl⟩
        · intro gk a wr hI K hK
          obtain ⟨j, hj, rfl, hs', hd', k0', k1', k2', k9', k10'⟩ := hI
          rw [fr43 a hs' hd']; simp only [k0', k1', k2', k9', k10']; clear hs' hd' k0' k1' k2' k9' k10'
          by_cases hlt : j < m
          · have e1 : decide ((j : Int) < m) = true := by simp; omega
            have hnx := nextI_go (x := i) h4 hdd j
            have ein := emod_in (x := i + sgn d * j) h4
            have ew : IntKind.i64.wrap ((j : Int) + 1) = ((j + 1 : Nat) : Int) := wrap_near _ (by omega) (by omega)
            generalize (i + sgn d * (j : Int)) % n = y at *
            go_wp2_with fail
            refine (refNext _ _ _ _ h4 h16 ein).mono ?_
            rintro e _ ⟨rfl, rfl⟩
            go_wp2_with fail
            refine hK (m - (j + 1)) _ _ (by omega) ⟨j + 1, by omega, rfl, by kernel_rfl, rfl, by kernel_rfl, by kernel_rfl, ?_, by kernel_rfl, by kernel_rfl⟩
            show Value.int _ _ = Value.int _ _
            simp
          · obtain rfl : j = m := by omega
            have hr2 := hr.out j rfl
            go_wp2
            go_ret
            exact ⟨by rw [← hr2]; rfl, rfl⟩
    · have h2' : inR n i = false := by simpa using h2
      have hr := Lib.hid (show stepI n d i k = -1 by simp [stepI, h1, h2'])
      clear h2
      by_cases h3 : i < 0
      · go_enter Tryd.func16, Tryd.ntmps16
        go_wp2_with fail
        refine (refIs _ _ _).mono ?_
        rintro e _ ⟨rfl, rfl⟩
        rw [h1]
        go_wp2
        go_ret
        exact ⟨by rw [hr.out]; rfl, rfl⟩
      · have g3 : decide (i < 0) = false := by simp <;> omega
        have g4 : decide (n ≤ i) = true := by simp [inR] at h2'; simp; omega
        clear h3 h2'
        go_enter Tryd.func16, Tryd.ntmps16
        go_wp2_with fail
        refine (refIs _ _ _).mono ?_
        rintro e _ ⟨rfl, rfl⟩
        rw [h1]
        go_wp2
        go_ret
        exact ⟨by rw [hr.out]; rfl, rfl⟩
  · have h1' : okR n d = false := by simpa using h1
    have hr := Lib.hid (show stepI n d i k = -1 by simp [stepI, h1'])
    clear h1
    go_enter Tryd.func16, Tryd.ntmps16
    go_wp2_with fail
    refine (refIs _ _ _).mono ?_
    rintro e _ ⟨rfl, rfl⟩
    rw [h1']
    go_wp2
    go_ret
    exact ⟨by rw [hr.out]; rfl, rfl⟩
/-- The loop of a distance: from f on, until it is t. -/
def InvDist (w : World) (n d f t : Int) (D : Nat) (k : Nat) (a : Act) (wr : World) : Prop :=
  ∃ j : Nat, j + k = D ∧ wr = w ∧ a.tmps.size = 42 ∧ a.defers = [] ∧ slot a 0 = .int .i64 n ∧ slot a 1 = .int .u8 d ∧ slot a 2 = .int .i64 ((f + sgn d * j) % n) ∧ slot a 3 = .int .i64 t ∧ slot a 9 = .int .i64 j
set_option maxHeartbeats 400000 in
theorem refDistance (w : World) (n d f t : Int) (hd : 0 ≤ d) : Calls Tryd.prog 18 #[.int .i64 n, .int .u8 d, .int .i64 f, .int .i64 t] w fun e w' => e = .returned (.int .i64 (distI n d f t)) ∧ w = w' := by
  by_cases h1 : okR n d = true
  · by_cases h2 : inR n f = true
    · obtain ⟨h4, h16, hd1⟩ := okR_true h1
      obtain ⟨hi0, hin⟩ := inR_true h2
      have hdd : d = 0 ∨ d = 1 := by omega
      have g1 : decide (f < 0) = false := by simp; omega
      have g2 : decide (n ≤ f) = false := by simp; omega
      by_cases h3 : inR n t = true
      · obtain ⟨ht0, htn⟩ := inR_true h3
        have g3 : decide (t < 0) = false := by simp; omega
        have g4 : decide (n ≤ t) = false := by simp; omega
        have hri : distI n d f t = (sgn d * (t - f)) % n := by simp [distI, h1, h2, h3]
        have hE := emod_in (x := sgn d * (t - f)) h4
        obtain ⟨D, hD⟩ : ∃ D : Nat, (sgn d * (t - f)) % n = D := ⟨((sgn d * (t - f)) % n).toNat, by omega⟩
        have hat := Lib.hid (fun j : Nat => dist_at (t := t) h4 h16 hdd ⟨hi0, hin⟩ ⟨ht0, htn⟩ (j : Int) (by omega))
        have hx0 : f % n = f := Int.emod_eq_of_lt hi0 hin
        have hr := Lib.hid (hri.trans hD)
        have hD16 : (D : Int) < 16 := by omega
        clear hri hE
        go_enter Tryd.func18, Tryd.ntmps18
        go_wp2_with fail
        refine (refIs _ _ _).mono ?_
        rintro e _ ⟨rfl, rfl⟩
        rw [h1]
        clear h1 h2 h3
        go_wp2
        refine wp_loop_k (InvDist w n d f t D) D ?_ ?_
        · exact ⟨0, by omega, rfl, by kernel_rfl, rfl, by kernel_rfl, by kernel_rfl, by show Value.int _ _ = Value.int _ _; simp [hx0], by kernel_rfl, by kernel_rfl⟩
        · intro gk a wr hI K hK
          obtain ⟨j, hj, rfl, hs', hd', k0', k1', k2', k3', k9'⟩ := hI
          rw [fr42 a hs' hd']; simp only [k0', k1', k2', k3', k9']; clear hs' hd' k0' k1' k2' k3' k9'
          have hnx := nextI_go (x := f) h4 hdd j
          have ein := emod_in (x := f + sgn d * j) h4
          have ew : IntKind.i64.wrap ((j : Int) + 1) = ((j + 1 : Nat) : Int) := wrap_near _ (by omega) (by omega)
          have hiff := hat.out j (by rw [hD]; omega)
          rw [hD] at hiff
          by_cases hlt : j < D
          · generalize (f + sgn d * (j : Int)) % n = y at *
            have e1 : (y != t) = true := by
              have : ¬ y = t := by rw [hiff]; omega
              simp [this]
            clear hiff
            go_wp2_with fail
            refine (refNext _ _ _ _ h4 h16 ein).mono ?_
            rintro e _ ⟨rfl, rfl⟩
            go_wp2_with fail
            refine hK (D - (j + 1)) _ _ (by omega) ⟨j + 1, by omega, rfl, by kernel_rfl, rfl, by kernel_rfl, by kernel_rfl, ?_, by kernel_rfl, by kernel_rfl⟩
            show Value.int _ _ = Value.int _ _
            simp
          · obtain rfl : j = D := by omega
            generalize (f + sgn d * (j : Int)) % n = y at *
            have e1 : (y != t) = false := by
              have : y = t := hiff.2 rfl
              simp [this]
            clear hiff
            go_wp2
            go_ret
            exact ⟨by rw [hr.out]; rfl, rfl⟩
      · have h3' : inR n t = false := by simpa using h3
        have hr := Lib.hid (show distI n d f t = -1 by simp [distI, h1, h2, h3'])
        clear h3
        by_cases h5 : t < 0
        · clear h3' hi0 hin hd hd1 h4 h16
          go_enter Tryd.func18, Tryd.ntmps18
          go_wp2_with fail
          refine (refIs _ _ _).mono ?_
          rintro e _ ⟨rfl, rfl⟩
          rw [h1]
          go_wp2
          go_ret
          exact ⟨by rw [hr.out]; rfl, rfl⟩
        · have g3 : decide (t < 0) = false := by simp; omega
          have g4 : decide (n ≤ t) = true := by simp [inR] at h3'; simp; omega
          clear h3' hi0 hin hd hd1 h4 h16 h5
          go_enter Tryd.func18, Tryd.ntmps18
          go_wp2_with fail
          refine (refIs _ _ _).mono ?_
          rintro e _ ⟨rfl, rfl⟩
          rw [h1]
          go_wp2
          go_ret
          exact ⟨by rw [hr.out]; rfl, rfl⟩
    · have h2' : inR n f = false := by simpa using h2
      have hr := Lib.hid (show distI n d f t = -1 by simp [distI, h1, h2'])
      clear h2
      by_cases h5 : f < 0
      · clear h2' hd
        go_enter Tryd.func18, Tryd.ntmps18
        go_wp2_with fail
        refine (refIs _ _ _).mono ?_
        rintro e _ ⟨rfl, rfl⟩
        rw [h1]
        go_wp2
        go_ret
        exact ⟨by rw [hr.out]; rfl, rfl⟩
      · have g3 : decide (f < 0) = false := by simp; omega
        have g4 : decide (n ≤ f) = true := by simp [inR] at h2'; simp; omega
        clear h2' h5
        go_enter Tryd.func18, Tryd.ntmps18
        go_wp2_with fail
        refine (refIs _ _ _).mono ?_
        rintro e _ ⟨rfl, rfl⟩
        rw [h1]
        go_wp2
        go_ret
        exact ⟨by rw [hr.out]; rfl, rfl⟩
  · have h1' : okR n d = false := by simpa using h1
    have hr := Lib.hid (show distI n d f t = -1 by simp [distI, h1'])
    clear h1
    go_enter Tryd.func18, Tryd.ntmps18
    go_wp2_with fail
    refine (refIs _ _ _).mono ?_
    rintro e _ ⟨rfl, rfl⟩
    rw [h1']
    go_wp2
    go_ret
    exact ⟨by rw [hr.out]; rfl, rfl⟩
end Go.Proofs.YteogoddnefeleaaDoor
