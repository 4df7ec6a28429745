/- Rings: the document's Place; Ends, both. -/
import Derived.Test.YteogoddnefeleaaDoorRingsC
namespace Go.Proofs.YteogoddnefeleaaDoor
open Go.RowKit
set_option linter.unusedSimpArgs false
set_option linter.unusedVariables false
set_option maxRecDepth 100000
theorem placeI_bad {n d f i : Int} (h : (okR n d && inR n f) = false) : placeI n d f i = -1 := by
  unfold placeI
  split
  · rename_i hd
    subst hd
    have h2 : (okR n 0 && inR n f) = false := by
      simp [okR] at h ⊢
      exact h
    have h3 : stepI n 0 f 1 = -1 := by simp [stepI, h2]
    rw [h3]
    have h4 : inR n (-1) = false := by simp [inR]
    simp [distI, h4]
  · simp [distI, h]
set_option maxHeartbeats 400000 in
theorem refPlace (w : World) (n d f i : Int) (hd : 0 ≤ d) : Calls Tryd.prog 30 #[.int .i64 n, .int .u8 d, .int .i64 f, .int .i64 i] w fun e w' => e = .returned (.int .i64 (placeI n d f i)) ∧ w = w' := by
  by_cases h1 : okR n d = true
  · by_cases h2 : inR n f = true
    · obtain ⟨h4, h16, hd1⟩ := okR_true h1
      obtain ⟨hi0, hin⟩ := inR_true h2
      have g1 : decide (f < 0) = false := by simp <;> omega
      have g2 : decide (n ≤ f) = false := by simp <;> omega
      rcases show d = 0 ∨ d = 1 by omega with rfl | rfl
      · have hr := Lib.hid (show placeI n 0 f i = distI n 0 f i by simp [placeI])
        go_enter Tryd.func30, Tryd.ntmps30
        go_wp2_with fail
        refine (refIs _ _ _).mono ?_
        rintro e _ ⟨rfl, rfl⟩
        rw [h1]
        go_wp2_with fail
        refine (refDistance _ _ _ _ _ (by decide)).mono ?_
        rintro e _ ⟨rfl, rfl⟩
        go_wp2
        go_ret
        exact ⟨by rw [hr.out]; rfl, rfl⟩
      · have h3 : okR n 0 = true := by simp [okR]; omega
        have hr := Lib.hid (show placeI n 1 f i = distI n 1 (nextI n 0 f) i by
          rw [nextI_emod h4 ⟨hi0, hin⟩ (.inl rfl)]
          simp [placeI, stepI, h3, h2])
        go_enter Tryd.func30, Tryd.ntmps30
        go_wp2_with fail
        refine (refIs _ _ _).mono ?_
        rintro e _ ⟨rfl, rfl⟩
        rw [h1]
        go_wp2_with fail
        refine (refNext _ _ _ _ h4 h16 ⟨hi0, hin⟩).mono ?_
        rintro e _ ⟨rfl, rfl⟩
        go_wp2_with fail
        refine (refDistance _ _ _ _ _ (by decide)).mono ?_
        rintro e _ ⟨rfl, rfl⟩
        go_wp2
        go_ret
        exact ⟨by rw [hr.out]; rfl, rfl⟩
    · have h2' : inR n f = false := by simpa using h2
      have hr := Lib.hid (placeI_bad (i := i) (show (okR n d && inR n f) = false by simp [h1, h2']))
      clear h2
      by_cases h3 : f < 0
      · go_enter Tryd.func30, Tryd.ntmps30
        go_wp2_with fail
        refine (refIs _ _ _).mono ?_
        rintro e _ ⟨rfl, rfl⟩
        rw [h1]
        go_wp2
        go_ret
        exact ⟨by rw [hr.out]; rfl, rfl⟩
      · have g3 : decide (f < 0) = false := by simp <;> omega
        have g4 : decide (n ≤ f) = true := by simp [inR] at h2'; simp; omega
        clear h3 h2'
        go_enter Tryd.func30, Tryd.ntmps30
        go_wp2_with fail
        refine (refIs _ _ _).mono ?_
        rintro e _ ⟨rfl, rfl⟩
        rw [h1]
        go_wp2
        go_ret
        exact ⟨by rw [hr.out]; rfl, rfl⟩
  · have h1' : okR n d = false := by simpa using h1
    have hr := Lib.hid (placeI_bad (f := f) (i := i) (show (okR n d && inR n f) = false by simp [h1']))
    clear h1
    go_enter Tryd.func30, Tryd.ntmps30
    go_wp2_with fail
    refine (refIs _ _ _).mono ?_
    rintro e _ ⟨rfl, rfl⟩
    rw [h1']
    go_wp2
    go_ret
    exact ⟨by rw [hr.out]; rfl, rfl⟩
/-- What Ends answers. -/
abbrev endsV (n k : Int) : Value := .tuple #[.int .i64 (endF n k), .int .i64 (endT n k), .int .u8 (endD n k), .int .i64 (endH n k)]
theorem endsV_bad {n k : Int} (h : okE n k = false) : endsV n k = .tuple #[.int .i64 (-1), .int .i64 (-1), .int .u8 0, .int .i64 0] := by
  simp [endsV, endF, endT, endD, endH, h]
set_option maxHeartbeats 400000 in
theorem ringsEnds (w : World) (n k : Int) (hs : Signs w) : Calls Tryd.prog 20 #[.int .i64 n, .int .i64 k] w fun e w' => e = .returned (endsV n k) ∧ ∃ q, w' = w.drewN q := by
  cases h0 : okR n 0 with
  | true =>
    obtain ⟨h4, h16, -⟩ := okR_true h0
    have ew : IntKind.i64.wrap (4 * n) = 4 * n := wrap_near _ (by omega) (by omega)
    by_cases h1 : k < 0
    · have hr := Lib.hid (endsV_bad (n := n) (k := k) (by simp [okE]; omega))
      · have g1 : decide (k < 0) = true := by simp [h1]
        clear h1
        go_enter Tryd.func20, Tryd.ntmps20
        go_wp2_with fail
        refine (ringsRing _ _ _).mono ?_
        rintro e _ ⟨rfl, rfl⟩
        rw [h0]
        go_wp2
        refine bodyPost_ret (v := .tuple #[.int .i64 (-1), .int .i64 (-1), .int .u8 0, .int .i64 0]) (by simp [results, Tryd.results20, go_sem]) rfl ⟨by rw [hr.out], 0, rfl⟩
    · have g1 : decide (k < 0) = false := by simp <;> omega
      by_cases h2 : 4 * n ≤ k
      · have hr := Lib.hid (endsV_bad (n := n) (k := k) (by simp [okE]; omega))
        have g2 : decide (4 * n ≤ k) = true := by simp [h2]
        clear h1 h2
        go_enter Tryd.func20, Tryd.ntmps20
        go_wp2_with fail
        refine (ringsRing _ _ _).mono ?_
        rintro e _ ⟨rfl, rfl⟩
        rw [h0]
        go_wp2
        refine bodyPost_ret (v := .tuple #[.int .i64 (-1), .int .i64 (-1), .int .u8 0, .int .i64 0]) (by simp [results, Tryd.results20, go_sem]) rfl ⟨by rw [hr.out], 0, rfl⟩
      · have he : okE n k = true := by simp [okE, h0]; omega
        have g2 : decide (4 * n ≤ k) = false := by simp; omega
        have a1 : Int.tdiv k 4 = k / 4 := Int.tdiv_eq_ediv_of_nonneg (by omega)
        have a2 : Int.tmod k 4 = k % 4 := Int.tmod_eq_emod_of_nonneg (by omega)
        have a3 : Int.tmod k 2 = k % 2 := Int.tmod_eq_emod_of_nonneg (by omega)
        have a4 : Int.tdiv (k % 4) 2 = k % 4 / 2 := Int.tdiv_eq_ediv_of_nonneg (by omega)
        have b1 : IntKind.i64.wrap (k / 4) = k / 4 := wrap_near _ (by omega) (by omega)
        have b2 : IntKind.i64.wrap (k % 4) = k % 4 := wrap_near _ (by omega) (by omega)
        have b3 : IntKind.i64.wrap (k % 2) = k % 2 := wrap_near _ (by omega) (by omega)
        have b4 : IntKind.i64.wrap (k % 4 / 2) = k % 4 / 2 := wrap_near _ (by omega) (by omega)
        have b5 : IntKind.i64.wrap (k % 2 + 1) = k % 2 + 1 := wrap_near _ (by omega) (by omega)
        have b6 : IntKind.u8.wrap (k % 4 / 2) = k % 4 / 2 := by rw [IntKind.wrap_u8]; omega
        have hd : 0 ≤ k % 4 / 2 := by omega
        have hr := Lib.hid (show endsV n k = .tuple #[.int .i64 (k / 4), .int .i64 (stepI n (k % 4 / 2) (k / 4) (k % 2 + 1)), .int .u8 (k % 4 / 2), .int .i64 (k % 2 + 1)] by simp [endsV, endF, endT, endD, endH, he])
        clear h1 h2 he
        go_enter Tryd.func20, Tryd.ntmps20
        go_wp2_with fail
        refine (ringsRing _ _ _).mono ?_
        rintro e _ ⟨rfl, rfl⟩
        rw [h0]
        go_wp2_with fail
        refine (ringsStep _ _ _ _ _ hs hd).mono ?_
        rintro e _ ⟨rfl, q, rfl⟩
        go_wp2
        refine bodyPost_ret (v := .tuple #[.int .i64 (k / 4), .int .i64 (stepI n (k % 4 / 2) (k / 4) (k % 2 + 1)), .int .u8 (k % 4 / 2), .int .i64 (k % 2 + 1)]) (by simp [results, Tryd.results20, go_sem]) rfl ⟨by rw [hr.out], q, rfl⟩
  | false =>
    have hr := Lib.hid (endsV_bad (n := n) (k := k) (by simp [okE, h0]))
    have u : True := trivial
    · have u2 : True := trivial
      · clear u u2
        go_enter Tryd.func20, Tryd.ntmps20
        go_wp2_with fail
        refine (ringsRing _ _ _).mono ?_
        rintro e _ ⟨rfl, rfl⟩
        rw [h0]
        go_wp2
        refine bodyPost_ret (v := .tuple #[.int .i64 (-1), .int .i64 (-1), .int .u8 0, .int .i64 0]) (by simp [results, Tryd.results20, go_sem]) rfl ⟨by rw [hr.out], 0, rfl⟩
end Go.Proofs.YteogoddnefeleaaDoor
