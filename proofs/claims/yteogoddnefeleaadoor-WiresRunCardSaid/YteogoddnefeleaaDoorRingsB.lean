/- Rings: Step, Distance, Source, Link, Place. -/
import Derived.Test.YteogoddnefeleaaDoorRingsA
namespace Go.Proofs.YteogoddnefeleaaDoor
open Go.RowKit
set_option linter.unusedSimpArgs false
set_option linter.unusedVariables false
set_option maxRecDepth 100000
theorem wrap_near (x : Int) (h1 : -100000 ≤ x) (h2 : x ≤ 100000) : IntKind.i64.wrap x = x := by rw [IntKind.wrap_i64]; omega
set_option maxHeartbeats 400000 in
theorem ringsStep (w : World) (n d i k : Int) (hs : Signs w) (hd : 0 ≤ d) : Calls Tryd.prog 15 #[.int .i64 n, .int .u8 d, .int .i64 i, .int .i64 k] w fun e w' => e = .returned (.int .i64 (stepI n d i k)) ∧ ∃ q, w' = w.drewN q := by
  by_cases h1 : okR n d = true
  · by_cases h2 : inR n i = true
    · obtain ⟨h4, h16, hd1⟩ := okR_true h1
      obtain ⟨hi0, hin⟩ := inR_true h2
      have t1 := Int.tmod_lt_of_pos k (show 0 < n by omega)
      have t2 : -n < Int.tmod k n := Int.lt_tmod_of_pos k (by omega)
      have hne : n ≠ 0 := by omega
      have e1 : IntKind.i64.wrap (Int.tmod k n) = Int.tmod k n := wrap_near _ (by omega) (by omega)
      rcases show d = 0 ∨ d = 1 by omega with rfl | rfl
      · have hr := Lib.hid (show (i + Int.tmod k n) % n = stepI n 0 i k by have := @emod_tmod n i 1 k; simp at this; simp [stepI, h1, h2, sgn, this])
        have e3 : IntKind.i64.wrap (i + Int.tmod k n) = i + Int.tmod k n := wrap_near _ (by omega) (by omega)
        have c0 := hs.1
        clear t1 t2 hin hi0 hd hd1
        go_enter Tryd.func15, Tryd.ntmps15
        go_wp2_with fail
        refine (ringsRing _ _ _).mono ?_
        rintro e _ ⟨rfl, rfl⟩
        rw [h1]
        go_wp2_with fail
        refine (ringsNode _ _ _).mono ?_
        rintro e _ ⟨rfl, rfl⟩
        rw [h2]
        go_wp2_with fail
        go_quiet ((go_at_call 49; exact (ringsRound _ _ _ h4 h16).mono fun _ _ h => ⟨h.1, _, h.2.symm⟩))
        go_wp2
        go_ret
        exact ⟨by rw [← hr.out]; rfl, _, rfl⟩
      · have hr := Lib.hid (show (i + -Int.tmod k n) % n = stepI n 1 i k by have := @emod_tmod n i (-1) k; simp only [Int.neg_one_mul] at this; simp [stepI, h1, h2, sgn, this])
        have e2 : IntKind.i64.wrap (-Int.tmod k n) = -Int.tmod k n := wrap_near _ (by omega) (by omega)
        have e3 : IntKind.i64.wrap (i + -Int.tmod k n) = i + -Int.tmod k n := wrap_near _ (by omega) (by omega)
        have c0 := hs.2
        clear t1 t2 hin hi0 hd hd1
        go_enter Tryd.func15, Tryd.ntmps15
        go_wp2_with fail
        refine (ringsRing _ _ _).mono ?_
        rintro e _ ⟨rfl, rfl⟩
        rw [h1]
        go_wp2_with fail
        refine (ringsNode _ _ _).mono ?_
        rintro e _ ⟨rfl, rfl⟩
        rw [h2]
        go_wp2_with fail
        go_quiet ((go_at_call 49; exact (ringsRound _ _ _ h4 h16).mono fun _ _ h => ⟨h.1, _, h.2.symm⟩))
        go_wp2
        go_ret
        exact ⟨by rw [← hr.out]; rfl, _, rfl⟩
    · have h2' : inR n i = false := by simpa using h2
      have hr := Lib.hid (show stepI n d i k = -1 by simp [stepI, h1, h2'])
      clear h2
      go_enter Tryd.func15, Tryd.ntmps15
      go_wp2_with fail
      refine (ringsRing _ _ _).mono ?_
      rintro e _ ⟨rfl, rfl⟩
      rw [h1]
      go_wp2_with fail
      refine (ringsNode _ _ _).mono ?_
      rintro e _ ⟨rfl, rfl⟩
      rw [h2']
      go_wp2
      go_ret
      exact ⟨by rw [hr.out]; rfl, 0, rfl⟩
  · have h1' : okR n d = false := by simpa using h1
    have hr := Lib.hid (show stepI n d i k = -1 by simp [stepI, h1'])
    clear h1
    go_enter Tryd.func15, Tryd.ntmps15
    go_wp2_with fail
    refine (ringsRing _ _ _).mono ?_
    rintro e _ ⟨rfl, rfl⟩
    rw [h1']
    go_wp2
    go_ret
    exact ⟨by rw [hr.out]; rfl, 0, rfl⟩
set_option maxHeartbeats 400000 in
theorem ringsDistance (w : World) (n d f t : Int) (hs : Signs w) (hd : 0 ≤ d) : Calls Tryd.prog 17 #[.int .i64 n, .int .u8 d, .int .i64 f, .int .i64 t] w fun e w' => e = .returned (.int .i64 (distI n d f t)) ∧ ∃ q, w' = w.drewN q := by
  by_cases h1 : okR n d = true
  · by_cases h2 : inR n f = true
    · by_cases h3 : inR n t = true
      · obtain ⟨h4, h16, hd1⟩ := okR_true h1
        obtain ⟨hi0, hin⟩ := inR_true h2
        obtain ⟨ht0, htn⟩ := inR_true h3
        have e3 : IntKind.i64.wrap (t - f) = t - f := wrap_near _ (by omega) (by omega)
        rcases show d = 0 ∨ d = 1 by omega with rfl | rfl
        · have hr := Lib.hid (show (t - f) % n = distI n 0 f t by simp [distI, h1, h2, h3, sgn])
          have c0 := hs.1
          clear hin hi0 ht0 htn hd hd1
          go_enter Tryd.func17, Tryd.ntmps17
          go_wp2_with fail
          refine (ringsRing _ _ _).mono ?_
          rintro e _ ⟨rfl, rfl⟩
          rw [h1]
          go_wp2_with fail
          refine (ringsNode _ _ _).mono ?_
          rintro e _ ⟨rfl, rfl⟩
          rw [h2]
          go_wp2_with fail
          refine (ringsNode _ _ _).mono ?_
          rintro e _ ⟨rfl, rfl⟩
          rw [h3]
          go_wp2_with fail
          refine (ringsRound _ _ _ h4 h16).mono ?_
          rintro e _ ⟨rfl, rfl⟩
          go_wp2_with fail
          go_ret
          exact ⟨by rw [← hr.out]; rfl, 0, rfl⟩
        · have hr := Lib.hid (show (-(t - f)) % n = distI n 1 f t by simp [distI, h1, h2, h3, sgn])
          have e2 : IntKind.i64.wrap (-(t - f)) = -(t - f) := wrap_near _ (by omega) (by omega)
          have c0 := hs.2
          clear hin hi0 ht0 htn hd hd1
          go_enter Tryd.func17, Tryd.ntmps17
          go_wp2_with fail
          refine (ringsRing _ _ _).mono ?_
          rintro e _ ⟨rfl, rfl⟩
          rw [h1]
          go_wp2_with fail
          refine (ringsNode _ _ _).mono ?_
          rintro e _ ⟨rfl, rfl⟩
          rw [h2]
          go_wp2_with fail
          refine (ringsNode _ _ _).mono ?_
          rintro e _ ⟨rfl, rfl⟩
          rw [h3]
          go_wp2_with fail
          refine (ringsRound _ _ _ h4 h16).mono ?_
          rintro e _ ⟨rfl, rfl⟩
          go_wp2_with fail
          go_ret
          exact ⟨by rw [← hr.out]; rfl, 0, rfl⟩
      · have h3' : inR n t = false := by simpa using h3
        have hr := Lib.hid (show distI n d f t = -1 by simp [distI, h1, h2, h3'])
        clear h3
        go_enter Tryd.func17, Tryd.ntmps17
        go_wp2_with fail
        refine (ringsRing _ _ _).mono ?_
        rintro e _ ⟨rfl, rfl⟩
        rw [h1]
        go_wp2_with fail
        refine (ringsNode _ _ _).mono ?_
        rintro e _ ⟨rfl, rfl⟩
        rw [h2]
        go_wp2_with fail
        refine (ringsNode _ _ _).mono ?_
        rintro e _ ⟨rfl, rfl⟩
        rw [h3']
        go_wp2
        go_ret
        exact ⟨by rw [hr.out]; rfl, 0, rfl⟩
    · have h2' : inR n f = false := by simpa using h2
      have hr := Lib.hid (show distI n d f t = -1 by simp [distI, h1, h2'])
      clear h2
      go_enter Tryd.func17, Tryd.ntmps17
      go_wp2_with fail
      refine (ringsRing _ _ _).mono ?_
      rintro e _ ⟨rfl, rfl⟩
      rw [h1]
      go_wp2_with fail
      refine (ringsNode _ _ _).mono ?_
      rintro e _ ⟨rfl, rfl⟩
      rw [h2']
      go_wp2
      go_ret
      exact ⟨by rw [hr.out]; rfl, 0, rfl⟩
  · have h1' : okR n d = false := by simpa using h1
    have hr := Lib.hid (show distI n d f t = -1 by simp [distI, h1'])
    clear h1
    go_enter Tryd.func17, Tryd.ntmps17
    go_wp2_with fail
    refine (ringsRing _ _ _).mono ?_
    rintro e _ ⟨rfl, rfl⟩
    rw [h1']
    go_wp2
    go_ret
    exact ⟨by rw [hr.out]; rfl, 0, rfl⟩
theorem ringsSource (w : World) (n d i h : Int) (hs : Signs w) (hd : 0 ≤ d) : Calls Tryd.prog 22 #[.int .i64 n, .int .u8 d, .int .i64 i, .int .i64 h] w fun e w' => e = .returned (.int .i64 (srcI n d i h)) ∧ ∃ q, w' = w.drewN q := by
  by_cases h1 : okH h = true
  · have hr := Lib.hid (show srcI n d i h = stepI n d i (-h) by simp [srcI, h1])
    have e1 : IntKind.i64.wrap (-h) = -h := by rcases okH_true h1 with rfl | rfl <;> rfl
    go_enter Tryd.func22, Tryd.ntmps22
    go_wp2_with fail
    refine (ringsHops _ _).mono ?_
    rintro e _ ⟨rfl, rfl⟩
    rw [h1]
    go_wp2_with fail
    refine (ringsStep _ _ _ _ _ hs hd).mono ?_
    rintro e _ ⟨rfl, q, rfl⟩
    go_wp2_with fail
    go_ret
    exact ⟨by rw [hr.out]; rfl, _, rfl⟩
  · have h1' : okH h = false := by simpa using h1
    have hr := Lib.hid (show srcI n d i h = -1 by simp [srcI, h1'])
    clear h1
    go_enter Tryd.func22, Tryd.ntmps22
    go_wp2_with fail
    refine (ringsHops _ _).mono ?_
    rintro e _ ⟨rfl, rfl⟩
    rw [h1']
    go_wp2
    go_ret
    exact ⟨by rw [hr.out]; rfl, 0, rfl⟩
set_option maxHeartbeats 400000 in
theorem ringsLink (w : World) (n d i h : Int) (hd : 0 ≤ d) : Calls Tryd.prog 24 #[.int .i64 n, .int .u8 d, .int .i64 i, .int .i64 h] w fun e w' => e = .returned (.int .i64 (linkI n d i h)) ∧ w = w' := by
  by_cases h1 : okR n d = true
  · by_cases h2 : inR n i = true
    · by_cases h3 : okH h = true
      · obtain ⟨h4, h16, hd1⟩ := okR_true h1
        obtain ⟨hi0, hin⟩ := inR_true h2
        have hh := okH_true h3
        have hr := Lib.hid (show 4 * i + 2 * d + h - 1 = linkI n d i h by simp [linkI, h1, h2, h3])
        have e1 : IntKind.i64.wrap (4 * i) = 4 * i := wrap_near _ (by omega) (by omega)
        have e2 : IntKind.i64.wrap (2 * d) = 2 * d := wrap_near _ (by omega) (by omega)
        have e3 : IntKind.i64.wrap (4 * i + 2 * d) = 4 * i + 2 * d := wrap_near _ (by omega) (by omega)
        have e4 : IntKind.i64.wrap (4 * i + 2 * d + h) = 4 * i + 2 * d + h := wrap_near _ (by omega) (by omega)
        have e5 : IntKind.i64.wrap (4 * i + 2 * d + h - 1) = 4 * i + 2 * d + h - 1 := wrap_near _ (by omega) (by omega)
        have e6 : IntKind.i64.wrap d = d := wrap_near _ (by omega) (by omega)
        clear hin hi0 hd hd1 hh
        go_enter Tryd.func24, Tryd.ntmps24
        go_wp2_with fail
        refine (ringsRing _ _ _).mono ?_
        rintro e _ ⟨rfl, rfl⟩
        rw [h1]
        go_wp2_with fail
        refine (ringsNode _ _ _).mono ?_
        rintro e _ ⟨rfl, rfl⟩
        rw [h2]
        go_wp2_with fail
        refine (ringsHops _ _).mono ?_
        rintro e _ ⟨rfl, rfl⟩
        rw [h3]
        go_wp2_with fail
        go_ret
        exact ⟨by rw [← hr.out]; rfl, rfl⟩
      · have h3' : okH h = false := by simpa using h3
        have hr := Lib.hid (show linkI n d i h = -1 by simp [linkI, h1, h2, h3'])
        clear h3
        go_enter Tryd.func24, Tryd.ntmps24
        go_wp2_with fail
        refine (ringsRing _ _ _).mono ?_
        rintro e _ ⟨rfl, rfl⟩
        rw [h1]
        go_wp2_with fail
        refine (ringsNode _ _ _).mono ?_
        rintro e _ ⟨rfl, rfl⟩
        rw [h2]
        go_wp2_with fail
        refine (ringsHops _ _).mono ?_
        rintro e _ ⟨rfl, rfl⟩
        rw [h3']
        go_wp2
        go_ret
        exact ⟨by rw [hr.out]; rfl, rfl⟩
    · have h2' : inR n i = false := by simpa using h2
      have hr := Lib.hid (show linkI n d i h = -1 by simp [linkI, h1, h2'])
      clear h2
      go_enter Tryd.func24, Tryd.ntmps24
      go_wp2_with fail
      refine (ringsRing _ _ _).mono ?_
      rintro e _ ⟨rfl, rfl⟩
      rw [h1]
      go_wp2_with fail
      refine (ringsNode _ _ _).mono ?_
      rintro e _ ⟨rfl, rfl⟩
      rw [h2']
      go_wp2
      go_ret
      exact ⟨by rw [hr.out]; rfl, rfl⟩
  · have h1' : okR n d = false := by simpa using h1
    have hr := Lib.hid (show linkI n d i h = -1 by simp [linkI, h1'])
    clear h1
    go_enter Tryd.func24, Tryd.ntmps24
    go_wp2_with fail
    refine (ringsRing _ _ _).mono ?_
    rintro e _ ⟨rfl, rfl⟩
    rw [h1']
    go_wp2
    go_ret
    exact ⟨by rw [hr.out]; rfl, rfl⟩
theorem ringsPlace (w : World) (n d f i : Int) (hs : Signs w) (hd : 0 ≤ d) : Calls Tryd.prog 29 #[.int .i64 n, .int .u8 d, .int .i64 f, .int .i64 i] w fun e w' => e = .returned (.int .i64 (placeI n d f i)) ∧ ∃ q, w' = w.drewN q := by
  by_cases h1 : d = 1
  · subst h1
    have hr := Lib.hid (show placeI n 1 f i = distI n 1 (stepI n 0 f 1) i by simp [placeI])
    go_enter Tryd.func29, Tryd.ntmps29
    go_wp2_with fail
    refine (ringsStep _ _ _ _ _ hs (by decide)).mono ?_
    rintro e _ ⟨rfl, q, rfl⟩
    go_wp2_with fail
    refine (ringsDistance _ _ _ _ _ (hs.drew q) (by decide)).mono ?_
    rintro e _ ⟨rfl, q2, rfl⟩
    go_wp2_with fail
    go_ret
    exact ⟨by rw [hr.out]; rfl, q + q2, by simp [World.drewN_drewN]⟩
  · have hr := Lib.hid (show placeI n d f i = distI n d f i by simp [placeI, h1])
    have e1 : (d == 1) = false := by simp [h1]
    go_enter Tryd.func29, Tryd.ntmps29
    go_wp2_with fail
    refine (ringsDistance _ _ _ _ _ hs hd).mono ?_
    rintro e _ ⟨rfl, q2, rfl⟩
    go_wp2_with fail
    go_ret
    exact ⟨by rw [hr.out]; rfl, _, rfl⟩
end Go.Proofs.YteogoddnefeleaaDoor
