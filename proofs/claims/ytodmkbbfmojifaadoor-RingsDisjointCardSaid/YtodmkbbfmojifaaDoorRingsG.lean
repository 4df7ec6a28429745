/- Rings: the document's Path. -/
import Derived.Test.YtodmkbbfmojifaaDoorRingsF
namespace Go.Proofs.YtodmkbbfmojifaaDoor
open Go.RowKit
set_option linter.unusedSimpArgs false
set_option linter.unusedVariables false
set_option maxRecDepth 100000
set_option maxHeartbeats 4000000 in
theorem refPath_no (w : World) (n d f t h : Int) (hd : 0 ≤ d) (hok : pathOk n d f t h = false) : Calls Tryd.prog 22 #[.int .i64 n, .int .u8 d, .int .i64 f, .int .i64 t, .int .i64 h] w fun e w' =>
    ∃ a c, e = .returned (.tuple #[.slice a (pathN n d f t h) c, .bool false]) ∧ Rd .i64 w' a (pathN n d f t h) (pathL n d f t h) ∧ (a = none → pathN n d f t h = 0 ∧ c = 0) ∧ Below w.heap.size w w' := by
  have hN : pathN n d f t h = 0 := by simp [pathN, hok]
  have hv : (.tuple #[.slice none (pathN n d f t h) 0, .bool false] : Value) = .tuple #[.slice none 0 0, .bool false] := by rw [hN]
  have hfin := Lib.hid (show Rd .i64 w none (pathN n d f t h) (pathL n d f t h) from fun i hi => absurd hi (by omega))
  replace hv := Lib.hid hv
  replace hN := Lib.hid hN
  by_cases hD : distI n d f t < 1
  · have g1 : decide (distI n d f t < 1) = true := by simp [hD]
    clear hok hD
    go_enter Tryd.func22, Tryd.ntmps22
    go_wp2_with fail
    refine (refDistance _ _ _ _ _ hd).mono ?_
    rintro e _ ⟨rfl, rfl⟩
    generalize distI n d f t = D at *
    go_wp2
    refine bodyPost_ret (v := .tuple #[.slice none 0 0, .bool false]) (by simp [results, Tryd.results22, go_sem]) rfl ⟨none, 0, by rw [hv.out], hfin.out, fun _ => ⟨hN.out, rfl⟩, Below.refl _ _⟩
  · have g1 : decide (distI n d f t < 1) = false := by simp; omega
    have h1 : h ≠ 1 := by
      rintro rfl
      simp [pathOk, okH] at hok
      omega
    have g2 : (h != 1) = true := by simp [h1]
    by_cases h2 : h = 2
    · subst h2
      have g4 : decide (distI n d f t < 2) = true := by
        simp [pathOk, okH] at hok
        simp
        omega
      clear hok hD h1
      go_enter Tryd.func22, Tryd.ntmps22
      go_wp2_with fail
      refine (refDistance _ _ _ _ _ hd).mono ?_
      rintro e _ ⟨rfl, rfl⟩
      generalize distI n d f t = D at *
      go_wp2
      refine bodyPost_ret (v := .tuple #[.slice none 0 0, .bool false]) (by simp [results, Tryd.results22, go_sem]) rfl ⟨none, 0, by rw [hv.out], hfin.out, fun _ => ⟨hN.out, rfl⟩, Below.refl _ _⟩
    · have g3 : (h != 2) = true := by simp [h2]
      clear hok hD h1 h2
      go_enter Tryd.func22, Tryd.ntmps22
      go_wp2_with fail
      refine (refDistance _ _ _ _ _ hd).mono ?_
      rintro e _ ⟨rfl, rfl⟩
      generalize distI n d f t = D at *
      go_wp2
      refine bodyPost_ret (v := .tuple #[.slice none 0 0, .bool false]) (by simp [results, Tryd.results22, go_sem]) rfl ⟨none, 0, by rw [hv.out], hfin.out, fun _ => ⟨hN.out, rfl⟩, Below.refl _ _⟩
set_option maxHeartbeats 6000000 in
theorem refPath : ∀ (M : Nat) (w : World) (n d f t h : Int), 0 ≤ d → distI n d f t + 2 ≤ M → Calls Tryd.prog 22 #[.int .i64 n, .int .u8 d, .int .i64 f, .int .i64 t, .int .i64 h] w fun e w' =>
    ∃ a c, e = .returned (.tuple #[.slice a (pathN n d f t h) c, .bool (pathOk n d f t h)]) ∧ Rd .i64 w' a (pathN n d f t h) (pathL n d f t h) ∧ (a = none → pathN n d f t h = 0 ∧ c = 0) ∧ Below w.heap.size w w'
  | 0, w, n, d, f, t, h, hd, hM => absurd (@distI_ge n d f t) (by omega)
  | M + 1, w, n, d, f, t, h, hd, hM => by
    obtain ⟨i0, hf0, hz0, hz1, hz2⟩ := info_parts elemN
    cases hok : pathOk n d f t h with
    | false => exact refPath_no w n d f t h hd hok
    | true =>
      have ho : 0 < distI n d f t ∧ okH h = true ∧ h ≤ distI n d f t := by simpa [pathOk, and_assoc] using hok
      obtain ⟨hD0, hh, hhD⟩ := ho
      obtain ⟨hR, hF, hT, hDn⟩ := distI_le hD0
      have h16 := okR_true hR
      have hh2 := okH_true hh
      have g1 : decide (distI n d f t < 1) = false := by simp; omega
      have g4 : decide (distI n d f t < h) = false := by simp; omega
      by_cases heq : distI n d f t = h
      · have hN : pathN n d f t h = 0 := by rw [pathN, if_pos hok]; omega
        have hv : (.tuple #[.slice none (pathN n d f t h) 0, .bool true] : Value) = .tuple #[.slice none 0 0, .bool true] := by rw [hN]
        have hfin := Lib.hid (show Rd .i64 w none (pathN n d f t h) (pathL n d f t h) from fun i hi => absurd hi (by omega))
        have g5 : (distI n d f t == h) = true := by simp [heq]
        replace hv := Lib.hid hv
        replace hN := Lib.hid hN
        clear hok heq hM hD0 hhD
        rcases hh2 with rfl | rfl
        all_goals
          go_enter Tryd.func22, Tryd.ntmps22
          go_wp2_with fail
          refine (refDistance _ _ _ _ _ hd).mono ?_
          rintro e _ ⟨rfl, rfl⟩
          generalize distI n d f t = D at *
          go_wp2
          refine bodyPost_ret (v := .tuple #[.slice none 0 0, .bool true]) (by simp [results, Tryd.results22, go_sem]) rfl ⟨none, 0, by rw [hv.out], hfin.out, fun _ => ⟨hN.out, rfl⟩, Below.refl _ _⟩
      · have hlt : h < distI n d f t := by omega
        have g5 : (distI n d f t == h) = false := by simp [heq]
        obtain ⟨p1, p2, p3, p4⟩ := path_back hd hok hlt
        have hpb := back_at (h := h) hR hd hT
        have hdb := dist_back hd hh hD0 hlt
        have ih := refPath M
        have ew : IntKind.i64.wrap (distI n d f t - h) = distI n d f t - h := wrap_near _ (by omega) (by omega)
        have hN16 : pathN n d f t h ≤ 16 := by rw [pathN, if_pos hok]; omega
        replace ih := Lib.hid fun w => ih w n d f (fwdL n d t h 0) (lastH (distI n d f t - h)) hd (by rw [hdb]; omega)
        rw [p1] at ih
        clear hok heq hM hdb p1
        by_cases hl : distI n d f t - h = 1
        · have g6 : (distI n d f t - h == 1) = true := by simp [hl]
          have hlast : lastH (distI n d f t - h) = 1 := by simp [lastH, hl]
          rw [hlast] at ih p2 p3 p4
          clear hlast hl
          rcases hh2 with rfl | rfl
          all_goals
            go_enter Tryd.func22, Tryd.ntmps22
            go_wp2_with fail
            refine (refDistance _ _ _ _ _ hd).mono ?_
            rintro e _ ⟨rfl, rfl⟩
            generalize distI n d f t = D at *
            go_wp2_with fail
            refine (refOther _ _).mono ?_
            rintro e _ ⟨rfl, rfl⟩
            have ho2 := @other_in d
            go_wp2_with fail
            refine (refStep _ _ _ _ _ (by omega)).mono ?_
            rintro e _ ⟨rfl, rfl⟩
            rw [hpb]
            go_wp2_with fail
            refine (ih.out _).mono ?_
            rintro e w2 ⟨al, cl, rfl, hrd, hnil, hb⟩
            have hrd' := Lib.hid (hrd.congr p3)
            have hnil' := Lib.hid hnil
            have hs2 := hb.size
            have p4' := Lib.hid p4
            clear hrd hnil p3 hpb p4 ih
            rw [p2] at hN16
            generalize pathN n d f (fwdL n d t _ 0) _ = N1 at *
            generalize fwdL n d t _ 0 = z at *
            have p2' := Lib.hid p2
            clear p2
            go_wp2_with (at_builtin; refine append_src rfl _ _ 30 rfl w.heap.size 3 i0 (.int .i64 0) 8 Tryd.underlying30 hf0 hz0 hz1 hz2 rfl (.slice none 0 0) 0 [] rfl (World.ownsRow_nil _ _ _ _) al N1 cl (nums .i64 (pathL n d f t _) N1) rfl hnil'.out (nums_len _ _ _) (nums_news hrd'.out) (nums_one _ _ _) (by omega) (by omega) hs2 ?_)
            intro v3 w3 hown3 hg3 _
            try simp only [Nat.zero_add, List.nil_append] at hown3
            have hb3 := Below.grown hb hg3 hs2 (by simp [Value.ownBlock])
            have hown3' := Lib.hid hown3
            clear hown3 hg3
            go_wp2_with (at_builtin; refine append_one rfl _ _ 30 rfl w.heap.size 3 i0 (.int .i64 0) 8 Tryd.underlying30 hf0 hz0 hz1 hz2 rfl _ _ _ rfl hown3'.out _ rfl rfl (by omega) (by omega) hb3.size ?_)
            intro g c w4 hown4 hg4 hb4
            rw [← p4'.out, ← nums_succ] at hown4
            have hb5 := hb3.trans hb4
            have hown4' := Lib.hid hown4
            clear hown4 hg4 hb4
            go_wp2
            obtain ⟨al5, cl5, hal, c1, c2, c3, hm⟩ := own_mine hown4'.out
            simp only [Value.slice.injEq, true_and] at hal
            obtain ⟨rfl, rfl⟩ := hal
            refine bodyPost_ret (v := .tuple #[.slice (some ⟨g, 0, none⟩) (N1 + 1) c, .bool true]) (by simp [results, Tryd.results22, go_sem]) rfl ⟨_, c, by rw [p2'.out], by rw [p2'.out]; exact hm.rd, by rw [p2'.out]; exact c3, hb5⟩
        · have g6 : (distI n d f t - h == 1) = false := by simp [hl]
          have hlast : lastH (distI n d f t - h) = 2 := by simp [lastH, hl]
          rw [hlast] at ih p2 p3 p4
          clear hlast hl
          rcases hh2 with rfl | rfl
          all_goals
            go_enter Tryd.func22, Tryd.ntmps22
            go_wp2_with fail
            refine (refDistance _ _ _ _ _ hd).mono ?_
            rintro e _ ⟨rfl, rfl⟩
            generalize distI n d f t = D at *
            go_wp2_with fail
            refine (refOther _ _).mono ?_
            rintro e _ ⟨rfl, rfl⟩
            have ho2 := @other_in d
            go_wp2_with fail
            refine (refStep _ _ _ _ _ (by omega)).mono ?_
            rintro e _ ⟨rfl, rfl⟩
            rw [hpb]
            go_wp2_with fail
            refine (ih.out _).mono ?_
            rintro e w2 ⟨al, cl, rfl, hrd, hnil, hb⟩
            have hrd' := Lib.hid (hrd.congr p3)
            have hnil' := Lib.hid hnil
            have hs2 := hb.size
            have p4' := Lib.hid p4
            clear hrd hnil p3 hpb p4 ih
            rw [p2] at hN16
            generalize pathN n d f (fwdL n d t _ 0) _ = N1 at *
            generalize fwdL n d t _ 0 = z at *
            have p2' := Lib.hid p2
            clear p2
            go_wp2_with (at_builtin; refine append_src rfl _ _ 30 rfl w.heap.size 3 i0 (.int .i64 0) 8 Tryd.underlying30 hf0 hz0 hz1 hz2 rfl (.slice none 0 0) 0 [] rfl (World.ownsRow_nil _ _ _ _) al N1 cl (nums .i64 (pathL n d f t _) N1) rfl hnil'.out (nums_len _ _ _) (nums_news hrd'.out) (nums_one _ _ _) (by omega) (by omega) hs2 ?_)
            intro v3 w3 hown3 hg3 _
            try simp only [Nat.zero_add, List.nil_append] at hown3
            have hb3 := Below.grown hb hg3 hs2 (by simp [Value.ownBlock])
            have hown3' := Lib.hid hown3
            clear hown3 hg3
            go_wp2_with (at_builtin; refine append_one rfl _ _ 30 rfl w.heap.size 3 i0 (.int .i64 0) 8 Tryd.underlying30 hf0 hz0 hz1 hz2 rfl _ _ _ rfl hown3'.out _ rfl rfl (by omega) (by omega) hb3.size ?_)
            intro g c w4 hown4 hg4 hb4
            rw [← p4'.out, ← nums_succ] at hown4
            have hb5 := hb3.trans hb4
            have hown4' := Lib.hid hown4
            clear hown4 hg4 hb4
            go_wp2
            obtain ⟨al5, cl5, hal, c1, c2, c3, hm⟩ := own_mine hown4'.out
            simp only [Value.slice.injEq, true_and] at hal
            obtain ⟨rfl, rfl⟩ := hal
            refine bodyPost_ret (v := .tuple #[.slice (some ⟨g, 0, none⟩) (N1 + 1) c, .bool true]) (by simp [results, Tryd.results22, go_sem]) rfl ⟨_, c, by rw [p2'.out], by rw [p2'.out]; exact hm.rd, by rw [p2'.out]; exact c3, hb5⟩
end Go.Proofs.YtodmkbbfmojifaaDoor
