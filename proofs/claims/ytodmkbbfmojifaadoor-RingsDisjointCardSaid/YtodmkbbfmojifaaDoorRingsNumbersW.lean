/- RingsNumbers: the walk. -/
import Derived.Test.YtodmkbbfmojifaaDoorRingsRoundW
namespace Go.Proofs.YtodmkbbfmojifaaDoor
open Go.RowKit
set_option linter.unusedSimpArgs false
set_option linter.unusedVariables false
set_option maxRecDepth 100000
theorem number_facts {m k : Int} (h : 4 ≤ m ∧ m ≤ 16) (hk : 0 ≤ k ∧ k < 4 * m) :
    linkI m (endD m k) (endF m k) (endH m k) = k ∧ srcI m (endD m k) (endT m k) (endH m k) = endF m k ∧ stepI m (endD m k) (endF m k) (endH m k) = endT m k ∧ endF m k ≠ endT m k ∧ 0 ≤ endD m k := by
  have he : okE m k = true := by simp [okE, okR]; omega
  have e1 : endF m k = k / 4 := by simp [endF, he]
  have e2 : endD m k = k % 4 / 2 := by simp [endD, he]
  have e3 : endH m k = k % 2 + 1 := by simp [endH, he]
  have e4 : endT m k = stepI m (k % 4 / 2) (k / 4) (k % 2 + 1) := by simp [endT, he]
  have hd : 0 ≤ endD m k := by omega
  have hf : 0 ≤ endF m k := by omega
  refine ⟨(linkI_iff hd hk.1).2 ⟨hf, rfl, rfl, rfl⟩, srcI_of_srcK hd hk.1 ((srcK_iff hd hk.1).2 ⟨hf, rfl, rfl, rfl⟩), by rw [e1, e2, e3, e4], ?_, hd⟩
  rw [e1, e4, step_ok h (by omega) (by omega)]
  clear e1 e2 e3 e4 hd hf he
  have ha : 0 ≤ k / 4 ∧ k / 4 < m := by omega
  have hd2 : k % 4 / 2 = 0 ∨ k % 4 / 2 = 1 := by omega
  have hh : k % 2 + 1 = 1 ∨ k % 2 + 1 = 2 := by omega
  generalize k / 4 = a at *
  generalize k % 4 / 2 = d at *
  generalize k % 2 + 1 = q at *
  clear hk
  rcases sizes h.1 h.2 with rfl | rfl | rfl | rfl | rfl | rfl | rfl | rfl | rfl | rfl | rfl | rfl | rfl <;> rcases hd2 with rfl | rfl <;> rcases hh with rfl | rfl <;> simp only [sgn] <;> simp <;> omega
def InvNum3 (w : World) (n m : Int) (M : Nat) (k : Nat) (a : Act) (wr : World) : Prop :=
  ∃ i : Nat, i + k = M ∧ Below w.heap.size w wr ∧ a.tmps.size = 96 ∧ a.defers = [] ∧ slot a 0 = .int .u8 n ∧ slot a 3 = .int .i64 m ∧ slot a 4 = .int .i64 i
set_option maxHeartbeats 8000000 in
theorem ringsNumbers_any (w : World) (n : Int) (hs : Signs w) (hn : 0 ≤ n ∧ n < 256) :
    Calls Tryd.prog 8 #[.int .u8 n] w fun e w' => e = .returned (.bool true) ∧ Below w.heap.size w w' := by
  have P0 : Hid (∀ W, Calls Tryd.prog 28 #[.int .u8 n] W fun e w' => e = .returned (.int .i64 (nodesI n)) ∧ W = w') := fun W => lawNodes W n hn.1 hn.2
  have hm := @nodesI_in n
  generalize nodesI n = m at *
  obtain ⟨M, hM⟩ : ∃ M : Nat, 4 * m = M := ⟨(4 * m).toNat, by omega⟩
  have um : IntKind.i64.wrap (4 * m) = M := by rw [wrap_near _ (by omega) (by omega), hM]
  go_enter Tryd.func8, Tryd.ntmps8
  go_wp2_with fail
  refine (P0.out _).mono ?_
  rintro e _ ⟨rfl, rfl⟩
  go_wp2
  refine wp_loop_k (InvNum3 w n m M) M ?_ ?_
  · exact ⟨0, by omega, Below.refl _ _, by kernel_rfl, rfl, by kernel_rfl, by kernel_rfl, by kernel_rfl⟩
  · intro gk a wr hI K hK
    obtain ⟨i, hi, hb, hs', hd', k0', k3', k4'⟩ := hI
    rw [fr96 a hs' hd']; simp only [k0', k3', k4']; clear hs' hd' k0' k3' k4'
    have hs' := hs.to hb
    by_cases hlt : i < M
    · have g1 : decide ((i : Int) < (M : Int)) = true := by simp; omega
      have ui : IntKind.i64.wrap ((i : Int) + 1) = ((i + 1 : Nat) : Int) := wrap_near _ (by omega) (by omega)
      obtain ⟨v1, v2, v3, v4, v5⟩ := number_facts (k := (i : Int)) hm (by omega)
      replace v1 := Lib.hid v1
      replace v2 := Lib.hid v2
      replace v3 := Lib.hid v3
      have g2 : (endF m i == endT m i) = false := by simp [v4]
      clear v4
      have P6 : Hid (Calls Tryd.prog 15 #[.int .i64 m, .int .i64 i] wr fun e w' => e = .returned (endsV m i) ∧ ∃ q, w' = wr.drewN q) := ringsEnds wr m i hs'
      simp only [endsV] at P6
      generalize endF m i = z3 at *
      generalize endT m i = z4 at *
      generalize endD m i = z5 at *
      generalize endH m i = z6 at *
      go_wp2_with fail
      refine P6.out.mono ?_
      rintro e w2 ⟨rfl, q2, rfl⟩
      have b2 := below_drewN wr q2
      generalize wr.drewN q2 = w2 at *
      go_wp2_with fail
      refine (ringsLink _ _ _ _ _ v5).mono ?_
      rintro e _ ⟨rfl, rfl⟩
      rw [v1.out]
      go_wp2_with fail
      refine (ringsSource _ _ _ _ _ (hs'.to b2) v5).mono ?_
      rintro e w3 ⟨rfl, q3, rfl⟩
      rw [v2.out]
      replace b2 := bthen b2 (below_drewN w2 q3)
      generalize w2.drewN q3 = w3 at *
      go_wp2_with fail
      refine (ringsStep _ _ _ _ _ (hs'.to b2) v5).mono ?_
      rintro e w4 ⟨rfl, q4, rfl⟩
      rw [v3.out]
      replace b2 := bthen b2 (below_drewN w3 q4)
      generalize w3.drewN q4 = w4 at *
      go_wp2
      exact hK (M - (i + 1)) _ _ (by omega) ⟨i + 1, by omega, bthen hb b2, by kernel_rfl, rfl, by kernel_rfl, by kernel_rfl, by kernel_rfl⟩
    · obtain rfl : i = M := by omega
      have g1 : decide ((i : Int) < (i : Int)) = false := by simp
      have hv := endsV_bad (n := m) (k := i) (by simp [okE, okR]; omega)
      replace hv := Lib.hid hv
      have a1 := Lib.hid (show linkI m 0 m 1 = -1 by simp [linkI, inR])
      have a2 := Lib.hid (show linkI m 0 0 3 = -1 by simp [linkI, okH])
      go_wp2_with fail
      refine (ringsEnds _ _ _ hs').mono ?_
      rintro e w2 ⟨rfl, q2, rfl⟩
      rw [hv.out]
      have b2 := below_drewN wr q2
      generalize wr.drewN q2 = w2 at *
      go_wp2_with fail
      refine (ringsLink _ m 0 m 1 (by decide)).mono ?_
      rintro e _ ⟨rfl, rfl⟩
      rw [a1.out]
      go_wp2_with fail
      refine (ringsLink _ m 0 0 3 (by decide)).mono ?_
      rintro e _ ⟨rfl, rfl⟩
      rw [a2.out]
      go_wp2_with fail
      refine (lives03 _ (hs'.to b2)).mono ?_
      rintro e wx ⟨rfl, hbL⟩
      go_wp2_with fail
      go_ret
      exact ⟨rfl, bthen (bthen hb b2) hbL⟩
end Go.Proofs.YtodmkbbfmojifaaDoor
