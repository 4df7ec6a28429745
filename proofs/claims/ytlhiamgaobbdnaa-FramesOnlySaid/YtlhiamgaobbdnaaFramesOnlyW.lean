/- FramesOnly: the plain law, the walk. -/
import Derived.Test.YtlhiamgaobbdnaaFramesL
namespace Go.Proofs.Ytlhiamgaobbdnaa
open Go.RowKit
set_option linter.unusedSimpArgs false
set_option linter.unusedVariables false
set_option maxRecDepth 100000
theorem tailB_num {B : Nat → Int} (h : ∀ i, i < 4 → 0 ≤ B i ∧ B i < 256) : ∀ j, j < 4 → tailB (numU B 4) j = B j := fun j hj => by
  have h0 := h 0 (by omega)
  have h1 := h 1 (by omega)
  have h2 := h 2 (by omega)
  have h3 := h 3 (by omega)
  have e : numU B 4 = ((B 0).toNat * 256 + (B 1).toNat) * 65536 + ((B 2).toNat * 256 + (B 3).toNat) := by
    simp only [numU]
    omega
  have e0 : (2 : Nat) ^ (8 * (3 - 0)) = 16777216 := by decide
  have e1 : (2 : Nat) ^ (8 * (3 - 1)) = 65536 := by decide
  have e2 : (2 : Nat) ^ (8 * (3 - 2)) = 256 := by decide
  have e3 : (2 : Nat) ^ (8 * (3 - 3)) = 1 := by decide
  rw [e, tailB]
  obtain rfl | rfl | rfl | rfl : j = 0 ∨ j = 1 ∨ j = 2 ∨ j = 3 := by omega
  · rw [e0]; omega
  · rw [e1]; omega
  · rw [e2]; omega
  · rw [e3]; omega
theorem numU_lt' (L : Nat → Int) : ∀ n, (∀ i, i < n → 0 ≤ L i ∧ L i < 256) → numU L n < 4294967296
  | 0, _ => by simp [numU]
  | i + 1, h => by
    have := h i (by omega)
    simp only [numU]
    omega
/-- What is got is put as the same bytes. -/
theorem got_put {L : Nat → Int} (hL : ∀ i, i < 14 → 0 ≤ L i ∧ L i < 256) (hok : okS L 14 = true) : ∀ i, i < 14 → frL (L 0 % 16) (L 0 / 16) (L 1) (sqOf L) (vlOf L) i = L i := fun i hi => by
  have hh : ∀ j, j < 10 → headL (16 * (L 0 / 16) + L 0 % 16) (L 1) (sqOf L).toNat (vlOf L).toNat j = L j := fun j hj => by
    have e1 : (sqOf L).toNat = numU (fun i => L (2 + i)) 4 := by simp [sqOf]
    have e2 : (vlOf L).toNat = numU (fun i => L (6 + i)) 4 := by simp [vlOf]
    rw [e1, e2, headL, appL]
    split
    · rw [appL]
      split
      · rcases j with _ | _ | j
        · simp only [at2]; omega
        · rfl
        · omega
      · rw [tailB_num (fun i hi => hL (2 + i) (by omega)) _ (by omega)]
        congr 1
        omega
    · rw [tailB_num (fun i hi => hL (6 + i) (by omega)) _ (by omega)]
      congr 1
      omega
  rw [frL, putS_congr hh]
  simp only [okS, Bool.and_eq_true] at hok
  exact alikeB_true.1 hok.2 i hi
theorem getE_cases (L : Nat → Int) (n : Nat) : (getE L n = 0 ∧ n = 14 ∧ okS L 14 = true ∧ mayB (L 0 % 16) (L 0 / 16) = true) ∨ getE L n = 4 ∨ (getE L n = 5 ∧ n = 14) := by
  unfold getE
  by_cases h : n = 14
  · cases h1 : okS L 14 <;> cases h2 : mayB (L 0 % 16) (L 0 / 16) <;> simp [h]
  · simp [h]
set_option maxHeartbeats 2000000 in
theorem framesOnly_any (w : World) (ao : Option Addr) (n c : Nat) (L : Nat → Int) (ha : Prt w ao n c L) :
    Calls Try.prog 5 #[.slice ao n c] w fun e w' => e = .returned (.bool true) ∧ Below w.heap.size w w' := by
  replace ha := Lib.hid ha
  by_cases hn : n ≤ 100
  · have hn1 : decide ((100 : Int) < (n : Int)) = false := by simp; omega
    have G := Lib.hid (frGet w ao n c L ha.out.1 ha.out.2.1 ha.out.2.2 (by omega))
    rcases getE_cases L n with ⟨hE, rfl, hok, hm⟩ | hE | ⟨hE, rfl⟩
    · have hV : getV L 14 = frV (L 0 % 16) (L 0 / 16) (L 1) (sqOf L) (vlOf L) := by simp [getV, hE]
      rw [hE, hV] at G
      have hb0 := ha.out.2.2 0 (by omega)
      have hb1 := ha.out.2.2 1 (by omega)
      have hgp := Lib.hid (got_put ha.out.2.2 hok)
      have hs1 : 0 ≤ sqOf L ∧ sqOf L < 4294967296 := by
        have := numU_lt' (fun i => L (2 + i)) 4 (fun i hi => ha.out.2.2 (2 + i) (by omega))
        unfold sqOf
        omega
      have hs2 : 0 ≤ vlOf L ∧ vlOf L < 4294967296 := by
        have := numU_lt' (fun i => L (6 + i)) 4 (fun i hi => ha.out.2.2 (6 + i) (by omega))
        unfold vlOf
        omega
      have hl : lenF (L 0 % 16) (L 0 / 16) = 14 := by simp [lenF, hm]
      have he : errF (L 0 % 16) (L 0 / 16) = 0 := by simp [errF, hm]
      have P := Lib.hid (fun W => frPut W (L 0 % 16) (L 0 / 16) (L 1) (sqOf L) (vlOf L) (by omega) hb1 hs1 hs2)
      rw [hl, he] at P
      clear hE hV hok hm hl he
      simp only [frV] at G
      go_enter Try.func5, Try.ntmps5
      go_wp2_with fail
      refine G.out.mono ?_
      rintro e w1 ⟨rfl, hb1⟩
      go_wp2_with fail
      refine calls_abs (fun W => Below w1.heap.size w1 W) (below_alloc _ _) ?_
      rintro w2 hb2
      refine (P.out w2).mono ?_
      rintro e w3 ⟨a3, rfl, m3, hb3⟩
      have hb03 := bthen (bthen hb1 hb2) hb3
      have x3 := Lib.hid (m3.rd.congr hgp.out)
      clear m3
      go_wp2_with fail
      refine (sameBytes _ _ _ _ _ _ _ (ha.out.1.below hb03 (Nat.le_refl _)) x3.out (by omega)).mono ?_
      rintro e w4 ⟨rfl, q4, rfl⟩
      have hb04 := bthen hb03 (below_drewN w3 q4)
      generalize w3.drewN q4 = w4 at *
      go_wp2_with fail
      refine (lives05 _).mono ?_
      rintro e wx ⟨rfl, hbL⟩
      go_wp2_with fail
      go_ret
      exact ⟨rfl, bthen hb04 hbL⟩
    · have hV : getV L n = frV 0 0 0 0 0 := by simp [getV, hE]
      rw [hE, hV] at G
      clear hE hV
      simp only [frV] at G
      go_enter Try.func5, Try.ntmps5
      go_wp2_with fail
      refine G.out.mono ?_
      rintro e w1 ⟨rfl, hb1⟩
      go_wp2_with fail
      refine (lives05 _).mono ?_
      rintro e wx ⟨rfl, hbL⟩
      go_wp2_with fail
      go_ret
      exact ⟨rfl, bthen (bthen hb1 (below_alloc _ _)) hbL⟩
    · have hV : getV L 14 = frV 0 0 0 0 0 := by simp [getV, hE]
      rw [hE, hV] at G
      clear hE hV
      simp only [frV] at G
      go_enter Try.func5, Try.ntmps5
      go_wp2_with fail
      refine G.out.mono ?_
      rintro e w1 ⟨rfl, hb1⟩
      go_wp2_with fail
      refine (lives05 _).mono ?_
      rintro e wx ⟨rfl, hbL⟩
      go_wp2_with fail
      go_ret
      exact ⟨rfl, bthen (bthen hb1 (below_alloc _ _)) hbL⟩
  · have hn1 : decide ((100 : Int) < (n : Int)) = true := by simp; omega
    go_enter Try.func5, Try.ntmps5
    go_wp2_with fail
    refine (lives05 _).mono ?_
    rintro e wx ⟨rfl, hbL⟩
    go_wp2_with fail
    go_ret
    exact ⟨rfl, hbL⟩
end Go.Proofs.Ytlhiamgaobbdnaa
