/- Sums: Check. -/
import Derived.Test.YtbfbpagfmhdblaaSumsD
namespace Go.Proofs.Ytbfbpagfmhdblaa
open Go.RowKit
set_option linter.unusedSimpArgs false
set_option linter.unusedVariables false
set_option maxRecDepth 100000
/-- Whether n bytes L are summed, and how many there are ahead of the sum. -/
def okS (L : Nat → Int) (n : Nat) : Bool := decide (4 ≤ n) && alikeB (putS L (n - 4)) L n
def cntS (L : Nat → Int) (n : Nat) : Nat := if okS L n then n - 4 else 0
theorem putS_congr {L L' : Nat → Int} {n : Nat} (h : ∀ i, i < n → L i = L' i) (i : Nat) : putS L n i = putS L' n i := by
  unfold putS
  split
  · exact h i (by assumption)
  · rw [sumN_congr h]
set_option maxHeartbeats 1000000 in
theorem sumsCheck (w : World) (ao : Option Addr) (n c : Nat) (L : Nat → Int) (ha : Rd .u8 w ao n L) (hnil : NilOk ao n c) (hL : ∀ i, i < n → 0 ≤ L i ∧ L i < 256) (hn : n ≤ 900000) :
    Calls Try.prog 66 #[.slice ao n c] w fun e w' => ∃ a, e = .returned (.tuple #[.slice a (cntS L n) (cntS L n), .bool (okS L n)]) ∧ Mine .u8 5 w.heap.size w' a (cntS L n) L ∧ Below w.heap.size w w' := by
  replace ha := Lib.hid ha
  replace hL := Lib.hid hL
  by_cases h4 : 4 ≤ n
  · have g1 : decide ((n : Int) < 4) = false := by simp; omega
    obtain ⟨m, rfl⟩ : ∃ m, n = m + 4 := ⟨n - 4, by omega⟩
    have u1 : IntKind.i64.wrap (((m + 4 : Nat) : Int) - 4) = (m : Int) := by rw [wrap_i64_small _ (by omega) (by omega)]; omega
    have hmc : m ≤ c := by have := hnil.1; omega
    have hmm : (m : Int) ≤ (c : Int) := by omega
    have hcx := hnil.2.1
    have hm9 : m ≤ 900000 := by omega
    have hn0 : ao = none → m = 0 ∧ c = 0 := fun e => by have := hnil.2.2 e; omega
    have hn0' := Lib.hid hn0
    have hok : Hid (okS L (m + 4) = alikeB (putS L m) L (m + 4)) := by show okS L (m + 4) = _; simp [okS]
    have hcn : Hid (cntS L (m + 4) = if alikeB (putS L m) L (m + 4) then m else 0) := by show cntS L (m + 4) = _; rw [cntS, hok.out]; simp
    have ham := Lib.hid (show Rd .u8 w ao m L from fun i hi => ha.out i (by omega))
    clear hnil hn0
    rw [hok.out, hcn.out]
    generalize hK4 : m + 4 = n4 at *
    replace hK4 := Lib.hid hK4
    go_enter Try.func66, Try.ntmps66
    go_wp2_with fail
    refine (cloneB w ao m c L ham.out hn0'.out (by omega)).mono ?_
    rintro e w1 ⟨v, rfl, hown, hb⟩
    obtain ⟨a1, c1, rfl, hc1, hcm, hnil, hm⟩ := own_mine hown
    have hm' := Lib.hid hm
    have hb' := Lib.hid hb
    clear hown hm hb
    go_wp2_with fail
    refine (clipB _ _ _ _ hc1 hcm).mono ?_
    rintro e _ ⟨rfl, rfl⟩
    go_wp2_with fail
    refine calls_abs (fun W => Below w1.heap.size w1 W ∧ W.cell? ⟨w1.heap.size, 0, none⟩ = some (.slice a1 m m)) ⟨below_alloc _ _, (Blk.new _ _ _).cell rfl⟩ ?_
    rintro w2 ⟨hb2, hcell⟩
    have hP := parts_one hcell (hm'.out.rd.below hb2 (Nat.le_refl _)) ⟨Nat.le_refl _, by omega, hm'.out.none⟩ (fun i hi => hL.out i (by have := hK4.out; omega))
    have P2 := sumsPut w2 _ _ 1 _ _ _ _ hP (by omega) (by rw [catN_one]; omega)
    rw [catN_one] at P2
    refine P2.mono ?_
    clear P2 hP hcell
    rintro e w3 ⟨a3, rfl, hm3, hb3⟩
    have hm3' := Lib.hid (hm3.congr (L' := putS L m) fun i _ => putS_congr (fun i _ => catL_one m L i) i)
    have hb4 := Lib.hid (hb2.trans (hb3.mono hb2.size))
    have hbA := Lib.hid (bthen hb'.out hb4.out)
    clear hm3 hb3 hb2
    have e4 := hK4.out
    rw [e4]
    go_wp2_with fail
    refine (equalBytes w3 a3 ao n4 n4 n4 c (putS L m) L (e4 ▸ hm3'.out.rd) (ha.out.below hbA.out (Nat.le_refl _)) (by omega)).mono ?_
    rintro e w4 ⟨rfl, q4, rfl⟩
    have hnn : (decide (n4 = n4) && alikeB (putS L m) L n4) = alikeB (putS L m) L n4 := by simp
    rw [hnn]
    have hm5 := Lib.hid ((hm'.out.below hb4.out (Nat.le_refl _)).below (bdrewN (Below.refl _ w3) q4) (Nat.le_refl _))
    have hb5 := Lib.hid (bdrewN hbA.out q4)
    generalize w3.drewN q4 = w5 at *
    cases hb : alikeB (putS L m) L n4 with
    | true =>
      go_wp2
      refine bodyPost_ret (v := .tuple #[.slice a1 m m, .bool true]) (by simp [results, Try.results66, go_sem]) rfl ⟨a1, rfl, hm5.out, hb5.out⟩
    | false =>
      go_wp2
      all_goals refine bodyPost_ret (v := .tuple #[.slice none 0 0, .bool false]) (by simp [results, Try.results66, go_sem]) rfl ⟨none, rfl, Mine.nil _ _ _ _ _ _, hb5.out⟩
  · have g1 : decide ((n : Int) < 4) = true := by simp; omega
    have hok : okS L n = false := by simp [okS, h4]
    have hcn : cntS L n = 0 := by simp [cntS, hok]
    rw [hok, hcn]
    clear h4 hnil hok hcn
    go_enter Try.func66, Try.ntmps66
    go_wp2
    refine bodyPost_ret (v := .tuple #[.slice none 0 0, .bool false]) (by simp [results, Try.results66, go_sem]) rfl ⟨none, rfl, Mine.nil _ _ _ _ _ _, Below.refl _ _⟩
end Go.Proofs.Ytbfbpagfmhdblaa
