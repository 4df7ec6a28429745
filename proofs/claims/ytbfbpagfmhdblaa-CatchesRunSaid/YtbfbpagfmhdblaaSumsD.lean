/- Sums: Concat, Put, Check. -/
import Derived.Test.YtbfbpagfmhdblaaSumsC
namespace Go.Proofs.Ytbfbpagfmhdblaa
open Go.RowKit
set_option linter.unusedSimpArgs false
set_option linter.unusedVariables false
set_option maxRecDepth 100000
theorem own_below {w w' : World} {B B' : Nat} {E : TypeId} {v : Value} {n : Nat} {xs : List Value} (h : w.ownsRow B E 1 v n xs) (hb : Below B' w w') (hB : w.heap.size ≤ B') : w'.ownsRow B E 1 v n xs := by
  refine ⟨h.1, ?_⟩
  rcases h.2 with h2 | ⟨g, cap, cur, h1, h2, h3, h4⟩
  · exact .inl h2
  · exact .inr ⟨g, cap, cur, h1, h2, (hb.block g (Nat.lt_of_lt_of_le (Array.getElem?_eq_some_iff.1 h3).1 hB)).trans h3, h4⟩
def InvCat1 (w : World) (ap : Option Addr) (K cp : Nat) (PN : Nat → Nat) (k : Nat) (a : Act) (wr : World) : Prop :=
  ∃ i : Nat, i + k = K ∧ wr = w ∧ a.tmps.size = 36 ∧ a.defers = [] ∧ slot a 0 = .slice ap K cp ∧ slot a 3 = .int .i64 (catN PN i : Nat) ∧ slot a 9 = .slice ap K cp ∧ slot a 10 = .int .i64 K ∧ slot a 11 = .int .i64 i
def InvCat2 (w : World) (ap : Option Addr) (K cp : Nat) (PN : Nat → Nat) (PL : Nat → Nat → Int) (k : Nat) (a : Act) (wr : World) : Prop :=
  ∃ (i : Nat) (v : Value), i + k = K ∧ Below w.heap.size w wr ∧ wr.ownsRow w.heap.size 5 1 v (catN PN i) (nums .u8 (catL PN PL i) (catN PN i)) ∧ a.tmps.size = 36 ∧ a.defers = [] ∧ slot a 6 = v ∧ slot a 25 = .slice ap K cp ∧ slot a 26 = .int .i64 K ∧ slot a 27 = .int .i64 i
set_option maxHeartbeats 1000000 in
/-- slices.Concat. -/
theorem concatB (w : World) (ap : Option Addr) (K cp : Nat) (PA : Nat → Option Addr) (PN PC : Nat → Nat) (PL : Nat → Nat → Int) (h : Parts w ap K PA PN PC PL) (hK : K ≤ 1000) (hN : catN PN K ≤ 1000000) :
    Calls Try.prog 84 #[.slice ap K cp] w fun e w' => ∃ v, e = .returned v ∧ w'.ownsRow w.heap.size 5 1 v (catN PN K) (nums .u8 (catL PN PL K) (catN PN K)) ∧ Below w.heap.size w w' := by
  obtain ⟨i0, hi0, hz0, hz1, hz2⟩ := info_parts elemHBytes
  replace h := Lib.hid h
  go_enter Try.func84, Try.ntmps84
  go_wp2
  refine wp_loop_k (InvCat1 w ap K cp PN) K ?_ ?_
  · exact ⟨0, by omega, rfl, by kernel_rfl, rfl, by kernel_rfl, by kernel_rfl, by kernel_rfl, by kernel_rfl, by kernel_rfl⟩
  · intro gk a wr hI K1 hK1
    obtain ⟨i, hi, rfl, hs', hd', k0', k3', k9', k10', k11'⟩ := hI
    rw [fr36 a hs' hd']; simp only [k0', k3', k9', k10', k11']; clear hs' hd' k0' k3' k9' k10' k11'
    by_cases hlt : i < K
    · have g1 : decide ((i : Int) < (K : Int)) = true := by simp; omega
      obtain ⟨b, o, rfl, hc, hr, hnl, hL⟩ := h.out i hlt
      have hcat := catN_mono (PN := PN) (show i + 1 ≤ K by omega)
      have hPN : catN PN (i + 1) = catN PN i + PN i := rfl
      have ui : IntKind.i64.wrap ((i : Int) + 1) = ((i + 1 : Nat) : Int) := wrap_i64_small _ (by omega) (by omega)
      have us : IntKind.i64.wrap ((catN PN i : Int) + (PN i : Int)) = ((catN PN (i + 1) : Nat) : Int) := by rw [wrap_i64_small _ (by omega) (by omega)]; omega
      have g2 : decide (((catN PN (i + 1) : Nat) : Int) < 0) = false := by simp <;> omega
      generalize catN PN (i + 1) = s1 at *
      have hs1 : Hid (s1 = catN PN (i + 1)) := hPN
      clear hr hL hnl hPN hcat
      go_wp2
      exact hK1 (K - (i + 1)) _ _ (by omega) ⟨i + 1, by omega, rfl, by kernel_rfl, rfl, by kernel_rfl, by show Value.int _ _ = Value.int _ _; rw [hs1.out], by kernel_rfl, by kernel_rfl, by kernel_rfl⟩
    · obtain rfl : K = i := by omega
      have g1 : decide ((K : Int) < (K : Int)) = false := by simp
      go_wp2_with fail
      refine (growB _ _ hN).mono ?_
      rintro e w1 ⟨v, rfl, hown, hb⟩
      have hown' := Lib.hid hown
      have hb' := Lib.hid hb
      clear hown hb
      go_wp2
      refine wp_loop_k (InvCat2 wr ap K cp PN PL) K ?_ ?_
      · exact ⟨0, v, by omega, hb'.out, hown'.out, by kernel_rfl, rfl, by kernel_rfl, by kernel_rfl, by kernel_rfl, by kernel_rfl⟩
      · clear hown' hb' g1
        clear v w1 hlt hi
        intro gk2 a w2 hI K2 hK2
        obtain ⟨i, v, hi, hb, hown, hs', hd', k6', k25', k26', k27'⟩ := hI
        rw [fr36 a hs' hd']; simp only [k6', k25', k26', k27']; clear hs' hd' k6' k25' k26' k27'
        by_cases hlt : i < K
        · have g1 : decide ((i : Int) < (K : Int)) = true := by simp; omega
          obtain ⟨b, o, rfl, hc, hr, hnl, hL⟩ := h.out i hlt
          have hcat := catN_mono (PN := PN) (show i + 1 ≤ K by omega)
          have hPN : catN PN (i + 1) = catN PN i + PN i := rfl
          have ui : IntKind.i64.wrap ((i : Int) + 1) = ((i + 1 : Nat) : Int) := wrap_i64_small _ (by omega) (by omega)
          have hc2 := below_cell hc hb (World.block_lt_of_cell? wr _ hc)
          have hr2 := hr.below hb (Nat.le_refl _)
          have hnews := nums_news hr2
          have hown' := Lib.hid hown
          have hb' := Lib.hid hb
          have hnews' := Lib.hid hnews
          have hnl' := Lib.hid hnl
          have hPN' := Lib.hid hPN
          have hcat' := Lib.hid hcat
          clear hr hL hnl hPN hcat hc hr2 hnews hb hown
          go_wp2_with (at_builtin; refine append_src rfl _ _ 29 rfl wr.heap.size 5 i0 (.int .u8 0) 1 Try.underlying29 hi0 hz0 hz1 hz2 rfl _ _ _ rfl hown'.out (PA i) (PN i) (PC i) (nums .u8 (PL i) (PN i)) rfl hnl'.out.2.2 (nums_len _ _ _) hnews'.out (nums_one _ _ _) (by have := hcat'.out; have := hPN'.out; omega) (by have := hcat'.out; have := hPN'.out; omega) hb'.out.size ?_)
          intro v1 w3 hown1 hg1 _
          have hb3 := hb'.out.trans (Below.grown (Below.refl _ _) hg1 hb'.out.size (fun k hk => (hown'.out.lt k hk).1))
          rw [nums_app] at hown1
          have hown2 := Lib.hid hown1
          have hb4 := Lib.hid hb3
          clear hown1 hg1 hb3 hown' hb'
          go_wp2
          exact hK2 (K - (i + 1)) _ _ (by omega) ⟨i + 1, v1, by omega, hb4.out, hown2.out, by kernel_rfl, rfl, by kernel_rfl, by kernel_rfl, by kernel_rfl, by kernel_rfl⟩
        · obtain rfl : i = K := by omega
          have g1 : decide ((i : Int) < (i : Int)) = false := by simp
          have hown' := Lib.hid hown
          have hb' := Lib.hid hb
          clear hown hb
          go_wp2
          go_ret
          exact ⟨_, rfl, hown'.out, hb'.out⟩
theorem tail_at (L : Nat → Int) (n : Nat) (s : Nat) (hs : sumN L n = s) : nums .u8 L n ++ [.int .u8 (tailB s 0), .int .u8 (tailB s 1), .int .u8 (tailB s 2), .int .u8 (tailB s 3)] = nums .u8 (putS L n) (n + 4) := by
  have e : nums .u8 L n = nums .u8 (putS L n) n := nums_congr fun i hi => by simp [putS, hi]
  rw [e, show n + 4 = n + 1 + 1 + 1 + 1 from rfl, nums_succ, nums_succ, nums_succ, nums_succ]
  have h0 : putS L n n = tailB s 0 := by simp [putS, hs]
  have h1 : putS L n (n + 1) = tailB s 1 := by rw [putS, if_neg (by omega), hs]; congr 1; omega
  have h2 : putS L n (n + 1 + 1) = tailB s 2 := by rw [putS, if_neg (by omega), hs]; congr 1; omega
  have h3 : putS L n (n + 1 + 1 + 1) = tailB s 3 := by rw [putS, if_neg (by omega), hs]; congr 1; omega
  rw [h0, h1, h2, h3]
  simp
theorem tail_u8 (s : Nat) (hs : s < 4294967296) : IntKind.u8.wrap ((s : Int) / 16777216) = tailB s 0 ∧ IntKind.u8.wrap ((s : Int) / 65536) = tailB s 1 ∧ IntKind.u8.wrap ((s : Int) / 256) = tailB s 2 ∧ IntKind.u8.wrap (s : Int) = tailB s 3 := by
  have e0 : (2 : Nat) ^ (8 * (3 - 0)) = 16777216 := by decide
  have e1 : (2 : Nat) ^ (8 * (3 - 1)) = 65536 := by decide
  have e2 : (2 : Nat) ^ (8 * (3 - 2)) = 256 := by decide
  have e3 : (2 : Nat) ^ (8 * (3 - 3)) = 1 := by decide
  refine ⟨?_, ?_, ?_, ?_⟩ <;> rw [IntKind.wrap_u8, tailB] <;> simp only [e0, e1, e2, e3] <;> omega
set_option maxHeartbeats 1000000 in
/-- Put. -/
theorem sumsPut (w : World) (ap : Option Addr) (K cp : Nat) (PA : Nat → Option Addr) (PN PC : Nat → Nat) (PL : Nat → Nat → Int) (h : Parts w ap K PA PN PC PL) (hK : K ≤ 1000) (hN : catN PN K ≤ 900000) :
    Calls Try.prog 53 #[.slice ap K cp] w fun e w' => ∃ a, e = .returned (.slice a (catN PN K + 4) (catN PN K + 4)) ∧ Mine .u8 5 w.heap.size w' a (catN PN K + 4) (putS (catL PN PL K) (catN PN K)) ∧ Below w.heap.size w w' := by
  obtain ⟨i0, hi0, hz0, hz1, hz2⟩ := info_parts elemHBytes
  have hL := catL_byte (PN := PN) (PL := PL) (k := K) fun i hi => by
    obtain ⟨_, _, _, _, _, _, h4⟩ := h i hi
    exact h4
  replace h := Lib.hid h
  replace hL := Lib.hid hL
  have P1 := Lib.hid (concatB w ap K cp PA PN PC PL h.out hK (by omega))
  generalize catN PN K = n at *
  generalize catL PN PL K = L at *
  clear h hK
  go_enter Try.func53, Try.ntmps53
  go_wp2_with fail
  refine P1.out.mono ?_
  rintro e w1 ⟨v, rfl, hown, hb⟩
  obtain ⟨a1, c1, rfl, hc1, hcm, hnil, hm⟩ := own_mine hown
  have hown' := Lib.hid hown
  have hm' := Lib.hid hm
  have hb' := Lib.hid hb
  have hnl : Hid (NilOk a1 n c1) := ⟨hc1, hcm, hnil⟩
  clear hown hm hb hnil P1
  go_wp2_with fail
  refine calls_abs (fun W => Below w1.heap.size w1 W ∧ W.cell? ⟨w1.heap.size, 0, none⟩ = some (.slice a1 n c1)) ⟨below_alloc _ _, (Blk.new _ _ _).cell rfl⟩ ?_
  rintro w2 ⟨hb2, hcell⟩
  have hP := parts_one hcell (hm'.out.rd.below hb2 (Nat.le_refl _)) hnl.out hL.out
  have P2 := sumsOf w2 _ _ 1 _ _ _ _ hP (by omega) (by rw [catN_one]; omega)
  rw [catN_one, sumN_congr (fun i _ => catL_one n L i)] at P2
  replace P2 := Lib.hid P2
  clear hP hcell
  refine P2.out.mono ?_
  rintro e w3 ⟨rfl, hb3⟩
  have hown3 := Lib.hid (own_below hown'.out (hb2.trans (hb3.mono hb2.size)) (Nat.le_refl _))
  have hb4 := Lib.hid (bthen hb'.out (bthen hb2 hb3))
  have hsn := sumN_lt L n
  have hs0 : Hid (sumN L n = sumN L n) := rfl
  generalize hsn' : sumN L n = s at *
  replace hsn' := Lib.hid hsn'
  obtain ⟨k0, k1, k2, k3⟩ := tail_u8 s hsn
  clear P2 hb3 hb2 hs0 hown' hm' hb'
  go_wp2_with (at_builtin; refine append_src rfl _ _ 29 rfl w.heap.size 5 i0 (.int .u8 0) 1 Try.underlying29 hi0 hz0 hz1 hz2 rfl _ _ _ rfl (hown3.out.alloc _) (some ⟨w3.heap.size, 0, none⟩) 4 4 [.int .u8 (tailB s 0), .int .u8 (tailB s 1), .int .u8 (tailB s 2), .int .u8 (tailB s 3)] rfl (by simp) rfl ?q1 ?q2 (by omega) (by omega) (by have := hb4.out.size; simp; omega) ?q3)
  case q1 =>
    intro ad had j u hj
    simp only [Option.some.injEq] at had
    subst had
    match j, hj with
    | 0, hj => simp at hj; subst hj; simp [Addr.add, go_sem]
    | 1, hj => simp at hj; subst hj; simp [Addr.add, go_sem]
    | 2, hj => simp at hj; subst hj; simp [Addr.add, go_sem]
    | 3, hj => simp at hj; subst hj; simp [Addr.add, go_sem]
  case q2 =>
    intro u hu
    simp at hu
    rcases hu with rfl | rfl | rfl | rfl <;> rfl
  case q3 =>
    intro v4 w4 hown4 hg4 _
    rw [tail_at L n s hsn'.out] at hown4
    have hb5 := (hb4.out.alloc hb4.out.size _).trans (Below.grown (Below.refl _ _) hg4 (by have := hb4.out.size; simp; omega) (fun k hk => (hown3.out.lt k hk).1))
    obtain ⟨a4, c4, rfl, hc4, hcm4, hnil4, hm4⟩ := own_mine hown4
    have hm4' := Lib.hid hm4
    clear hown4 hg4 hm4
    go_wp2_with fail
    refine (clipB _ _ _ _ hc4 hcm4).mono ?_
    rintro e _ ⟨rfl, rfl⟩
    go_wp2
    go_ret
    exact ⟨_, rfl, hm4'.out, hb5⟩
end Go.Proofs.Ytbfbpagfmhdblaa
