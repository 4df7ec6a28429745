/- Frames: slices.Concat of symbols (the text of SumsC and SumsD, the types turned). -/
import Derived.Test.YtbfbpagfmhdblaaBytesC
import Derived.Test.YtbfbpagfmhdblaaSumsD
namespace Go.Proofs.Ytbfbpagfmhdblaa
open Go.RowKit
set_option linter.unusedSimpArgs false
set_option linter.unusedVariables false
set_option maxRecDepth 100000
/-- slices.Grow of nil symbols. -/
theorem growS (w : World) (n : Nat) (hn : n ≤ 1000000) :
    Calls Try.prog 88 #[.slice none 0 0, .int .i64 n] w fun e w' => ∃ v, e = .returned v ∧ w'.ownsRow w.heap.size 77 1 v 0 [] ∧ Below w.heap.size w w' := by
  obtain ⟨i0, hi, hz0, hz1, hz2⟩ := info_parts elemS
  have u1 : IntKind.i64.wrap (n : Int) = n := wrap_i64_small _ (by omega) (by omega)
  have g1 : decide ((n : Int) < 0) = false := by simp <;> omega
  rcases Nat.eq_zero_or_pos n with rfl | hp
  · go_enter Try.func88, Try.ntmps88
    go_wp2
    go_ret
    exact ⟨_, rfl, World.ownsRow_nil _ _ _ _, Below.refl _ _⟩
  · have g2 : decide (0 < (n : Int)) = true := by simp; omega
    have hu := Try.underlying40
    have happ := Lib.run_append_nil_zeros (P := Try.prog) w 40 3 40 77 i0 (.int .u8 0) .i64 .i64 Try.underlying40 Try.underlying3 hi hz0 n hp (by omega) (by omega) (by rw [hz2]; omega)
    have hcg : n ≤ grownCap w n 0 77 := grownCap_ge w _ 0 _
    have hcl : grownCap w n 0 77 ≤ maxLen := grownCap_le_maxLen w _ 0 _ (by unfold maxLen; omega)
    generalize grownCap w n 0 77 = cap at *
    generalize hZ : Builtin.zeroCells (Value.int .u8 0).cells n ++ Builtin.zeroCells (Value.int .u8 0).cells (cap - n) = Z at *
    have hZs : Z.size = cap := by rw [← hZ]; simp [size_zeroCells, Value.cells]; omega
    have hown := Lib.hid (World.ownsRow_made (base := w.heap.size) (e := 77) (size := 1) w.drew Z cap (Nat.le_refl _) hcl (by omega))
    have hbel := Lib.hid (show Below w.heap.size w (w.drew.alloc (.cells Z 77)) from (bdrewN (Below.refl _ w) 1).alloc (Nat.le_refl _) _)
    have hmx : cap ≤ 9223372036854775807 := by unfold maxLen at hcl; omega
    have hsz : w.drew.heap.size = w.heap.size := rfl
    clear hZ hcl
    go_enter Try.func88, Try.ntmps88
    go_wp2_with (at_builtin; refine Lib.wpList_append_run _ rfl _ _ _ _ rfl _ _ rfl rfl _ _ happ ?_)
    go_wp2
    go_ret
    exact ⟨_, rfl, hown.out, hbel.out⟩
def InvCatS1 (w : World) (ap : Option Addr) (K cp : Nat) (PN : Nat → Nat) (k : Nat) (a : Act) (wr : World) : Prop :=
  ∃ i : Nat, i + k = K ∧ wr = w ∧ a.tmps.size = 36 ∧ a.defers = [] ∧ slot a 0 = .slice ap K cp ∧ slot a 3 = .int .i64 (catN PN i : Nat) ∧ slot a 9 = .slice ap K cp ∧ slot a 10 = .int .i64 K ∧ slot a 11 = .int .i64 i
def InvCatS2 (w : World) (ap : Option Addr) (K cp : Nat) (PN : Nat → Nat) (PL : Nat → Nat → Int) (k : Nat) (a : Act) (wr : World) : Prop :=
  ∃ (i : Nat) (v : Value), i + k = K ∧ Below w.heap.size w wr ∧ wr.ownsRow w.heap.size 77 1 v (catN PN i) (nums .u8 (catL PN PL i) (catN PN i)) ∧ a.tmps.size = 36 ∧ a.defers = [] ∧ slot a 6 = v ∧ slot a 25 = .slice ap K cp ∧ slot a 26 = .int .i64 K ∧ slot a 27 = .int .i64 i
set_option maxHeartbeats 1000000 in
/-- slices.Concat of symbols. -/
theorem concatS (w : World) (ap : Option Addr) (K cp : Nat) (PA : Nat → Option Addr) (PN PC : Nat → Nat) (PL : Nat → Nat → Int) (h : Parts w ap K PA PN PC PL) (hK : K ≤ 1000) (hN : catN PN K ≤ 1000000) :
    Calls Try.prog 57 #[.slice ap K cp] w fun e w' => ∃ v, e = .returned v ∧ w'.ownsRow w.heap.size 77 1 v (catN PN K) (nums .u8 (catL PN PL K) (catN PN K)) ∧ Below w.heap.size w w' := by
  obtain ⟨i0, hi0, hz0, hz1, hz2⟩ := info_parts elemS
  replace h := Lib.hid h
  go_enter Try.func57, Try.ntmps57
  go_wp2
  refine wp_loop_k (InvCatS1 w ap K cp PN) K ?_ ?_
  · exact ⟨0, by omega, rfl, by kernel_rfl, rfl, by kernel_rfl, by kernel_rfl, by kernel_rfl, by kernel_rfl, by kernel_rfl⟩
  · intro gk a wr hI K1 hK1
    obtain ⟨i, hi, rfl, hs', hd', k0', k3', k9', k10', k11'⟩ := hI
    rw [fr36 a hs' hd']; simp only [k0', k3', k9', k10', k11']; clear hs' hd' k0' k3' k9' k10' k11'
    by_cases hlt : i < K
    · have g1 : decide ((i : Int) < (K : Int)) = true := by simp; omega
      obtain ⟨b, o, rfl, hc, hr, hnl, hL⟩ := h.out i hlt
      have hcat := catN_mono (PN := PN) (show i + 1 ≤ K by omega)
      have hPN : catN PN (i + 1) = catN PN i + PN i := rfl
      have ui : IntKind.i64.wrap ((i : Int) + 1) = ((i + 1 : Nat) : Int) := wrap_i64_small _ (by omega) (by omega)
      have us : IntKind.i64.wrap ((catN PN i : Int) + (PN i : Int)) = ((catN PN (i + 1) : Nat) : Int) := by rw [wrap_i64_small _ (by omega) (by omega)]; omega
      have g2 : decide (((catN PN (i + 1) : Nat) : Int) < 0) = false := by simp <;> omega
      generalize catN PN (i + 1) = s1 at *
      have hs1 : Hid (s1 = catN PN (i + 1)) := hPN
      clear hr hL hnl hPN hcat
      go_wp2
      exact hK1 (K - (i + 1)) _ _ (by omega) ⟨i + 1, by omega, rfl, by kernel_rfl, rfl, by kernel_rfl, by show Value.int _ _ = Value.int _ _; rw [hs1.out], by kernel_rfl, by kernel_rfl, by kernel_rfl⟩
    · obtain rfl : K = i := by omega
      have g1 : decide ((K : Int) < (K : Int)) = false := by simp
      go_wp2_with fail
      refine (growS _ _ hN).mono ?_
      rintro e w1 ⟨v, rfl, hown, hb⟩
      have hown' := Lib.hid hown
      have hb' := Lib.hid hb
      clear hown hb
      go_wp2
      refine wp_loop_k (InvCatS2 wr ap K cp PN PL) K ?_ ?_
      · exact ⟨0, v, by omega, hb'.out, hown'.out, by kernel_rfl, rfl, by kernel_rfl, by kernel_rfl, by kernel_rfl, by kernel_rfl⟩
      · clear hown' hb' g1
        clear v w1 hlt hi
        intro gk2 a w2 hI K2 hK2
        obtain ⟨i, v, hi, hb, hown, hs', hd', k6', k25', k26', k27'⟩ := hI
        rw [fr36 a hs' hd']; simp only [k6', k25', k26', k27']; clear hs' hd' k6' k25' k26' k27'
        by_cases hlt : i < K
        · have g1 : decide ((i : Int) < (K : Int)) = true := by simp; omega
          obtain ⟨b, o, rfl, hc, hr, hnl, hL⟩ := h.out i hlt
          have hcat := catN_mono (PN := PN) (show i + 1 ≤ K by omega)
          have hPN : catN PN (i + 1) = catN PN i + PN i := rfl
          have ui : IntKind.i64.wrap ((i : Int) + 1) = ((i + 1 : Nat) : Int) := wrap_i64_small _ (by omega) (by omega)
          have hc2 := below_cell hc hb (World.block_lt_of_cell? wr _ hc)
          have hr2 := hr.below hb (Nat.le_refl _)
          have hnews := nums_news hr2
          have hown' := Lib.hid hown
          have hb' := Lib.hid hb
          have hnews' := Lib.hid hnews
          have hnl' := Lib.hid hnl
          have hPN' := Lib.hid hPN
          have hcat' := Lib.hid hcat
          clear hr hL hnl hPN hcat hc hr2 hnews hb hown
          go_wp2_with (at_builtin; refine append_src rfl _ _ 40 rfl wr.heap.size 77 i0 (.int .u8 0) 1 Try.underlying40 hi0 hz0 hz1 hz2 rfl _ _ _ rfl hown'.out (PA i) (PN i) (PC i) (nums .u8 (PL i) (PN i)) rfl hnl'.out.2.2 (nums_len _ _ _) hnews'.out (nums_one _ _ _) (by have := hcat'.out; have := hPN'.out; omega) (by have := hcat'.out; have := hPN'.out; omega) hb'.out.size ?_)
          intro v1 w3 hown1 hg1 _
          have hb3 := hb'.out.trans (Below.grown (Below.refl _ _) hg1 hb'.out.size (fun k hk => (hown'.out.lt k hk).1))
          rw [nums_app] at hown1
          have hown2 := Lib.hid hown1
          have hb4 := Lib.hid hb3
          clear hown1 hg1 hb3 hown' hb'
          go_wp2
          exact hK2 (K - (i + 1)) _ _ (by omega) ⟨i + 1, v1, by omega, hb4.out, hown2.out, by kernel_rfl, rfl, by kernel_rfl, by kernel_rfl, by kernel_rfl, by kernel_rfl⟩
        · obtain rfl : i = K := by omega
          have g1 : decide ((i : Int) < (i : Int)) = false := by simp
          have hown' := Lib.hid hown
          have hb' := Lib.hid hb
          clear hown hb
          go_wp2
          go_ret
          exact ⟨_, rfl, hown'.out, hb'.out⟩
end Go.Proofs.Ytbfbpagfmhdblaa
