/- The document's lines: Way. -/
import Derived.Test.YtagmbdoajafejaaRef07
namespace Go.Proofs.Ytagmbdoajafejaa
open Go.RowKit
set_option linter.unusedSimpArgs false
set_option linter.unusedVariables false
theorem elemI : (Try.prog.info? 3).map (fun i => (i.zero, i.size, i.bytes)) = some (some (.int .i64 0), 1, 8) := by kernel_rfl
theorem RefAt.below {B : Nat} {w w' : World} {bR hop : Nat} {v : Value} {S : Sends} (h : RefAt B w bR hop v S) (hb : Below w.heap.size w w') : RefAt B w' bR hop v S := by
  refine ⟨h.blk.below hb h.blk.lt, h.le, h.own.1, ?_⟩
  rcases h.own.2 with h2 | ⟨g, cap, cur, rfl, h2, h3, r⟩
  · exact .inl h2
  · have hgb : Blk w g cur 92 := h3
    exact .inr ⟨g, cap, cur, rfl, h2, hgb.below hb hgb.lt, r⟩
theorem at_two {hop : Nat} {S : Sends} (hh : hop ≤ 2) : atRef hop S (S.length + 2) = (0, false) := by
  have : S[S.length + 2 - hop]? = none := by simp; omega
  simp [atRef, this]
set_option maxRecDepth 100000
set_option maxHeartbeats 400000 in
theorem refWay_none {B : Nat} {w : World} {bR hop : Nat} {v : Value} {S : Sends} (h : RefAt B w bR hop v S) (hh : hop ≤ 2) (hS : S.length ≤ 1000) (h1 : (atRef hop S (S.length + 1)).2 = false) :
    Calls Try.prog 18 #[.pointer (some ⟨bR, 0, none⟩)] w fun e w' => e = .returned (.slice none 0 0) ∧ ∃ q, w' = w.drewN q := by
  obtain ⟨ao, cap, rfl, hr⟩ := h.slice
  have c1 := h.blk.cell (i := 1) rfl
  have h2 := congrArg Prod.snd (at_two (S := S) hh)
  simp only at h2
  have A1 := Lib.hid (refAt_any h (S.length + 1) (by omega) hh (by omega))
  have A2 := fun q => Lib.hid (refAt_any (w := w.drewN q) ⟨h.blk, h.le, h.own⟩ (S.length + 2) (by omega) hh (by omega))
  replace h1 := Lib.hid h1
  replace h2 := Lib.hid h2
  replace A2 := Lib.hid A2
  clear hr h
  go_enter Try.func18, Try.ntmps18
  go_wp2
  refine wp_loop_rounds 3 ?_
  rw [rounds_succ]
  go_wp2_with fail
  have e1 : ((S.length : Int) + 1) = ((S.length + 1 : Nat) : Int) := by omega
  rw [e1]
  refine A1.out.mono ?_
  rintro e w1 ⟨rfl, q, rfl⟩
  rw [h1.out]
  clear e1
  go_wp2_with fail
  rw [rounds_succ]
  go_wp2_with fail
  have e2 : ((S.length : Int) + 2) = ((S.length + 2 : Nat) : Int) := by omega
  rw [e2]
  refine (A2.out q).out.mono ?_
  rintro e w1 ⟨rfl, q, rfl⟩
  rw [h2.out]
  clear e2
  go_wp2_with fail
  rw [rounds_succ]
  go_wp2_with fail
  go_ret
  exact ⟨rfl, _, rfl⟩
set_option maxHeartbeats 400000 in
theorem refWay_one {B : Nat} {w : World} {bR hop : Nat} {v : Value} {S : Sends} (h : RefAt B w bR hop v S) (hh : hop ≤ 2) (hS : S.length ≤ 1000) (h1 : (atRef hop S (S.length + 1)).2 = true) :
    Calls Try.prog 18 #[.pointer (some ⟨bR, 0, none⟩)] w fun e w' => ∃ g c, e = .returned (.slice (some ⟨g, 0, none⟩) 1 c) ∧ Below w.heap.size w w' ∧ Rd .i64 w' (some ⟨g, 0, none⟩) 1 (fun _ => (atRef hop S (S.length + 1)).1) := by
  obtain ⟨ao, cap, rfl, hr⟩ := h.slice
  obtain ⟨i0, hi, hz0, hz1, hz2⟩ := info_parts elemI
  have c1 := h.blk.cell (i := 1) rfl
  have h2 := congrArg Prod.snd (at_two (S := S) hh)
  simp only at h2
  have A1 := Lib.hid (refAt_any h (S.length + 1) (by omega) hh (by omega))
  have A2 : Hid (∀ w', Below w.heap.size w w' → _) := fun w' hw' => refAt_any (h.below hw') (S.length + 2) (by omega) hh (by omega)
  have A3 : Hid (∀ w', Below w.heap.size w w' → w'.cell? ⟨bR, 1, none⟩ = some (.slice ao S.length cap)) := fun w' hw' => (h.below hw').blk.cell (by simp)
  replace h1 := Lib.hid h1
  replace h2 := Lib.hid h2
  clear hr h
  go_enter Try.func18, Try.ntmps18
  go_wp2
  refine wp_loop_rounds 3 ?_
  rw [rounds_succ]
  go_wp2_with fail
  have e1 : ((S.length : Int) + 1) = ((S.length + 1 : Nat) : Int) := by omega
  rw [e1]
  refine A1.out.mono ?_
  rintro e w1 ⟨rfl, q, rfl⟩
  rw [h1.out]
  clear e1
  obtain ⟨x, hxx⟩ : ∃ x, (atRef hop S (S.length + 1)).1 = x := ⟨_, rfl⟩
  rw [hxx]
  replace hxx := Lib.hid hxx
  go_wp2_with (at_builtin; refine append_src rfl _ _ 41 rfl w.heap.size 3 i0 (.int .i64 0) 8 Try.underlying41 hi hz0 hz1 hz2 rfl _ _ _ rfl (World.ownsRow_nil _ _ _ _) (some ⟨w.heap.size, 0, none⟩) 1 1 [.int .i64 x] rfl (by simp) rfl ?q1 ?q2 (by omega) (by omega) (by simp) ?q3)
  case q1 =>
    intro ad had j u hj
    simp only [Option.some.injEq] at had
    subst had
    match j, hj with
    | 0, hj => simp at hj; subst hj; simpa [Addr.add] using (Blk.new (w.drewN q) #[.int .i64 x] 3).cell (i := 0) rfl
  case q2 => intro u hu; simp at hu; subst hu; rfl
  case q3 =>
    intro v1 w1 hown1 hg1 hiff
    have hb1 : Below w.heap.size w w1 := Below.grown ((bdrewN (Below.refl _ _) q).alloc (Nat.le_refl _) _) hg1 (by simp) (by simp [Value.ownBlock])
    obtain ⟨g, c, rfl, hR⟩ : ∃ g c, v1 = .slice (some ⟨g, 0, none⟩) 1 c ∧ Rd .i64 w1 (some ⟨g, 0, none⟩) 1 (fun _ => x) := by
      rcases hown1.2 with ⟨_, h2⟩ | ⟨g, cap, cur, h1, h2, h3, h4, h5, h6, h7⟩
      · exact absurd h2 (by omega)
      · refine ⟨g, cap, h1, Rd.of_blk (h := h3) (fun i hi => ?_)⟩
        obtain rfl : i = 0 := by omega
        have := congrArg (fun l => l[0]?) h7
        simpa using this
    clear hown1 hg1 hiff
    have c1' := A3.out w1 hb1
    replace hR := Lib.hid hR
    go_wp2_with fail
    rw [rounds_succ]
    go_wp2_with fail
    have e2 : ((S.length : Int) + 2) = ((S.length + 2 : Nat) : Int) := by omega
    rw [e2]
    refine (A2.out w1 hb1).mono ?_
    rintro e w1 ⟨rfl, q, rfl⟩
    rw [h2.out]
    clear e2
    go_wp2_with fail
    rw [rounds_succ]
    go_wp2_with fail
    go_ret
    exact ⟨g, c, rfl, bdrewN hb1 _, by rw [hxx.out]; exact hR.out⟩
end Go.Proofs.Ytagmbdoajafejaa
