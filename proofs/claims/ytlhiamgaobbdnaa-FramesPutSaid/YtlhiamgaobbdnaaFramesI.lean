/- Frames: the document's tails, Syms. -/
import Derived.Test.YtlhiamgaobbdnaaFramesH
import Derived.Deep.AppendLies
namespace Go.Proofs.Ytlhiamgaobbdnaa
open Go.RowKit
set_option linter.unusedSimpArgs false
set_option linter.unusedVariables false
set_option maxRecDepth 100000
theorem refSym (w : World) (b : Bool) : Calls Try.prog 45 #[.bool b] w fun e w' => e = .returned (.int .u8 (symI b)) ∧ w = w' := by
  cases b
  all_goals
    go_enter Try.func45, Try.ntmps45
    go_wp2
    go_ret
    exact ⟨rfl, rfl⟩
theorem refGood (w : World) (wh un : Bool) : Calls Try.prog 17 #[tailV wh un] w fun e w' => e = .returned (.bool (goodB wh un)) ∧ Below w.heap.size w w' := by
  unfold tailV
  cases wh <;> cases un
  all_goals
    go_enter Try.func17, Try.ntmps17
    go_wp2
    go_ret
    exact ⟨rfl, below_alloc _ _⟩
set_option maxHeartbeats 1000000 in
theorem refTailSyms (w : World) (wh un : Bool) : Calls Try.prog 19 #[tailV wh un] w fun e w' => ∃ g, e = .returned (.slice (some ⟨g, 0, none⟩) 2 2) ∧ Mine .u8 77 w.heap.size w' (some ⟨g, 0, none⟩) 2 (tailSL wh un) ∧ Below w.heap.size w w' := by
  have P := Lib.hid (fun W b => refSym W b)
  have hts : Hid (tailSL wh un = at2 (symI wh) (symI un)) := rfl
  unfold tailV
  rw [hts.out]
  have hB := Lib.hid (Blk.new w #[.bool wh, .bool un] 39).drew
  have d0 := (tl_cells hB.out).1
  have hb := (below_alloc w (.cells #[.bool wh, .bool un] 39)).drew
  go_enter Try.func19, Try.ntmps19
  go_wp2_with fail
  go_region_held3 (fun W => W.cell? ⟨w.heap.size, 0, none⟩ = some (.bool wh) ∧ W.cell? ⟨w.heap.size, 1, none⟩ = some (.bool un))
    (first | exact d0 | exact (tl_cells (hB.out.alloc _)).1)
    (first
      | (go_at_call 45
         (with_reducible refine (P.out _ wh).mono ?_)
         rintro e _ ⟨rfl, rfl⟩)
      | (go_at_call 45
         (with_reducible refine (P.out _ un).mono ?_)
         rintro e _ ⟨rfl, rfl⟩)
      | fail)
  all_goals
    go_wp2
    go_ret
    have hN : Blk ((w.alloc (.cells #[.bool wh, .bool un] 39)).alloc (.cells #[.int .u8 (symI wh), .int .u8 (symI un)] 77)).drew (w.heap.size + 1) #[.int .u8 (symI wh), .int .u8 (symI un)] 77 := by
      have := (Blk.new (w.alloc (.cells #[.bool wh, .bool un] 39)) #[.int .u8 (symI wh), .int .u8 (symI un)] 77).drew
      simpa using this
    exact ⟨w.heap.size + 1, by simp, fun _ => ⟨w.heap.size + 1, #[.int .u8 (symI wh), .int .u8 (symI un)], rfl, by omega, hN, Nat.le_refl _, fun i hi => by
      rcases i with _ | _ | i
      · rfl
      · rfl
      · omega⟩, ((below_alloc _ _).trans ((below_alloc _ _).mono (by simp))).drew⟩
set_option maxHeartbeats 2000000 in
theorem refFrSyms (w : World) (o k st sq v : Int) (wh un : Bool) (hk : 0 ≤ k ∧ k < 256) (hst : 0 ≤ st ∧ st < 256) (hsq : 0 ≤ sq ∧ sq < 4294967296) (hv : 0 ≤ v ∧ v < 4294967296) :
    Calls Try.prog 13 #[frV o k st sq v, tailV wh un] w fun e w' => ∃ a cc, e = .returned (.tuple #[.slice a (lenS o k) cc, .int .i64 (errF o k)]) ∧ Rd .u8 w' a (lenS o k) (frSL o k st sq v wh un) ∧ Below w.heap.size w w' := by
  have P1 := Lib.hid (fun W => refFrPut W o k st sq v hk hst hsq hv)
  have P2 := Lib.hid (fun W => refTailSyms W wh un)
  obtain ⟨i0, hi0, hz0, hz1, hz2⟩ := info_parts elemS
  cases hm : mayB o k with
  | false =>
    simp only [lenS, errF, lenF, hm] at P1 ⊢
    unfold frV tailV
    go_enter Try.func13, Try.ntmps13
    go_wp2_with fail
    refine (P1.out _).mono ?_
    rintro e w1 ⟨a, cc, rfl, _, _, hb1⟩
    go_wp2_with fail
    refine bodyPost_ret (v := .tuple #[.slice none 0 0, .int .i64 1]) (by simp [results, Try.results13, go_sem]) rfl ⟨none, ⟨0, rfl⟩, fun i hi => absurd hi (Nat.not_lt_zero _), bthen ((below_alloc _ _).trans ((below_alloc _ _).mono (by simp))) hb1⟩
  | true =>
    have hfb := Lib.hid (frL_byte (sq := sq) (v := v) hm hst)
    simp only [lenS, errF, lenF, hm, if_true] at P1 ⊢
    clear hm
    unfold frV tailV
    go_enter Try.func13, Try.ntmps13
    go_wp2_with fail
    have hT0 : Blk ((w.alloc (.cells #[.int .i64 o, .int .u8 k, .int .u8 st, .int .u32 sq, .int .u32 v] 28)).alloc (.cells #[.bool wh, .bool un] 39)) (w.heap.size + 1) #[.bool wh, .bool un] 39 := by
      have := Blk.new (w.alloc (.cells #[.int .i64 o, .int .u8 k, .int .u8 st, .int .u32 sq, .int .u32 v] 28)) #[.bool wh, .bool un] 39
      simpa using this
    refine (P1.out _).mono ?_
    rintro e w1 ⟨a, cc, rfl, _, m1, hb1⟩
    have hT1 := hT0.below hb1 hT0.lt
    have hb01 := bthen ((below_alloc _ _).trans ((below_alloc _ _).mono (by simp))) hb1
    have x1 := Lib.hid m1.rd
    have hT1d := Lib.hid hT1.drew
    have hcl : Hid (∀ W, Blk W (w.heap.size + 1) #[.bool wh, .bool un] 39 → W.cell? ⟨w.heap.size + 1, 0, none⟩ = some (.bool wh) ∧ W.cell? ⟨w.heap.size + 1, 1, none⟩ = some (.bool un)) := fun W h => (tl_cells h).1
    have d0 := hcl.out _ hT1d.out
    clear m1 hT0 hb1 P1
    go_wp2_with fail
    unfold tailV at P2
    have P3 := Lib.hid (fun (W : World) (h : Rd .u8 W a 14 (frL o k st sq v)) => refOfN W a 14 cc _ h hfb.out (by omega))
    have hSL : Hid (nums .u8 (ofL (frL o k st sq v)) 112 ++ nums .u8 (tailSL wh un) 2 = nums .u8 (frSL o k st sq v wh un) 114) := nums_app _ _ _ _ _
    go_region_held3 (fun W => W.cell? ⟨w.heap.size + 1, 0, none⟩ = some (.bool wh) ∧ W.cell? ⟨w.heap.size + 1, 1, none⟩ = some (.bool un)) (first | exact d0 | exact d9 | exact d10 | exact d11)
      (first
        | (go_at_call 41
           (with_reducible refine (P3.out _ x1.out.drew).mono ?_)
           rintro e w9 ⟨a9, c9, rfl, own9, hb9⟩
           have hB9 := hT1d.out.below hb9 hT1d.out.lt
           have d9 := hcl.out _ hB9
           have hb09 := bthen (bthen hb01 (below_drewN w1 1)) hb9)
        | (go_at_call 19
           (with_reducible refine (P2.out _).mono ?_)
           rintro e w10 ⟨g10, rfl, m10, hb10⟩
           have hB10 := hB9.below hb10 hB9.lt
           have d10 := hcl.out _ hB10
           have hb010 := bthen hb09 hb10
           have own10 := own_below own9 hb10 (Nat.le_refl _)
           have x10 := m10.rd)
        | (refine step_append_lies _ rfl _ _ 40 rfl w1.drew.heap.size 77 i0 (.int .u8 0) 1 1 Try.underlying40 hi0 hz0 hz1 hz2 rfl (by omega) _ 112 _ rfl own10 ⟨g10, 0, none⟩ 2 2 (nums .u8 (tailSL wh un) 2) rfl (nums_len _ _ _) (nums_news x10 _ rfl) (nums_one _ _ _) (by omega) (by unfold maxLen; omega) (by omega) (Nat.le_trans hb9.size hb10.size) w10.heap.size rfl ?_
           intro g11 c11 w11 own11 hg11 hl11 hlt11
           have hb11 : Below w1.drew.heap.size w10 w11 := Below.grown (Below.refl _ _) hg11 (Nat.le_trans hb9.size hb10.size) (fun k hk => (own10.lt k hk).1)
           have d11 := hcl.out _ (hB10.below hb11 hT1d.out.lt)
           have hb011 : Below w.heap.size w w11 := hb010.trans (hb11.mono hb01.size)
           rw [hSL.out] at own11)
        | fail)
    obtain ⟨a12, c12, e12, _, _, _, m12⟩ := own_mine (n := 114) (T := frSL o k st sq v wh un) own11
    simp only [Value.slice.injEq] at e12
    obtain ⟨rfl, _, rfl⟩ := e12
    have r12 := Lib.hid m12.rd
    clear own11 own10 own9 hg11 hl11 m12
    go_wp2_with fail
    refine bodyPost_ret (v := .tuple #[.slice (some ⟨g11, 0, none⟩) 114 c11, .int .i64 0]) (by simp [results, Try.results13, go_sem]) rfl ⟨some ⟨g11, 0, none⟩, c11, rfl, r12.out, hb011⟩
end Go.Proofs.Ytlhiamgaobbdnaa
