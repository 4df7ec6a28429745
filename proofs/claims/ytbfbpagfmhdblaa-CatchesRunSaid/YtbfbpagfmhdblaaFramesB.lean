/- Frames: Put. -/
import Derived.Test.YtbfbpagfmhdblaaFramesA
import Derived.Test.YtbfbpagfmhdblaaParts34
namespace Go.Proofs.Ytbfbpagfmhdblaa
open Go.RowKit
set_option linter.unusedSimpArgs false
set_option linter.unusedVariables false
set_option maxRecDepth 100000
/-- The ten bytes ahead of the sum. -/
def headL (h st : Int) (sq v : Nat) : Nat → Int := appL (appL (at2 h st) 2 (tailB sq)) 6 (tailB v)
def lenF (o k : Int) : Nat := if mayB o k then 14 else 0
def errF (o k : Int) : Int := if mayB o k then 0 else 1
def frL (o k st sq v : Int) : Nat → Int := putS (headL (16 * k + o) st sq.toNat v.toNat) 10
theorem tailB_byte (s i : Nat) : 0 ≤ tailB s i ∧ tailB s i < 256 := by unfold tailB; omega
theorem headL_byte {h st : Int} {sq v : Nat} (h1 : 0 ≤ h ∧ h < 256) (h2 : 0 ≤ st ∧ st < 256) : ∀ i, i < 10 → 0 ≤ headL h st sq v i ∧ headL h st sq v i < 256 :=
  appL_byte (n := 6) (m := 4) (appL_byte (n := 2) (m := 4) (fun j hj => by
    rcases j with _ | _ | j
    · exact h1
    · exact h2
    · omega) fun j _ => tailB_byte _ _) fun j _ => tailB_byte _ _
theorem mayB_in {o k : Int} (h : mayB o k = true) : 0 ≤ o ∧ o < 8 ∧ (k = 1 ∨ k = 2) := by
  simp [mayB] at h
  omega
theorem frL_byte {o k st sq v : Int} (h : mayB o k = true) (hst : 0 ≤ st ∧ st < 256) : ∀ i, i < 14 → 0 ≤ frL o k st sq v i ∧ frL o k st sq v i < 256 := by
  have h1 := mayB_in h
  exact putS_byte (n := 10) (headL_byte (by omega) hst)
set_option maxHeartbeats 4000000 in
theorem frPut (w : World) (o k st sq v : Int) (hk : 0 ≤ k ∧ k < 256) (hst : 0 ≤ st ∧ st < 256) (hsq : 0 ≤ sq ∧ sq < 4294967296) (hv : 0 ≤ v ∧ v < 4294967296) :
    Calls Try.prog 14 #[frV o k st sq v] w fun e w' => ∃ a, e = .returned (.tuple #[.slice a (lenF o k) (lenF o k), .int .i64 (errF o k)]) ∧ Mine .u8 5 w.heap.size w' a (lenF o k) (frL o k st sq v) ∧ Below w.heap.size w w' := by
  obtain ⟨sqn, rfl⟩ := Int.eq_ofNat_of_zero_le hsq.1
  obtain ⟨vn, rfl⟩ := Int.eq_ofNat_of_zero_le hv.1
  cases hm : mayB o k with
  | false =>
    simp only [lenF, errF, hm]
    unfold frV
    go_enter Try.func14, Try.ntmps14
    go_wp2_with fail
    refine (frMay _ o k st sqn vn).mono ?_
    rintro e w1 ⟨rfl, hb1⟩
    rw [hm]
    go_wp2_with fail
    refine bodyPost_ret (v := .tuple #[.slice none 0 0, .int .i64 1]) (by simp [results, Try.results14, go_sem]) rfl ⟨_, rfl, Mine.nil _ _ _ _ _ _, bthen (below_alloc _ _) hb1⟩
  | true =>
    have hr := mayB_in hm
    have hh : (0 : Int) ≤ 16 * k + o ∧ 16 * k + o < 256 := by omega
    have u1 : IntKind.i64.wrap k = k := wrap_i64_small _ (by omega) (by omega)
    have u2 : IntKind.i64.wrap (16 * k) = 16 * k := wrap_i64_small _ (by omega) (by omega)
    have u3 : IntKind.i64.wrap (16 * k + o) = 16 * k + o := wrap_i64_small _ (by omega) (by omega)
    have u4 : IntKind.u8.wrap (16 * k + o) = 16 * k + o := by rw [IntKind.wrap_u8]; omega
    simp only [lenF, errF, hm, if_true]
    have hfr : Hid (frL o k st sqn vn = putS (headL (16 * k + o) st sqn vn) 10) := by show frL o k st sqn vn = _; simp [frL]
    rw [hfr.out]
    have hsq' := Lib.hid (show sqn < 4294967296 by omega)
    have hv' := Lib.hid (show vn < 4294967296 by omega)
    have hP := Lib.hid (fun (W : World) (B b g1 g2 : Nat) (hB : Blk W B #[.slice (some ⟨b, 0, none⟩) 2 2, .slice (some ⟨g1, 0, none⟩) 4 4, .slice (some ⟨g2, 0, none⟩) 4 4] 29) (hb : Blk W b #[.int .u8 (16 * k + o), .int .u8 st] 5)
        (h1 : Rd .u8 W (some ⟨g1, 0, none⟩) 4 (tailB sqn)) (h2 : Rd .u8 W (some ⟨g2, 0, none⟩) 4 (tailB vn)) => by
      have C := sumsPut W (some ⟨B, 0, none⟩) 3 3 _ _ _ _ (parts3 hB ⟨Rd.of_blk (L := at2 (16 * k + o) st) hb (fun i hi => by
        rcases i with _ | _ | i
        · rfl
        · rfl
        · omega), ⟨Nat.le_refl _, by omega, fun e => by simp at e⟩, fun j hj => by
          rcases j with _ | _ | j
          · exact hh
          · exact hst
          · omega⟩ ⟨h1, ⟨Nat.le_refl _, by omega, fun e => by simp at e⟩, fun j _ => tailB_byte _ _⟩ ⟨h2, ⟨Nat.le_refl _, by omega, fun e => by simp at e⟩, fun j _ => tailB_byte _ _⟩) (by omega) (by rw [catN3]; omega)
      rw [catN3, catL3] at C
      exact C)
    clear hm hsq hv
    unfold frV
    go_enter Try.func14, Try.ntmps14
    go_wp2_with fail
    have hB0 := Blk.new w #[.int .i64 o, .int .u8 k, .int .u8 st, .int .u32 sqn, .int .u32 vn] 34
    refine (frMay _ o k st sqn vn).mono ?_
    rintro e w1 ⟨rfl, hb1⟩
    have hB1 := hB0.below hb1 hB0.lt
    have hm2 : mayB o k = true := by simp [mayB]; omega
    rw [hm2]
    have hb01 := bthen (below_alloc _ _) hb1
    clear hB0 hb1 hm2
    have hB1d := Lib.hid hB1.drew
    have hlt := hb01.size
    have hcl : Hid (∀ W, Blk W w.heap.size #[.int .i64 o, .int .u8 k, .int .u8 st, .int .u32 sqn, .int .u32 vn] 34 → W.cell? ⟨w.heap.size, 0, none⟩ = some (.int .i64 o) ∧ W.cell? ⟨w.heap.size, 1, none⟩ = some (.int .u8 k) ∧ W.cell? ⟨w.heap.size, 2, none⟩ = some (.int .u8 st) ∧ W.cell? ⟨w.heap.size, 3, none⟩ = some (.int .u32 sqn) ∧ W.cell? ⟨w.heap.size, 4, none⟩ = some (.int .u32 vn)) := fun W h => ⟨h.cell (i := 0) rfl, h.cell (i := 1) rfl, h.cell (i := 2) rfl, h.cell (i := 3) rfl, h.cell (i := 4) rfl⟩
    have d0 := hcl.out _ hB1d.out
    have d00 := hcl.out _ (hB1d.out.alloc (.cells #[.int .u8 (16 * k + o), .int .u8 st] 5))
    go_wp2_with fail
    go_region_held3 (fun W => W.cell? ⟨w.heap.size, 0, none⟩ = some (.int .i64 o) ∧ W.cell? ⟨w.heap.size, 1, none⟩ = some (.int .u8 k) ∧ W.cell? ⟨w.heap.size, 2, none⟩ = some (.int .u8 st) ∧ W.cell? ⟨w.heap.size, 3, none⟩ = some (.int .u32 sqn) ∧ W.cell? ⟨w.heap.size, 4, none⟩ = some (.int .u32 vn)) (first | exact d0 | exact d00 | exact d9 | exact d99 | exact d10 | exact hcl.out _ (hB10.alloc _) | exact hcl.out _ ((hB10.alloc _).alloc _) | exact hcl.out _ (hB10.below (bthen hb11 hb12) hB10.lt))
      (first
        | (go_at_call 54
           (with_reducible refine (frFour _ sqn hsq'.out).mono ?_)
           rintro e w9 ⟨g9, rfl, m9, hb9⟩
           have hB9 := hB1d.out.below hb9 hB1d.out.lt
           have d9 := hcl.out _ hB9
           have d99 := hcl.out _ (hB9.alloc (.cells #[.int .u8 (16 * k + o), .int .u8 st] 5)))
        | (go_at_call 54
           (with_reducible refine (frFour _ sqn hsq'.out).mono ?_)
           rintro e w9 ⟨g9, rfl, m9, hb9⟩
           have hH9 : Blk w9 w1.heap.size #[.int .u8 (16 * k + o), .int .u8 st] 5 := (Blk.new w1.drew #[.int .u8 (16 * k + o), .int .u8 st] 5).below hb9 (Blk.lt (Blk.new _ _ _))
           have hB9 := (hB1d.out.alloc (.cells #[.int .u8 (16 * k + o), .int .u8 st] 5)).below hb9 (Blk.lt (hB1d.out.alloc _))
           have d9 := hcl.out _ hB9)
        | (go_at_call 54
           (with_reducible refine (frFour _ vn hv'.out).mono ?_)
           rintro e w10 ⟨g10, rfl, m10, hb10⟩
           have hH10 := hH9.below hb10 hH9.lt
           have hB10 := hB9.below hb10 hB9.lt
           have d10 := hcl.out _ hB10
           have x9 := m9.rd.below hb10 (Nat.le_refl _)
           have hb010 := bthen (bthen (bthen (bthen hb01 (below_drewN w1 1)) (below_alloc _ (.cells #[.int .u8 (16 * k + o), .int .u8 st] 5))) hb9) hb10)
        | (go_at_call 54
           (with_reducible refine (frFour _ vn hv'.out).mono ?_)
           rintro e w10 ⟨g10, rfl, m10, hb10⟩
           have hb910 := bthen (below_alloc w9 (.cells #[.int .u8 (16 * k + o), .int .u8 st] 5)) hb10
           have hH10 := (Blk.new w9 #[.int .u8 (16 * k + o), .int .u8 st] 5).below hb10 (Blk.lt (Blk.new _ _ _))
           have hB10 := hB9.below hb910 hB9.lt
           have d10 := hcl.out _ hB10
           have x9 := m9.rd.below hb910 (Nat.le_refl _)
           have hb010 := bthen (bthen (bthen hb01 (below_drewN w1 1)) hb9) hb910)
        | (go_at_call 54
           (with_reducible refine (frFour _ vn hv'.out).mono ?_)
           rintro e w10 ⟨g10, rfl, m10, hb10⟩
           have hB10 := hB9.below hb10 hB9.lt
           have d10 := hcl.out _ hB10
           have d100 := hcl.out _ (hB10.alloc (.cells #[.int .u8 (16 * k + o), .int .u8 st] 5))
           have x9 := m9.rd.below hb10 (Nat.le_refl _)
           have hb010 := bthen (bthen (bthen hb01 (below_drewN w1 1)) hb9) hb10)
        | (go_at_call 53
           refine calls_abs (fun W => Below w10.heap.size w10 W ∧ Blk W w10.heap.size #[.slice (some ⟨w1.heap.size, 0, none⟩) 2 2, .slice (some ⟨g9, 0, none⟩) 4 4, .slice (some ⟨g10, 0, none⟩) 4 4] 29) ⟨below_alloc _ _, Blk.new _ _ _⟩ ?_
           rintro w11 ⟨hb11, hB11⟩
           (with_reducible refine (hP.out _ _ _ _ _ hB11 (hH10.below hb11 hH10.lt) (x9.below hb11 (Nat.le_refl _)) (m10.rd.below hb11 (Nat.le_refl _))).mono ?_)
           rintro e w12 ⟨a12, rfl, m12, hb12⟩
           have hb011 := bthen hb010 hb11)
        | (go_at_call 53
           refine calls_abs (fun W => Below w10.heap.size w10 W ∧ Blk W w10.heap.size #[.slice (some ⟨w9.heap.size, 0, none⟩) 2 2, .slice (some ⟨g9, 0, none⟩) 4 4, .slice (some ⟨g10, 0, none⟩) 4 4] 29) ⟨below_alloc _ _, Blk.new _ _ _⟩ ?_
           rintro w11 ⟨hb11, hB11⟩
           (with_reducible refine (hP.out _ _ _ _ _ hB11 (hH10.below hb11 hH10.lt) (x9.below hb11 (Nat.le_refl _)) (m10.rd.below hb11 (Nat.le_refl _))).mono ?_)
           rintro e w12 ⟨a12, rfl, m12, hb12⟩
           have hb011 := bthen hb010 hb11)
        | (go_at_call 53
           refine calls_abs (fun W => Below w10.heap.size w10 W ∧ Blk W w10.heap.size #[.int .u8 (16 * k + o), .int .u8 st] 5 ∧ Blk W (w10.heap.size + 1) #[.slice (some ⟨w10.heap.size, 0, none⟩) 2 2, .slice (some ⟨g9, 0, none⟩) 4 4, .slice (some ⟨g10, 0, none⟩) 4 4] 29) ⟨(below_alloc _ _).trans ((below_alloc _ _).mono (by simp)), (Blk.new _ _ _).alloc _, by have := Blk.new (w10.alloc (.cells #[.int .u8 (16 * k + o), .int .u8 st] 5)) #[.slice (some ⟨w10.heap.size, 0, none⟩) 2 2, .slice (some ⟨g9, 0, none⟩) 4 4, .slice (some ⟨g10, 0, none⟩) 4 4] 29; simpa using this⟩ ?_
           rintro w11 ⟨hb11, hH11, hB11⟩
           (with_reducible refine (hP.out _ _ _ _ _ hB11 hH11 (x9.below hb11 (Nat.le_refl _)) (m10.rd.below hb11 (Nat.le_refl _))).mono ?_)
           rintro e w12 ⟨a12, rfl, m12, hb12⟩
           have hb011 := bthen hb010 hb11)
        | fail)
    all_goals
      go_wp2_with fail
      refine bodyPost_ret (v := .tuple #[.slice a12 14 14, .int .i64 0]) (by simp [results, Try.results14, go_sem]) rfl ⟨_, rfl, m12.mono hb011.size, bthen hb011 hb12⟩
end Go.Proofs.Ytbfbpagfmhdblaa
