/- Wires: Here, New. -/
import Derived.Test.YteogoddnefeleaaDoorWiresB
import Derived.Test.YteogoddnefeleaaDoorRingsD
namespace Go.Proofs.YteogoddnefeleaaDoor
open Go.RowKit Go.Maps
set_option linter.unusedSimpArgs false
set_option linter.unusedVariables false
set_option maxRecDepth 100000
/-- What is here of a link. -/
def hereO (n : Nat) (p1 p2 : Int → Option Int) (k : Int) : Option Int := if 0 ≤ k ∧ k < 4 * n then (if k % 2 = 0 then p1 k else p2 k) else none
theorem hereNil (w : World) : Calls Tryd.prog 62 #[.pointer none] w fun e w' => e = .returned (.tuple #[.int .i64 0, .bool false]) ∧ ∃ q, w' = w.drewN q := by
  go_enter Tryd.func62, Tryd.ntmps62
  go_wp2
  go_ret2
  exact ⟨rfl, 0, rfl⟩
theorem hereLine {B : Nat} {w : World} {pw bl bg n ng : Nat} {lb lw : Nat → Nat} {p1 p2 g : Int → Option Int} {t : Int} (h : WiresAt B w pw bl bg n ng lb lw p1 p2 g t) (k : Int) :
    Calls Tryd.prog 62 #[ptrV (lineF n lb k)] w fun e w' => e = .returned (.tuple #[.int .i64 ((hereO n p1 p2 k).getD 0), .bool (hereO n p1 p2 k).isSome]) ∧ ∃ q, w' = w.drewN q := by
  by_cases hk : 0 ≤ k ∧ k < 4 * n
  · obtain ⟨j, rfl⟩ := Int.eq_ofNat_of_zero_le hk.1
    have hj : j < 4 * n := by omega
    have hl := h.line j hj
    have e1 : ptrV (lineF n lb (j : Int)) = .pointer (some ⟨lb j, 0, none⟩) := by simp [ptrV, lineF, hk]
    rw [e1, hereO, if_pos hk]
    by_cases h2 : j % 2 = 0
    · have e2 : wayV p1 p2 j = [.int .i64 ((p1 j).getD 0), .bool (p1 j).isSome] := by simp [wayV, sentV, h2]
      rw [e2] at hl
      rw [if_pos (by omega)]
      exact hereInt w _ _ _ _ _ _ t (by omega) hl
    · have e2 : wayV p1 p2 j = .int .i64 ((p2 j).getD 0) :: .bool (p2 j).isSome :: sentV (p1 j) := by simp [wayV, sentV, h2]
      rw [e2] at hl
      rw [if_neg (by omega)]
      exact hereInt w _ _ _ _ _ _ t (by omega) hl
  · have e1 : ptrV (lineF n lb k) = .pointer none := by simp [ptrV, lineF, hk]
    rw [e1, hereO, if_neg hk]
    exact hereNil w
theorem WiresAt.drewN {B : Nat} {w : World} {pw bl bg n ng : Nat} {lb lw : Nat → Nat} {p1 p2 g : Int → Option Int} {t : Int} (h : WiresAt B w pw bl bg n ng lb lw p1 p2 g t) (q : Nat) : WiresAt B (w.drewN q) pw bl bg n ng lb lw p1 p2 g t :=
  ⟨h.blk.drewN q, h.hn, MapOf.block h.lines rfl, MapOf.block h.given rfl, h.ne, fun k hk => (h.line k hk).drewN q, h.inj, h.ge⟩
/-- The link of which is asked. -/
def linkOf (n d node hop : Int) : Int := linkI n d (srcI n d node hop) hop
set_option maxHeartbeats 2000000 in
theorem wHere {B : Nat} {w : World} {pw bl bg n ng : Nat} {lb lw : Nat → Nat} {p1 p2 g : Int → Option Int} {t : Int} (h : WiresAt B w pw bl bg n ng lb lw p1 p2 g t) (hs : Signs w) (d node hop : Int) (hd : 0 ≤ d) :
    Calls Tryd.prog 37 #[.pointer (some ⟨pw, 0, none⟩), .int .u8 d, .int .i64 node, .int .i64 hop] w fun e w' => e = .returned (.tuple #[.int .i64 ((hereO n p1 p2 (linkOf n d node hop)).getD 0), .bool (hereO n p1 p2 (linkOf n d node hop)).isSome]) ∧ ∃ q, w' = w.drewN q := by
  have T := Lib.hid (wThere h)
  have hkw : (Lit.int .i64 (linkOf n d node hop)).wf = true := by
    have h1 : IntKind.i64.min = -9223372036854775808 := by decide
    have h2 : IntKind.i64.max = 9223372036854775807 := by decide
    have := linkI_range (n := n) (i := srcI n d node hop) (h := hop) hd
    simp [Lit.wf, h1, h2, linkOf]
    omega
  have SR := Lib.hid (ringsSource w.drew n d node hop (hs.drew 1) hd)
  have LK := Lib.hid (fun W => ringsLink W n d (srcI n d node hop) hop hd)
  have hcl : Hid (∀ W, (∃ q, W = w.drewN q) → W.cell? ⟨pw, 0, none⟩ = some (.map (some bl)) ∧ W.cell? ⟨pw, 1, none⟩ = some (.int .i64 n)) := fun W hW => by
    obtain ⟨q, rfl⟩ := hW
    exact ⟨h.cells.1.1, h.cells.1.2.1⟩
  have hlk : Hid (∀ W, (∃ q, W = w.drewN q) → (Instr.lookup 75 (.map (some bl)) (.int .i64 (linkOf n d node hop)) false).run Tryd.prog W = .ok (ptrV (lineF n lb (linkOf n d node hop))) W) := fun W hW => by
    obtain ⟨q, rfl⟩ := hW
    exact (h.drewN q).lines.look hkw
  have HL := Lib.hid (fun q => hereLine (h.drewN q) (linkOf n d node hop))
  have e0 : linkI n d (srcI n d node hop) hop = linkOf n d node hop := rfl
  rw [e0] at LK
  clear e0
  generalize linkOf n d node hop = K at *
  generalize srcI n d node hop = S at *
  generalize ptrV (lineF n lb K) = pv at *
  generalize (hereO n p1 p2 K).getD 0 = ov at *
  generalize (hereO n p1 p2 K).isSome = os at *
  have hlt := h.cells.2.2
  obtain ⟨c0, c1⟩ := hcl.out w ⟨0, rfl⟩
  have d1 := hcl.out w.drew ⟨1, rfl⟩
  clear h hs
  go_enter Tryd.func37, Tryd.ntmps37
  go_wp2_with fail
  refine T.out.mono ?_
  rintro e _ ⟨rfl, rfl⟩
  go_wp2_with fail
  go_region_held3 (fun W => W.cell? ⟨pw, 0, none⟩ = some (.map (some bl)) ∧ W.cell? ⟨pw, 1, none⟩ = some (.int .i64 n))
    (first | exact d1 | exact d5 | exact d6)
    (first
      | (go_at_call 22
         (with_reducible refine SR.out.mono ?_)
         rintro e w5 ⟨rfl, hq5⟩
         have hq5' : ∃ q, w5 = w.drewN q := by
           obtain ⟨q, rfl⟩ := hq5
           exact ⟨1 + q, by simp⟩
         clear hq5
         have d5 := hcl.out w5 hq5'
         have l5 := hlk.out w5 hq5')
      | (go_at_call 24
         (with_reducible refine (LK.out _).mono ?_)
         rintro e _ ⟨rfl, rfl⟩)
      | (go_at_call 62
         (obtain ⟨q5, hq5⟩ := hq5'; rw [hq5]; refine (HL.out q5).mono ?_)
         rintro e w6 ⟨rfl, hq6⟩
         have hq6' : ∃ q, w6 = w.drewN q := by
           obtain ⟨q, rfl⟩ := hq6
           exact ⟨q5 + q, by simp⟩
         clear hq6
         have d6 := hcl.out w6 hq6')
      | fail)
  go_wp2_with fail
  go_ret2
  exact ⟨rfl, hq6'⟩
end Go.Proofs.YteogoddnefeleaaDoor
