/- Wires: New. -/
import Derived.Test.YteogoddnefeleaaDoorWiresC
namespace Go.Proofs.YteogoddnefeleaaDoor
open Go.RowKit Go.Maps
set_option linter.unusedSimpArgs false
set_option linter.unusedVariables false
set_option maxRecDepth 100000
def noneG (x : Int) : Option Int := none
theorem nwLine (w : World) (k : Nat) : Calls Tryd.prog 58 #[.int .i64 ((k % 2 + 1 : Nat))] w fun e w' => ∃ bL bW, e = .returned (.tuple #[.pointer (some ⟨bL, 0, none⟩), .int .i64 0]) ∧
    LineInt w' bL bW (k % 2 + 1) (wayV noneG noneG k) 0 ∧ w.heap.size ≤ bL ∧ w.heap.size ≤ bW ∧ Below w.heap.size w w' := by
  by_cases h : k % 2 = 0
  · have e : wayV noneG noneG k = [.int .i64 0, .bool false] := by simp [wayV, h, sentV, noneG]
    rw [e, h]
    exact nwInt_1 w
  · have e : wayV noneG noneG k = [.int .i64 0, .bool false, .int .i64 0, .bool false] := by simp [wayV, h, sentV, noneG]
    have e2 : k % 2 = 1 := by omega
    rw [e, e2]
    exact nwInt_2 w
def lineP (i : Nat) (lb : Nat → Nat) (k : Int) : Option Nat := if 0 ≤ k ∧ k < i then some (lb k.toNat) else none
structure Making (B : Nat) (w : World) (pw bl bg n i : Nat) (lb lw : Nat → Nat) : Prop where
  blk : Blk w pw #[.map (some bl), .int .i64 n, .map (some bg), .int .i64 0] 80
  lines : MapP w bl i (lineP i lb)
  given : MapI w bg 0 noneG
  line : ∀ k, k < i → LineInt w (lb k) (lw k) (k % 2 + 1) (wayV noneG noneG k) 0
  inj : ∀ j k, j < i → k < i → j ≠ k → lb j ≠ lb k ∧ lw j ≠ lw k
  ge : ∀ k, k < i → B ≤ lb k ∧ B ≤ lw k
theorem Making.below {B : Nat} {w w' : World} {pw bl bg n i : Nat} {lb lw : Nat → Nat} (h : Making B w pw bl bg n i lb lw) (hb : Below w.heap.size w w') : Making B w' pw bl bg n i lb lw :=
  ⟨h.blk.below hb h.blk.lt, MapOf.touch h.lines (Touch.of_below hb (Nat.le_refl _) []) (by simp), MapOf.touch h.given (Touch.of_below hb (Nat.le_refl _) []) (by simp),
    fun k hk => (h.line k hk).touch (Touch.of_below hb (Nat.le_refl _) []) (by simp) (by simp), h.inj, h.ge⟩
/-- One line more. -/
theorem Making.more {B : Nat} {w w1 w2 : World} {pw bl bg n i bL bW : Nat} {lb lw : Nat → Nat} (h : Making B w pw bl bg n i lb lw) (hB : B ≤ w.heap.size) (hb : Below w.heap.size w w1) (hL : LineInt w1 bL bW (i % 2 + 1) (wayV noneG noneG i) 0) (h1 : w.heap.size ≤ bL) (h2 : w.heap.size ≤ bW)
    (hm : MapP w2 bl (i + 1) (fun x => if x = (i : Int) then some bL else lineP i lb x)) (ht : Touch [bl] w1 w2) (hne : bl ≠ bg) :
    Making B w2 pw bl bg n (i + 1) (fun j => if j = i then bL else lb j) (fun j => if j = i then bW else lw j) := by
  have h' := h.below hb
  refine ⟨h'.blk.touch ht (by simpa using (MapOf.ne_blk h'.lines h'.blk).symm), hm.congr fun x => ?_, MapOf.touch h'.given ht (by simpa using hne.symm), fun k hk => ?_, fun j k hj hk hjk => ?_, fun k hk => ?_⟩
  · simp only [lineP]
    by_cases hx : x = (i : Int)
    · subst hx
      rw [if_pos rfl, if_pos ⟨by omega, by omega⟩]
      simp
    · rw [if_neg hx]
      by_cases hx2 : 0 ≤ x ∧ x < (i : Int)
      · rw [if_pos hx2, if_pos ⟨hx2.1, by omega⟩, if_neg (by omega)]
      · rw [if_neg hx2, if_neg (by omega)]
  · by_cases hk2 : k = i
    · subst hk2
      simp only [if_true]
      exact hL.touch ht (by simpa using (MapOf.ne_blk h'.lines hL.1).symm) (by simpa using (MapOf.ne_blk h'.lines hL.2).symm)
    · simp only [hk2, if_false]
      have := h'.line k (by omega)
      exact this.touch ht (by simpa using (MapOf.ne_blk h'.lines this.1).symm) (by simpa using (MapOf.ne_blk h'.lines this.2).symm)
  · by_cases hj2 : j = i
    · have hk2 : k ≠ i := by omega
      have := (h.line k (by omega)).lt
      simp only [hj2, hk2, if_true, if_false]
      omega
    · by_cases hk2 : k = i
      · have := (h.line j (by omega)).lt
        simp only [hj2, hk2, if_true, if_false]
        omega
      · simp only [hj2, hk2, if_false]
        exact h.inj j k (by omega) (by omega) hjk
  · by_cases hk2 : k = i
    · simp only [hk2, if_true]
      omega
    · simp only [hk2, if_false]
      exact h.ge k (by omega)
def InvNew (w w1 : World) (pw bl bg n : Nat) (k : Nat) (a : Act) (wr : World) : Prop :=
  ∃ (i : Nat) (lb lw : Nat → Nat), i + k = 4 * n ∧ Below w.heap.size w wr ∧ Making w.heap.size wr pw bl bg n i lb lw ∧ w.heap.size ≤ wr.heap.size ∧ a.tmps.size = 48 ∧ a.defers = [] ∧ slot a 0 = .int .i64 n ∧ slot a 4 = .pointer (some ⟨pw, 0, none⟩) ∧ slot a 23 = .int .i64 ((4 * n : Nat)) ∧ slot a 24 = .int .i64 i
set_option maxHeartbeats 4000000 in
theorem wNew (w : World) (n : Nat) (hn : 4 ≤ n ∧ n ≤ 16) (hs : Signs w) : Calls Tryd.prog 34 #[.int .i64 n] w fun e w' => ∃ pw bl bg lb lw, e = .returned (.tuple #[.pointer (some ⟨pw, 0, none⟩), .int .i64 0]) ∧ WiresAt w.heap.size w' pw bl bg n 0 lb lw noneG noneG noneG 0 ∧ Below w.heap.size w w' := by
  have g1 : ¬ (n : Int) < 4 := by omega
  have g2 : ¬ (16 : Int) < (n : Int) := by omega
  have g3 : decide ((n : Int) < 4) = false := by simp; omega
  have g4 : decide ((16 : Int) < (n : Int)) = false := by simp; omega
  have u1 : IntKind.i64.wrap (4 * (n : Int)) = ((4 * n : Nat) : Int) := by rw [wrap_i64_small _ (by omega) (by omega)]; omega
  have hmm := @run_makeMap Tryd.prog
  go_enter Tryd.func34, Tryd.ntmps34
  go_wp2_with fail
  have hb3 : Below w.heap.size w (((w.alloc (.map #[] 0)).alloc (.map #[] 0)).alloc (.cells #[.map (some w.heap.size), .int .i64 n, .map (some (w.heap.size + 1)), .int .i64 0] 80)) :=
    ((below_alloc _ _).trans ((below_alloc _ _).mono (by simp))).trans ((below_alloc _ _).mono (by simp; omega))
  have hM0 : Making w.heap.size (((w.alloc (.map #[] 0)).alloc (.map #[] 0)).alloc (.cells #[.map (some w.heap.size), .int .i64 n, .map (some (w.heap.size + 1)), .int .i64 0] 80)) (w.heap.size + 2) w.heap.size (w.heap.size + 1) n 0 (fun _ => 0) (fun _ => 0) := by
    refine ⟨?_, ?_, ?_, fun k hk => absurd hk (by omega), fun j k hj => absurd hj (by omega), fun k hk => absurd hk (by omega)⟩
    · have := Blk.new ((w.alloc (.map #[] 0)).alloc (.map #[] 0)) #[.map (some w.heap.size), .int .i64 n, .map (some (w.heap.size + 1)), .int .i64 0] 80
      simpa using this
    · have h0 := MapOf.made w ptrE
      have h1 := (h0.touch ((Touch.refl [] _).alloc (.map #[] 0)) (by simp)).touch ((Touch.refl [] _).alloc (.cells #[.map (some w.heap.size), .int .i64 n, .map (some (w.heap.size + 1)), .int .i64 0] 80)) (by simp)
      exact h1.congr fun x => by
        have : lineP 0 (fun _ => 0) x = none := by rw [lineP, if_neg (by omega)]
        rw [this]; rfl
    · have h0 := MapOf.made (w.alloc (.map #[] 0)) (plainElem Tryd.prog 3)
      have h1 := h0.touch ((Touch.refl [] _).alloc (.cells #[.map (some w.heap.size), .int .i64 n, .map (some (w.heap.size + 1)), .int .i64 0] 80)) (by simp)
      have h2 := h1.congr (f' := fun x => (noneG x).map intD) fun x => rfl
      have e : (w.alloc (.map #[] 0)).heap.size = w.heap.size + 1 := by simp
      rw [e] at h2
      exact h2
  have hs3 : w.heap.size ≤ (((w.alloc (.map #[] 0)).alloc (.map #[] 0)).alloc (.cells #[.map (some w.heap.size), .int .i64 n, .map (some (w.heap.size + 1)), .int .i64 0] 80)).heap.size := by simp; omega
  generalize ((w.alloc (.map #[] 0)).alloc (.map #[] 0)).alloc (.cells #[.map (some w.heap.size), .int .i64 n, .map (some (w.heap.size + 1)), .int .i64 0] 80) = w3 at *
  refine wp_loop_k (InvNew w w3 (w.heap.size + 2) w.heap.size (w.heap.size + 1) n) (4 * n) ?_ ?_
  · exact ⟨0, _, _, by omega, hb3, hM0, hs3, by kernel_rfl, rfl, by kernel_rfl, by kernel_rfl, by kernel_rfl, by kernel_rfl⟩
  clear hM0 hb3 hmm u1
  intro gk a wr hI K hK
  obtain ⟨i, lb, lw, hi, hbw, hM, hsz, hs', hd', k0', k4', k23', k24'⟩ := hI
  rw [fr48 a hs' hd']; simp only [k0', k4', k23', k24']; clear hs' hd' k0' k4' k23' k24'
  by_cases hil : i < 4 * n
  · have q1 : decide ((i : Int) < ((4 * n : Nat) : Int)) = true := by simp; omega
    have q2 : (i : Int) < ((4 * n : Nat) : Int) := by omega
    have q3 : decide (i < 4 * n) = true := by simp; omega
    have q4 : (i : Int) < 4 * (n : Int) := by omega
    have hE : endsV n i = .tuple #[.int .i64 (endF n i), .int .i64 (endT n i), .int .u8 (endD n i), .int .i64 ((i % 2 + 1 : Nat))] := by
      have : endH n i = ((i % 2 + 1 : Nat) : Int) := by
        have : okE (n : Int) (i : Int) = true := by simp [okE, okR]; omega
        simp [endH, this]
      simp [endsV, this]
    have ED := Lib.hid (ringsEnds wr n i (hs.to hbw))
    rw [hE] at ED
    generalize endF (n : Int) (i : Int) = eF at *
    generalize endT (n : Int) (i : Int) = eT at *
    generalize endD (n : Int) (i : Int) = eD at *
    have NL := Lib.hid (fun W => nwLine W i)
    generalize hhop : ((i % 2 + 1 : Nat) : Int) = hop at *
    replace hhop := Lib.hid hhop
    have c0 := hM.blk.cell (i := 0) rfl
    have hMl := Lib.hid hM
    clear hE hM
    have w1' : IntKind.i64.wrap ((i : Int) + 1) = (i : Int) + 1 := wrap_i64_small _ (by omega) (by omega)
    have hiw : (Lit.int .i64 (i : Int)).wf = true := by
      have h1 : IntKind.i64.min = -9223372036854775808 := by decide
      have h2 : IntKind.i64.max = 9223372036854775807 := by decide
      simp [Lit.wf, h1, h2]
      omega
    go_wp2_with fail
    refine ED.out.mono ?_
    rintro e w4 ⟨rfl, hq4⟩
    have hb4 : Below wr.heap.size wr w4 := by
      obtain ⟨q, rfl⟩ := hq4
      exact below_drewN _ _
    have hM4 := Lib.hid (hMl.out.below hb4)
    clear hq4 c0
    have c0 := hM4.out.blk.cell (i := 0) rfl
    have d4 : w4.drew.cell? ⟨w.heap.size + 2, 0, none⟩ = some (.map (some w.heap.size)) := c0
    have hbd : Below w4.heap.size w4 w4.drew := below_drewN w4 1
    have hM4d := Lib.hid (hM4.out.below hbd)
    go_wp2_with fail
    go_region_held3 (fun W => W.cell? ⟨w.heap.size + 2, 0, none⟩ = some (.map (some w.heap.size)))
      (first | exact d4 | exact d5 | exact d6)
      (first
        | (go_at_call 58
           (with_reducible refine (NL.out _).mono ?_)
           rintro e w5 ⟨bL, bW, rfl, hL5, h1, h2, hb5⟩
           have hM5 := hM4d.out.below hb5
           have d5 := hM5.blk.cell (i := 0) rfl
           obtain ⟨w6, hr6, hm6, ht6⟩ := hM5.lines.store (k := (i : Int)) (by omega) hiw bL
           have d6 := (hM5.blk.touch ht6 (by simp)).cell (i := 0) rfl
           have hM6 := Lib.hid (hM4d.out.more (Nat.le_trans hsz (Nat.le_trans hb4.size hbd.size)) hb5 hL5 h1 h2 hm6 ht6 (by omega)))
        | fail)
    go_wp2_with fail
    refine hK (4 * n - (i + 1)) _ _ (by omega) ⟨i + 1, _, _, by omega, ?_, hM6.out, ?_, by kernel_rfl, rfl, by kernel_rfl, by kernel_rfl, by kernel_rfl, by kernel_rfl⟩
    · have := ht6.below (hbw.trans ((bthen (bthen hb4 hbd) hb5).mono hsz)) (Nat.le_trans hsz (bthen (bthen hb4 hbd) hb5).size) (by simp)
      exact this
    · exact Nat.le_trans (Nat.le_trans hsz (bthen (bthen hb4 hbd) hb5).size) ht6.size
  · have q1 : decide ((i : Int) < ((4 * n : Nat) : Int)) = false := by simp; omega
    obtain rfl : i = 4 * n := by omega
    have q2 : ¬ ((4 * n : Nat) : Int) < ((4 * n : Nat) : Int) := by omega
    go_wp2_with fail
    go_ret2
    refine ⟨_, rfl, ⟨_, _, lb, lw, ⟨hM.blk, hn, hM.lines.congr fun x => ?_, hM.given, by omega, hM.line, hM.inj, by omega, by omega, by omega, hM.ge⟩⟩, hbw⟩
    simp only [lineP, lineF]
    by_cases hx : 0 ≤ x ∧ x < 4 * (n : Int)
    · rw [if_pos hx, if_pos ⟨hx.1, by omega⟩]
    · rw [if_neg hx, if_neg (by omega)]
end Go.Proofs.YteogoddnefeleaaDoor
