/- Frames: tails, Syms. -/
import Derived.Test.YtbfbpagfmhdblaaFramesB
import Derived.Test.YtbfbpagfmhdblaaConcatS
import Derived.Laws.StructEq
import Derived.ChangeKeysEq
namespace Go.Proofs.Ytbfbpagfmhdblaa
open Go.RowKit
set_option linter.unusedSimpArgs false
set_option linter.unusedVariables false
set_option maxRecDepth 100000
/-- A tail's value; its symbols. -/
def tailV (wh un : Bool) : Value := .agg #[.bool wh, .bool un]
def symI (b : Bool) : Int := if b then 2 else 1
def tailSL (wh un : Bool) : Nat → Int := at2 (symI wh) (symI un)
def goodB (wh un : Bool) : Bool := wh && !un
def lenS (o k : Int) : Nat := if mayB o k then 114 else 0
def frSL (o k st sq v : Int) (wh un : Bool) : Nat → Int := appL (ofL (frL o k st sq v)) 112 (tailSL wh un)
theorem elemB : (Try.prog.info? 4).map (fun i => (i.zero, i.size, i.bytes)) = some (some (.bool false), 1, 1) := by kernel_rfl
theorem eq_two (W : World) (a b c d : Bool) : (Op.equalIn 10000 26 (.agg #[.bool a, .bool b]) (.agg #[.bool c, .bool d])).run Try.prog W = .ok ((a == c) && (b == d)) W := by
  obtain ⟨i0, hi, hz0, hz1, hz2⟩ := info_parts elemB
  rw [run_equalIn_array W 9999 _ _ Try.underlying26 hi]
  have hc : Try.prog.cellsOf 4 = 1 := by kernel_rfl
  rw [hc]
  have hr : List.range 2 = [0, 1] := rfl
  rw [hr]
  cases a <;> cases b <;> cases c <;> cases d <;> simp [Op.eqItems, go_sem]
theorem idx_two (W : World) (a b : Bool) : (Instr.index 26 (.agg #[.bool a, .bool b]) (.int .i64 0)).run Try.prog W = .ok (.bool a) W ∧ (Instr.index 26 (.agg #[.bool a, .bool b]) (.int .i64 1)).run Try.prog W = .ok (.bool b) W := by
  have h1 := Try.underlying26
  constructor <;> simp [Instr.index, go_sem, run_underlying h1]
theorem symI_byte (b : Bool) : 1 ≤ symI b ∧ symI b ≤ 2 := by cases b <;> simp [symI]
theorem frTailParts (w : World) (wh un : Bool) : Calls Try.prog 60 #[tailV wh un] w fun e w' => e = .returned (tailV wh un) ∧ Below w.heap.size w w' := by
  unfold tailV
  go_enter Try.func60, Try.ntmps60
  go_wp2
  refine bodyPost_ret (v := .agg #[.bool wh, .bool un]) (by simp [results, Try.results60, go_sem]) rfl ⟨rfl, (below_alloc _ _).trans ((below_alloc _ _).mono (by simp))⟩
theorem frGoodT (w : World) : Calls Try.prog 61 #[] w fun e w' => e = .returned (tailV true false) ∧ Below w.heap.size w w' := by
  unfold tailV
  go_enter Try.func61, Try.ntmps61
  go_wp2
  refine bodyPost_ret (v := .agg #[.bool true, .bool false]) (by simp [results, Try.results61, go_sem]) rfl ⟨rfl, below_alloc _ _⟩
theorem frGood (w : World) (wh un : Bool) : Calls Try.prog 21 #[tailV wh un] w fun e w' => e = .returned (.bool (goodB wh un)) ∧ Below w.heap.size w w' := by
  unfold tailV
  go_enter Try.func21, Try.ntmps21
  go_wp2_with fail
  refine (frTailParts _ wh un).mono ?_
  rintro e w1 ⟨rfl, hb1⟩
  go_wp2_with fail
  refine (frGoodT _).mono ?_
  rintro e w2 ⟨rfl, hb2⟩
  have hb := bthen (bthen (below_alloc _ _) hb1) hb2
  clear hb1 hb2
  have hq := fun W => eq_two W wh un true false
  have hg : (wh == true && un == false) = goodB wh un := by cases wh <;> cases un <;> rfl
  rw [hg] at hq
  simp only [tailV]
  go_wp2
  go_ret
  exact ⟨rfl, hb⟩
def InvTS (w : World) (B : Nat) (wh un : Bool) (k : Nat) (a : Act) (wr : World) : Prop :=
  ∃ (i : Nat) (ao : Option Addr), i + k = 2 ∧ Below w.heap.size w wr ∧ Mine .u8 77 w.heap.size wr ao i (tailSL wh un) ∧ (ao = none → i = 0) ∧ a.tmps.size = 18 ∧ a.defers = [] ∧ slot a 3 = .slice ao i i ∧ slot a 8 = tailV wh un ∧ slot a 9 = .int .i64 i
theorem put_one (L : Nat → Int) (n : Nat) (b : Bool) : ∀ i, putL L n (if b then 1 else 0) 1 i = if i < n then L i else if i = n then symI b else putL L n (if b then 1 else 0) 1 i := fun i => by
  unfold putL
  by_cases h : i < n
  · simp [h]
  · by_cases h2 : i = n
    · subst h2
      cases b <;> simp [symI, bitN]
    · simp [h, h2]
theorem bitsOf_one : bitsOf 1 = 1 := by decide
set_option maxHeartbeats 2000000 in
theorem frTailSyms (w : World) (wh un : Bool) : Calls Try.prog 23 #[tailV wh un] w fun e w' => ∃ a, e = .returned (.slice a 2 2) ∧ Mine .u8 77 w.heap.size w' a 2 (tailSL wh un) ∧ Below w.heap.size w w' := by
  have hT : Hid (tailV wh un = tailV wh un) := rfl
  have hu : tailV wh un = .agg #[.bool wh, .bool un] := rfl
  rw [hu]
  go_enter Try.func23, Try.ntmps23
  go_wp2_with fail
  refine (frTailParts _ wh un).mono ?_
  rintro e w1 ⟨rfl, hb1⟩
  have hb := bthen (below_alloc _ _) hb1
  clear hb1 hu
  go_wp2
  refine wp_loop_k (InvTS w 0 wh un) 2 ?_ ?_
  · exact ⟨0, none, by omega, hb, Mine.nil _ _ _ _ _ _, fun _ => rfl, by kernel_rfl, rfl, by kernel_rfl, by kernel_rfl, by kernel_rfl⟩
  intro gk1 a wr hI K1 hK1
  obtain ⟨i, ao, hi, hbw, hm, hnil, hs', hd', k3', k8', k9'⟩ := hI
  rw [fr18 a hs' hd']; simp only [k3', k8', k9']; clear hs' hd' k3' k8' k9'
  clear hb
  have hstep : Hid (∀ (b : Bool), i < 2 → tailSL wh un i = symI b → Calls Try.prog 62 #[.slice ao i i, .int .u64 (if b then 1 else 0), .int .i64 1] wr fun e w' => ∃ a, e = .returned (.slice a (i + 1) (i + 1)) ∧ Mine .u8 77 w.heap.size w' a (i + 1) (tailSL wh un) ∧ Below w.heap.size w w') := fun b hi2 hb => by
    have C := bitsPut wr ao i i (tailSL wh un) (if b then 1 else 0) 1 hm.rd (fun e => ⟨hnil e, hnil e⟩) (by omega) (by cases b <;> simp)
    rw [bitsOf_one] at C
    have e1 : (((if b then 1 else 0 : Nat)) : Int) = if b then 1 else 0 := by cases b <;> rfl
    rw [e1] at C
    refine C.mono ?_
    rintro e w' ⟨a, rfl, m, hbb⟩
    refine ⟨a, rfl, (m.mono hbw.size).congr fun j hj => ?_, hbw.trans (hbb.mono hbw.size)⟩
    rw [put_one]
    by_cases h : j < i
    · rw [if_pos h]
    · obtain rfl : j = i := by omega
      rw [if_neg (by omega), if_pos rfl, hb]
  by_cases h0 : i = 0
  · subst h0
    simp only [tailV]
    have hix := fun W => (idx_two W wh un).1
    cases wh
    all_goals
      go_wp2_with fail
      first
        | (have C := hstep.out false (by omega) rfl
           simp only [Bool.false_eq_true, if_false] at C
           with_reducible refine C.mono ?_)
        | (have C := hstep.out true (by omega) rfl
           simp only [if_true] at C
           with_reducible refine C.mono ?_)
        | fail
      rintro e w2 ⟨a2, rfl, m2, hb2⟩
      go_wp2_with fail
      exact hK1 1 _ _ (by omega) ⟨1, a2, by omega, hb2, m2, fun e => by have := m2.none e; omega, by kernel_rfl, rfl, by kernel_rfl, by kernel_rfl, by kernel_rfl⟩
  by_cases h1 : i = 1
  · subst h1
    simp only [tailV]
    have hix := fun W => (idx_two W wh un).2
    cases un
    all_goals
      go_wp2_with fail
      first
        | (have C := hstep.out false (by omega) rfl
           simp only [Bool.false_eq_true, if_false] at C
           with_reducible refine C.mono ?_)
        | (have C := hstep.out true (by omega) rfl
           simp only [if_true] at C
           with_reducible refine C.mono ?_)
        | fail
      rintro e w2 ⟨a2, rfl, m2, hb2⟩
      go_wp2_with fail
      exact hK1 0 _ _ (by omega) ⟨2, a2, by omega, hb2, m2, fun e => by have := m2.none e; omega, by kernel_rfl, rfl, by kernel_rfl, by kernel_rfl, by kernel_rfl⟩
  · obtain rfl : i = 2 := by omega
    go_wp2
    go_ret
    exact ⟨_, rfl, hm, hbw⟩
set_option maxHeartbeats 2000000 in
theorem frSyms (w : World) (o k st sq v : Int) (wh un : Bool) (hk : 0 ≤ k ∧ k < 256) (hst : 0 ≤ st ∧ st < 256) (hsq : 0 ≤ sq ∧ sq < 4294967296) (hv : 0 ≤ v ∧ v < 4294967296) :
    Calls Try.prog 17 #[frV o k st sq v, tailV wh un] w fun e w' => ∃ a, e = .returned (.tuple #[.slice a (lenS o k) (lenS o k), .int .i64 (errF o k)]) ∧ Mine .u8 77 w.heap.size w' a (lenS o k) (frSL o k st sq v wh un) ∧ Below w.heap.size w w' := by
  have P1 := Lib.hid (fun W => frPut W o k st sq v hk hst hsq hv)
  have P2 := Lib.hid (fun W => frTailSyms W wh un)
  cases hm : mayB o k with
  | false =>
    simp only [lenS, errF, lenF, hm] at P1 ⊢
    unfold frV tailV
    go_enter Try.func17, Try.ntmps17
    go_wp2_with fail
    refine (P1.out _).mono ?_
    rintro e w1 ⟨a, rfl, _, hb1⟩
    go_wp2_with fail
    refine bodyPost_ret (v := .tuple #[.slice none 0 0, .int .i64 1]) (by simp [results, Try.results17, go_sem]) rfl ⟨_, rfl, Mine.nil _ _ _ _ _ _, bthen ((below_alloc _ _).trans ((below_alloc _ _).mono (by simp))) hb1⟩
  | true =>
    have hfb := Lib.hid (frL_byte (sq := sq) (v := v) hm hst)
    simp only [lenS, errF, lenF, hm, if_true] at P1 ⊢
    clear hm
    unfold frV tailV
    go_enter Try.func17, Try.ntmps17
    go_wp2_with fail
    have hT0 : Blk ((w.alloc (.cells #[.int .i64 o, .int .u8 k, .int .u8 st, .int .u32 sq, .int .u32 v] 34)).alloc (.cells #[.bool wh, .bool un] 38)) (w.heap.size + 1) #[.bool wh, .bool un] 38 := by
      have := Blk.new (w.alloc (.cells #[.int .i64 o, .int .u8 k, .int .u8 st, .int .u32 sq, .int .u32 v] 34)) #[.bool wh, .bool un] 38
      simpa using this
    refine (P1.out _).mono ?_
    rintro e w1 ⟨a, rfl, m1, hb1⟩
    have hT1 := hT0.below hb1 hT0.lt
    have hb01 := bthen ((below_alloc _ _).trans ((below_alloc _ _).mono (by simp))) hb1
    have x1 := Lib.hid m1.rd
    have hT1d := Lib.hid hT1.drew
    have hcl : Hid (∀ W, Blk W (w.heap.size + 1) #[.bool wh, .bool un] 38 → W.cell? ⟨w.heap.size + 1, 0, none⟩ = some (.bool wh) ∧ W.cell? ⟨w.heap.size + 1, 1, none⟩ = some (.bool un)) := fun W h => ⟨h.cell (i := 0) rfl, h.cell (i := 1) rfl⟩
    have d0 := hcl.out _ hT1d.out
    have hb01' := hb01
    clear m1 hT0 hb1 P1
    go_wp2_with fail
    unfold tailV at P2
    have P3 := Lib.hid (fun (W : World) (h : Rd .u8 W a 14 (frL o k st sq v)) => ofSyms W a 14 14 _ h hfb.out (by omega))
    have P4 := Lib.hid (fun (W : World) (B : Nat) (a1 a2 : Option Addr) (hB : Blk W B #[.slice a1 112 112, .slice a2 2 2] 40) (h1 : Rd .u8 W a1 112 (ofL (frL o k st sq v))) (h2 : Rd .u8 W a2 2 (tailSL wh un)) (n1 : a1 ≠ none) (n2 : a2 ≠ none) => by
      have C := concatS W (some ⟨B, 0, none⟩) 2 2 _ _ _ _ (parts2 hB ⟨h1, ⟨Nat.le_refl _, by omega, fun e => absurd e n1⟩, fun j _ => by unfold ofL bitN; omega⟩ ⟨h2, ⟨Nat.le_refl _, by omega, fun e => absurd e n2⟩, fun j _ => by
        have h3 := symI_byte wh
        have h4 := symI_byte un
        unfold tailSL at2
        split <;> omega⟩) (by omega) (by rw [catN2]; omega)
      rw [catN2, catL2] at C
      exact C)
    go_region_held3 (fun W => W.cell? ⟨w.heap.size + 1, 0, none⟩ = some (.bool wh) ∧ W.cell? ⟨w.heap.size + 1, 1, none⟩ = some (.bool un)) (first | exact d0 | exact d9 | exact d10 | exact hcl.out _ (hB10.alloc _) | exact hcl.out _ (hB10.below (bthen hb11 hb12) hB10.lt))
      (first
        | (go_at_call 58
           (with_reducible refine (P3.out _ x1.out.drew).mono ?_)
           rintro e w9 ⟨a9, rfl, m9, hb9⟩
           have hB9 := hT1d.out.below hb9 hT1d.out.lt
           have d9 := hcl.out _ hB9
           have hb09 := bthen (bthen hb01 (below_drewN w1 1)) hb9)
        | (go_at_call 23
           (with_reducible refine (P2.out _).mono ?_)
           rintro e w10 ⟨a10, rfl, m10, hb10⟩
           have hB10 := hB9.below hb10 hB9.lt
           have d10 := hcl.out _ hB10
           have hb010 := bthen hb09 hb10)
        | (go_at_call 57
           refine calls_abs (fun W => Below w10.heap.size w10 W ∧ Blk W w10.heap.size #[.slice a9 112 112, .slice a10 2 2] 40) ⟨below_alloc _ _, Blk.new _ _ _⟩ ?_
           rintro w11 ⟨hb11, hB11⟩
           (with_reducible refine (P4.out _ _ _ _ hB11 (m9.rd.below (bthen hb10 hb11) (Nat.le_refl _)) (m10.rd.below hb11 (Nat.le_refl _)) (fun e => by have := m9.none e; omega) (fun e => by have := m10.none e; omega)).mono ?_)
           rintro e w12 ⟨v12, rfl, hown, hb12⟩
           have hb011 := bthen hb010 hb11
           obtain ⟨a12, c12, rfl, q1, q2, q3, m12⟩ := own_mine hown
           have q4 : (114 : Int) ≤ (c12 : Int) := by omega
           have q5 : 114 ≤ c12 := q1)
        | fail)
    all_goals
      go_wp2_with fail
      refine bodyPost_ret (v := .tuple #[.slice a12 114 114, .int .i64 0]) (by simp [results, Try.results17, go_sem]) rfl ⟨_, rfl, m12.mono hb011.size, bthen hb011 hb12⟩
end Go.Proofs.Ytbfbpagfmhdblaa
