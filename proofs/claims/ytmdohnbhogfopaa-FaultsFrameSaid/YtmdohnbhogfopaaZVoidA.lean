/- Great: is a word more than is gone through? -/
import Derived.Test.YtmdohnbhogfopaaZLivC
namespace Go.Proofs.Ytmdohnbhogfopaa
open Go.RowKit Go.Maps
set_option linter.unusedSimpArgs false
set_option linter.unusedVariables false
set_option maxRecDepth 100000
/-- Rows and cells of the first i rows. -/
def totN (R : List RowC) (i : Nat) : Nat := R.length + ((R.take i).map fun r => r.tab.length).sum
theorem totN_zero (R : List RowC) : totN R 0 = R.length := by simp [totN]
theorem totN_more {R : List RowC} {i : Nat} {r : RowC} (h : R[i]? = some r) : totN R (i + 1) = totN R i + r.tab.length := by
  unfold totN
  rw [List.take_add_one, h]
  simp
  omega
theorem totN_all {R : List RowC} (h : totN R R.length ≤ 800) : R.length ≤ 1000 ∧ ∀ r ∈ R, r.tab.length ≤ 1000 := by
  unfold totN at h
  rw [List.take_length] at h
  refine ⟨by omega, fun r hr => ?_⟩
  have : ∀ (L : List Nat) (x : Nat), x ∈ L → x ≤ L.sum := fun L => by
    induction L with
    | nil => intro x hx; cases hx
    | cons y L ih =>
      intro x hx
      simp only [List.sum_cons]
      rcases List.mem_cons.1 hx with rfl | hx
      · omega
      · have := ih x hx; omega
  have := this (R.map fun r => r.tab.length) r.tab.length (List.mem_map.2 ⟨r, hr, rfl⟩)
  omega
/-- A bool comes back of which something holds. -/
def AnyB (Q : Bool → Prop) (e : Ending) : Prop := ∃ b, e = .returned (.bool b) ∧ Q b
theorem AnyB.mk {Q : Bool → Prop} (b : Bool) (h : Q b) : AnyB Q (.returned (.bool b)) := ⟨b, rfl, h⟩
def GreatQ (w w' : World) (R : List RowC) (b : Bool) : Prop := Below w.heap.size w w' ∧ (b = false → R.length ≤ 1000 ∧ ∀ r ∈ R, r.tab.length ≤ 1000)
/-- Lengths that a law's argument has. -/
structure WordFit (R : List RowC) : Prop where
  ok : ∀ r ∈ R, RowOk r
  t : ∀ r ∈ R, r.tab.length ≤ 1100000000000
  n : R.length ≤ 1100000000000
def InvGr (w : World) (w1 : World) (R : List RowC) (n : Nat) (k : Nat) (a : Act) (wr : World) : Prop :=
  ∃ i, i + k = n ∧ w1 = wr ∧ totN R i ≤ 1200000000000 ∧ a.tmps.size = 30 ∧ a.defers = [] ∧ slot a 1 = .pointer (some ⟨w.heap.size, 0, none⟩) ∧ slot a 3 = .int .i64 (totN R i) ∧ slot a 4 = .int .i64 i
set_option maxHeartbeats 2000000 in
theorem greatW (w : World) (v : Value) (R : List RowC) (hw : WordAt 0 w v R) (hf : WordFit R) :
    Calls Try.prog 77 #[.agg #[v]] w fun e w' => AnyB (GreatQ w w' R) e := by
  obtain ⟨ao, n, cap, hnE, rfl, hT⟩ := hw.len
  have hn := hf.n
  have ht := Lib.hid hf.t
  have h0 := totN_zero R
  have hall : Hid (totN R n ≤ 800 → R.length ≤ 1000 ∧ ∀ r ∈ R, r.tab.length ≤ 1000) := by
    rw [hnE]
    exact totN_all
  rw [← hnE] at hn h0
  have hb0 := below_alloc w (.cells #[.slice ao n cap] 38)
  have c0 : (w.alloc (.cells #[.slice ao n cap] 38)).cell? ⟨w.heap.size, 0, none⟩ = some (.slice ao n cap) := (Blk.new w _ _).cell (i := 0) rfl
  have hT1 : Hid (∀ (i : Nat) (r : RowC), R[i]? = some r → ∃ ad tv m c, ao = some ad ∧ m = r.tab.length ∧ (w.alloc (.cells #[.slice ao n cap] 38)).cell? ⟨(ad.add (i * 57)).block, (ad.add (i * 57)).off + 56, none⟩ = some (.slice tv m c)) := fun i r hr => by
    obtain ⟨ad, rfl, tv, htv, hc⟩ := hT r i hr
    obtain ⟨a3, m, c, hm, rfl, _⟩ := htv.len
    have hl := (hf.ok r (List.mem_of_getElem? hr)).hd.length
    have h56 := hc 56 (.slice a3 m c) (by rw [List.getElem?_append_right (by omega)]; simp [hl])
    have h57 := below_cell h56 hb0 (World.block_lt_of_cell? w _ h56)
    rw [add_add', ← add_field] at h57
    exact ⟨ad, a3, m, c, rfl, hm, h57⟩
  clear hT hw hf
  replace hb0 := Lib.hid hb0
  replace hnE := Lib.hid hnE
  go_enter Try.func77, Try.ntmps77
  go_upto_region 1 with fail
  generalize w.alloc (.cells #[.slice ao n cap] 38) = w1 at *
  go_wp2_with fail
  refine wp_loop_k (InvGr w w1 R n) n ?_ ?_
  · exact ⟨0, by omega, rfl, by omega, by kernel_rfl, rfl, by kernel_rfl, by rw [h0]; kernel_rfl, by kernel_rfl⟩
  intro gk a wr hI K hK
  obtain ⟨i, hi0, rfl, hto, hs', hd', k1', k3', k4'⟩ := hI
  rw [fr30 a hs' hd']; simp only [k1', k3', k4']; clear hs' hd' k1' k3' k4'
  by_cases hlt : i < n
  · have g1 : decide ((i : Int) < (n : Int)) = true := by simp; omega
    have g2 : (i : Int) < (n : Int) := by omega
    obtain ⟨r, hr⟩ : ∃ r, R[i]? = some r := ⟨_, List.getElem?_eq_getElem (by have := hnE.out; omega)⟩
    have hmo := totN_more hr
    have htr := ht.out r (List.mem_of_getElem? hr)
    obtain ⟨ad, tv, m, c, rfl, hm, hc⟩ := hT1.out i r hr
    rw [← hm] at hmo htr
    by_cases h9 : totN R i < 900
    · have g3 : decide (((totN R i : Nat) : Int) < 900) = true := by simp; omega
      have g4 : IntKind.i64.wrap ((i : Int) + 1) = ((i + 1 : Nat) : Int) := by rw [wrapI _ (by omega) (by omega)]; omega
      have g5 : IntKind.i64.wrap (((totN R i : Nat) : Int) + (m : Int)) = ((totN R (i + 1) : Nat) : Int) := by rw [wrapI _ (by omega) (by omega)]; omega
      have g6 : totN R (i + 1) ≤ 1200000000000 := by omega
      clear hm hr htr hmo
      generalize totN R i = x at *
      generalize hy : totN R (i + 1) = y at *
      replace hy := Lib.hid hy
      replace hK := Lib.hid hK
      go_wp2_with fail
      exact hK.out (n - (i + 1)) _ _ (by omega) ⟨i + 1, by omega, rfl, by rw [hy.out]; exact g6, by kernel_rfl, rfl, by kernel_rfl, by rw [hy.out]; kernel_rfl, by kernel_rfl⟩
    · have g3 : decide (((totN R i : Nat) : Int) < 900) = false := by simp; omega
      have g4 : decide (800 < ((totN R i : Nat) : Int)) = true := by simp; omega
      clear hm hr htr hmo
      generalize totN R i = x at *
      go_wp2_with fail
      go_ret
      exact AnyB.mk true ⟨hb0.out, fun h => by cases h⟩
  have g1 : decide ((i : Int) < (n : Int)) = false := by simp; omega
  have g2 : ¬ (i : Int) < (n : Int) := by omega
  obtain rfl : i = n := by omega
  have hfin : Hid (¬ (800 : Int) < ((totN R i : Nat) : Int) → R.length ≤ 1000 ∧ ∀ r ∈ R, r.tab.length ≤ 1000) := fun h => hall.out (by omega)
  clear hall ht hT1
  generalize totN R i = x at *
  by_cases h8 : (800 : Int) < (x : Int)
  · have g5 : decide ((800 : Int) < (x : Int)) = true := by simp [h8]
    go_wp2_with fail
    go_ret
    exact AnyB.mk true ⟨hb0.out, fun h => by cases h⟩
  · have g5 : decide ((800 : Int) < (x : Int)) = false := by simp [h8]
    have hq := Lib.hid (hfin.out h8)
    clear hfin h8
    go_wp2_with fail
    go_ret
    exact AnyB.mk false ⟨hb0.out, fun _ => hq.out⟩
theorem greatR (w : World) (s : Int) (v : Value) (hv : ∃ a n k, v = .slice a n k) (R : List RowC) (hw : WordAt 0 w v R) (hf : WordFit R) :
    Calls Try.prog 29 #[.agg #[.int .u8 s, v]] w fun e w' => AnyB (GreatQ w w' R) e := by
  obtain ⟨a, n, k, rfl⟩ := hv
  have hb0 := Lib.hid (below_alloc w (.cells #[.int .u8 s, .slice a n k] 40))
  have P := Lib.hid (greatW _ _ R (hw.below hb0.out) hf)
  replace hw := Lib.hid hw
  replace hf := Lib.hid hf
  have c1 : (w.alloc (.cells #[.int .u8 s, .slice a n k] 40)).cell? ⟨w.heap.size, 1, none⟩ = some (.slice a n k) := (Blk.new w _ _).cell (i := 1) rfl
  go_enter Try.func29, Try.ntmps29
  go_upto_region 1 with fail
  generalize w.alloc (.cells #[.int .u8 s, .slice a n k] 40) = w1 at *
  go_wp2_with fail
  refine P.out.mono ?_
  rintro e w2 ⟨b, rfl, hb2, hR⟩
  have hb := Lib.hid (bthen hb0.out hb2)
  have hR2 : Hid (GreatQ w w2 R b) := ⟨hb.out, hR⟩
  clear hb2 P hR
  go_wp2_with fail
  go_ret
  exact AnyB.mk b hR2.out
end Go.Proofs.Ytmdohnbhogfopaa
