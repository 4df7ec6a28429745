/- WiresTrack: the walk. -/
import Derived.Test.YteogoddnefeleaaDoorWiresG
namespace Go.Proofs.YteogoddnefeleaaDoor
open Go.RowKit Go.Maps
set_option linter.unusedSimpArgs false
set_option linter.unusedVariables false
set_option maxRecDepth 100000
def sentG (a v x : Int) : Option Int := if x = a then some v else none
theorem give_sent {m : Nat} {k v : Int} (h : 0 ≤ k ∧ k < 4 * m) : giveG m noneG k v = sentG k v := by
  funext x
  unfold giveG sentG noneG
  rw [if_pos h]
def dirT (z : Bool) : Int := if z then 1 else 0
def hopT (z : Bool) : Nat := if z then 2 else 1
def atN (m d hop st : Int) (c : Nat) : Int := (st + sgn d * (hop * c)) % m
theorem atN_zero {m d hop st : Int} (h : 0 ≤ st ∧ st < m) : atN m d hop st 0 = st := by
  unfold atN
  rw [show st + sgn d * (hop * ((0 : Nat) : Int)) = st by simp]
  exact Int.emod_eq_of_lt h.1 h.2
theorem atN_in {m d hop st : Int} {c : Nat} (h : 4 ≤ m ∧ m ≤ 16) : 0 ≤ atN m d hop st c ∧ atN m d hop st c < m := emod_in h.1
theorem stepT {m d a s : Int} (h : 4 ≤ m ∧ m ≤ 16) (hd : d = 0 ∨ d = 1) (ha : 0 ≤ a ∧ a < m) : stepI m d a s = (a + sgn d * s) % m := by
  have h1 : okR m d = true := by simp [okR]; omega
  have h2 : inR m a = true := by simp [inR]; omega
  simp [stepI, h1, h2]
theorem atN_step {m d hop st : Int} {c : Nat} (h : 4 ≤ m ∧ m ≤ 16) (hd : d = 0 ∨ d = 1) : stepI m d (atN m d hop st c) hop = atN m d hop st (c + 1) := by
  rw [stepT h hd (atN_in h)]
  unfold atN
  rw [Int.emod_add_emod]
  congr 1
  rw [Int.add_assoc, ← Int.mul_add]
  congr 2
  push_cast
  rw [Int.mul_add, Int.mul_one]
theorem linkT {m d a hop : Int} (h : 4 ≤ m ∧ m ≤ 16) (hd : d = 0 ∨ d = 1) (ha : 0 ≤ a ∧ a < m) (hh : hop = 1 ∨ hop = 2) : linkI m d a hop = 4 * a + 2 * d + hop - 1 := by
  have h1 : okR m d = true := by simp [okR]; omega
  have h2 : inR m a = true := by simp [inR]; omega
  have h3 : okH hop = true := by rcases hh with rfl | rfl <;> decide
  simp [linkI, h1, h2, h3]
theorem linkOfT {m d a hop : Int} (h : 4 ≤ m ∧ m ≤ 16) (hd : d = 0 ∨ d = 1) (ha : 0 ≤ a ∧ a < m) (hh : hop = 1 ∨ hop = 2) : linkOf m d (stepI m d a hop) hop = linkI m d a hop := by
  have e1 := stepT (s := hop) h hd ha
  have hi : 0 ≤ (a + sgn d * hop) % m ∧ (a + sgn d * hop) % m < m := emod_in h.1
  have h3 : okH hop = true := by rcases hh with rfl | rfl <;> decide
  have e2 : srcI m d (stepI m d a hop) hop = a := by
    rw [e1, srcI, if_pos h3, stepT h hd hi]
    exact ((back_iff h.1 h.2 hd hi ha hh).1 rfl).symm
  unfold linkOf
  rw [e2]
theorem here_track {m : Nat} {d a : Int} {hN T : Nat} {p2 : Int → Option Int} (h : 4 ≤ (m : Int) ∧ (m : Int) ≤ 16) (hd : d = 0 ∨ d = 1) (ha : 0 ≤ a ∧ a < m) (hh : hN = 1 ∨ hN = 2)
    (hp : hN = 2 → p2 = if T % 2 = 1 then sentG (linkI m d a hN) 9 else noneG) :
    hereO m (if T % hN = 0 then sentG (linkI m d a hN) 9 else noneG) p2 (linkOf m d (stepI m d a hN) hN) = if (T + 1) % hN = 0 then some 9 else none := by
  rw [linkOfT h hd ha (by omega)]
  have e := linkT (hop := hN) h hd ha (by omega)
  generalize linkI m d a hN = K at *
  unfold hereO
  rw [if_pos (by omega)]
  rcases hh with rfl | rfl
  · rw [if_pos (by omega), if_pos (by omega), if_pos (by omega)]
    simp [sentG]
  · rw [if_neg (by omega), hp rfl]
    by_cases hT : T % 2 = 1
    · rw [if_pos hT, if_pos (by omega)]
      simp [sentG]
    · rw [if_neg hT, if_neg (by omega)]
      rfl
/-- Where it is behind T ticks, and on the wires. -/
def InvT (B : Nat) (w : World) (m pw many hN : Nat) (d st : Int) (NN : Nat) (k : Nat) (a : Act) (wr : World) : Prop :=
  ∃ (T : Nat) (p2 : Int → Option Int), T + k = NN ∧ Hid (Below B w wr) ∧ Hid (hN = 2 → p2 = if T % 2 = 1 then sentG (linkI m d (atN m d hN st (T / hN)) hN) 9 else noneG) ∧
    Hid (WA B wr pw m 64 (if T % hN = 0 then sentG (linkI m d (atN m d hN st (T / hN)) hN) 9 else noneG) p2 noneG ((T + 1 : Nat) : Int)) ∧
    a.tmps.size = 108 ∧ a.defers = [] ∧ slot a 7 = .int .i64 m ∧ slot a 8 = .int .i64 (atN m d hN st (T / hN)) ∧ slot a 9 = .int .i64 many ∧ slot a 10 = .int .u8 d ∧ slot a 11 = .int .i64 hN ∧ slot a 12 = .pointer (some ⟨pw, 0, none⟩) ∧ slot a 14 = .int .i64 st ∧ slot a 15 = .int .i64 ((T : Int) + 1)
set_option maxHeartbeats 16000000 in
theorem wiresTrack_any (w : World) (n x0 x1 : Int) (z0 z1 : Bool) (hs : Signs w) (hn : 0 ≤ n ∧ n < 256) (hx0 : 0 ≤ x0 ∧ x0 < 256) (hx1 : 0 ≤ x1 ∧ x1 < 256) :
    Calls Tryd.prog 10 #[.int .u8 n, .agg #[.int .u8 x0, .int .u8 x1], .agg #[.bool z0, .bool z1]] w fun e w' => e = .returned (.bool true) ∧ Below w.heap.size w w' := by
  have P0 : Hid (∀ W, Calls Tryd.prog 33 #[.int .u8 n] W fun e w' => e = .returned (.int .i64 (nodesN n)) ∧ W = w') := fun W => lawNodes8 W n hn.1 hn.2
  have hm := @nodesN_in n
  generalize nodesN n = m at *
  clear hn
  have t1 : Int.tmod x0 (m : Int) = x0 % (m : Int) := Int.tmod_eq_emod_of_nonneg hx0.1
  have t2 : Int.tmod x1 20 = ((x1 % 20).toNat : Int) := by rw [Int.tmod_eq_emod_of_nonneg hx1.1]; omega
  have u1 : IntKind.i64.wrap x0 = x0 := wrap_near _ (by omega) (by omega)
  have u2 : IntKind.i64.wrap x1 = x1 := wrap_near _ (by omega) (by omega)
  have ha : 0 ≤ x0 % (m : Int) ∧ x0 % (m : Int) < (m : Int) := ⟨Int.emod_nonneg _ (by omega), Int.emod_lt_of_pos _ (by omega)⟩
  have hb : (x1 % 20).toNat < 20 := by omega
  generalize x0 % (m : Int) = st at *
  generalize (x1 % 20).toNat = many at *
  have u3 : IntKind.i64.wrap st = st := wrap_near _ (by omega) (by omega)
  have u4 : IntKind.i64.wrap (many : Int) = many := wrap_near _ (by omega) (by omega)
  have m0 : (m : Int) ≠ 0 := by omega
  have m1 : ((m : Int) == 0) = false := by simp; omega
  have m2 : decide ((m : Int) = 0) = false := by simp; omega
  replace hs := Lib.hid hs
  clear hx0 hx1
  go_enter Tryd.func10, Tryd.ntmps10
  go_wp2_with fail
  have hbw : Below w.heap.size w ((w.alloc (.cells #[.int .u8 x0, .int .u8 x1] 41)).alloc (.cells #[.bool z0, .bool z1] 48)) := (below_alloc _ _).trans ((below_alloc _ _).mono (by simp))
  have hA0 : Blk ((w.alloc (.cells #[.int .u8 x0, .int .u8 x1] 41)).alloc (.cells #[.bool z0, .bool z1] 48)) w.heap.size #[.int .u8 x0, .int .u8 x1] 41 := (Blk.new w _ _).alloc _
  have hA1 : Blk ((w.alloc (.cells #[.int .u8 x0, .int .u8 x1] 41)).alloc (.cells #[.bool z0, .bool z1] 48)) (w.heap.size + 1) #[.bool z0, .bool z1] 48 := by
    have := Blk.new (w.alloc (.cells #[.int .u8 x0, .int .u8 x1] 41)) #[.bool z0, .bool z1] 48
    simpa using this
  have d0 : ((w.alloc (.cells #[.int .u8 x0, .int .u8 x1] 41)).alloc (.cells #[.bool z0, .bool z1] 48)).cell? ⟨w.heap.size, 0, none⟩ = some (.int .u8 x0) := hA0.cell (i := 0) rfl
  have d1 : ((w.alloc (.cells #[.int .u8 x0, .int .u8 x1] 41)).alloc (.cells #[.bool z0, .bool z1] 48)).cell? ⟨w.heap.size, 1, none⟩ = some (.int .u8 x1) := hA0.cell (i := 1) rfl
  have c0 : ((w.alloc (.cells #[.int .u8 x0, .int .u8 x1] 41)).alloc (.cells #[.bool z0, .bool z1] 48)).cell? ⟨w.heap.size + 1, 0, none⟩ = some (.bool z0) := hA1.cell (i := 0) rfl
  have c1 : ((w.alloc (.cells #[.int .u8 x0, .int .u8 x1] 41)).alloc (.cells #[.bool z0, .bool z1] 48)).cell? ⟨w.heap.size + 1, 1, none⟩ = some (.bool z1) := hA1.cell (i := 1) rfl
  clear hA0 hA1
  generalize ((w.alloc (.cells #[.int .u8 x0, .int .u8 x1] 41)).alloc (.cells #[.bool z0, .bool z1] 48)) = w1 at *
  replace hs := Lib.hid (hs.out.to hbw)
  have sg : Hid (∀ W, Below w1.heap.size w1 W → Signs W) := fun W h => hs.out.to h
  replace hbw := Lib.hid hbw
  refine (P0.out _).mono ?_
  rintro e _ ⟨rfl, rfl⟩
  go_upto_if 31 with fail
  clear d0 d1 t1 t2
  refine wp_cut (fun a wx => (w1 = wx) ∧ a.tmps.size = 108 ∧ a.defers = [] ∧ slot a 5 = .pointer (some ⟨w.heap.size + 1, 0, none⟩) ∧ slot a 7 = .int .i64 m ∧ slot a 8 = .int .i64 st ∧ slot a 9 = .int .i64 many ∧ slot a 10 = .int .u8 (dirT z0)) ?_ ?_
  · intro K' hK'
    cases z0
    all_goals
      go_wp2_with fail
      refine hK' _ _ trivial ⟨rfl, by kernel_rfl, rfl, by kernel_rfl, by kernel_rfl, by kernel_rfl, by kernel_rfl, by kernel_rfl⟩
  rintro a wx ⟨rfl, hs', hd', k5', k7', k8', k9', k10'⟩; rw [fr108 a hs' hd']; simp only [k5', k7', k8', k9', k10']; clear hs' hd' k5' k7' k8' k9' k10'
  have hd : dirT z0 = 0 ∨ dirT z0 = 1 := by cases z0 <;> simp [dirT]
  generalize dirT z0 = d at *
  go_upto_if 33 with fail
  refine wp_cut (fun a wx => (w1 = wx) ∧ a.tmps.size = 108 ∧ a.defers = [] ∧ slot a 7 = .int .i64 m ∧ slot a 8 = .int .i64 st ∧ slot a 9 = .int .i64 many ∧ slot a 10 = .int .u8 d ∧ slot a 11 = .int .i64 (hopT z1)) ?_ ?_
  · intro K' hK'
    cases z1
    all_goals
      go_wp2_with fail
      refine hK' _ _ trivial ⟨rfl, by kernel_rfl, rfl, by kernel_rfl, by kernel_rfl, by kernel_rfl, by kernel_rfl, by kernel_rfl⟩
  rintro a wx ⟨rfl, hs', hd', k7', k8', k9', k10', k11'⟩; rw [fr108 a hs' hd']; simp only [k7', k8', k9', k10', k11']; clear hs' hd' k7' k8' k9' k10' k11'
  have hh : hopT z1 = 1 ∨ hopT z1 = 2 := by cases z1 <;> simp [hopT]
  generalize hopT z1 = hN at *
  clear c0 c1
  have hmI : 4 ≤ (m : Int) ∧ (m : Int) ≤ 16 := by omega
  have hhI : (hN : Int) = 1 ∨ (hN : Int) = 2 := by omega
  have hd0 : 0 ≤ d := by omega
  have e0 : st = atN m d hN st (0 / hN) := by rw [Nat.zero_div, atN_zero ha]
  have hlk : ∀ c, 0 ≤ linkI m d (atN m d hN st c) hN ∧ linkI m d (atN m d hN st c) hN < 4 * (m : Int) := fun c => by
    have h1 := atN_in (d := d) (hop := hN) (st := st) (c := c) hmI
    rw [linkT hmI hd h1 hhI]
    omega
  have hNN : ∃ NN : Nat, NN = many * hN := ⟨_, rfl⟩
  obtain ⟨NN, hNN⟩ := hNN
  have hNNI : (many : Int) * (hN : Int) = (NN : Int) := by rw [hNN]; push_cast; rfl
  have hNNb : NN < 40 := by rcases hh with rfl | rfl <;> omega
  have u5 : IntKind.i64.wrap (NN : Int) = NN := wrap_near _ (by omega) (by omega)
  have hdiv : NN / hN = many := by rw [hNN]; exact Nat.mul_div_cancel _ (by omega)
  have hlast : stepI m d st (NN : Int) = atN m d hN st many := by
    rw [stepT hmI hd ha, ← hNNI]
    unfold atN
    rw [Int.mul_comm (many : Int)]
  replace hh := Lib.hid hh
  replace hhI := Lib.hid hhI
  replace hd := Lib.hid hd
  replace hlk := Lib.hid hlk
  replace hdiv := Lib.hid hdiv
  replace hlast := Lib.hid hlast
  replace hNN := Lib.hid hNN
  replace ha := Lib.hid ha
  replace e0 := Lib.hid e0
  replace hmI := Lib.hid hmI
  go_wp2_with fail
  refine (aNew _ _ hm hs.out).mono ?_
  rintro e w2 ⟨pw, rfl, hA, hB⟩
  replace hA := Lib.hid hA
  replace hB := Lib.hid hB
  go_wp2_with fail
  refine (ringsLink _ _ _ _ _ hd0).mono ?_
  rintro e _ ⟨rfl, rfl⟩
  have hg := give_sent (v := 9) (hlk.out (0 / hN))
  have hgw : (Lit.int .i64 (linkI m d st hN)).wf = true := by
    have h1 := hlk.out (0 / hN)
    rw [← e0.out] at h1
    exact int_wf (by omega)
  rw [← e0.out] at hg
  replace hg := Lib.hid hg
  replace hgw := Lib.hid hgw
  go_wp2_with fail
  refine (aGive hA.out (by omega) _ 9 hgw.out (by decide)).mono ?_
  rw [hg.out]
  rintro e w3 ⟨rfl, hA3, hB3, -⟩
  replace hA := Lib.hid hA3
  replace hB := Lib.hid (hB.out.trans hB3)
  clear hA3 hB3
  go_wp2_with fail
  refine (aEnd hA.out ⟨by omega, by omega⟩).mono ?_
  rintro e w4 ⟨rfl, hA3, hB3, -⟩
  replace hA := Lib.hid hA3
  replace hB := Lib.hid (hB.out.trans hB3)
  clear hA3 hB3 hg hgw
  go_wp2_with fail
  refine wp_loop_k (InvT w1.heap.size w1 m pw many hN d st NN) NN ?_ ?_
  · refine ⟨0, noneG, by omega, hB, fun _ => by simp, ?_, by kernel_rfl, rfl, by kernel_rfl, ?_, by kernel_rfl, by kernel_rfl, by kernel_rfl, by kernel_rfl, by kernel_rfl, by kernel_rfl⟩
    · rw [if_pos (Nat.zero_mod _), ← e0.out]
      exact hA.out.mono (by omega)
    · rw [← e0.out]
      kernel_rfl
  clear hA hB
  intro gk a wr hI K hK
  obtain ⟨T, p2, hT, hB, hp2, hA, hs', hd', k7', k8', k9', k10', k11', k12', k14', k15'⟩ := hI
  rw [fr108 a hs' hd']; simp only [k7', k8', k9', k10', k11', k12', k14', k15']; clear hs' hd' k7' k8' k9' k10' k11' k12' k14' k15'
  by_cases hTl : T < NN
  · have g1 : decide ((T : Int) + 1 ≤ (NN : Int)) = true := by simp; omega
    have g2 : (T : Int) + 1 ≤ (NN : Int) := by omega
    have g3 : IntKind.i64.wrap ((T : Int) + 1 + 1) = (T : Int) + 1 + 1 := wrap_near _ (by omega) (by omega)
    have hne : (hN : Int) ≠ 0 := by have := hh.out; omega
    have hne1 : ((hN : Int) == 0) = false := by simp; have := hh.out; omega
    have hAt := atN_in (d := d) (hop := hN) (st := st) (c := T / hN) hmI.out
    have hst := atN_step (hop := hN) (st := st) (c := T / hN) hmI.out hd.out
    have ho := here_track hmI.out hd.out hAt hh.out hp2.out
    rw [hst] at ho
    have hgv := give_sent (v := 9) (hlk.out (T / hN + 1))
    have hgw : (Lit.int .i64 (linkI m d (atN m d hN st (T / hN + 1)) hN)).wf = true := by
      have h1 := hlk.out (T / hN + 1)
      exact int_wf (by omega)
    replace hst := Lib.hid hst
    replace hgv := Lib.hid hgv
    replace hgw := Lib.hid hgw
    replace ho := Lib.hid ho
    clear hAt
    obtain ⟨cur, hcur⟩ : ∃ x, x = atN m d hN st (T / hN) := ⟨_, rfl⟩
    obtain ⟨nxt, hnxt⟩ : ∃ x, x = atN m d hN st (T / hN + 1) := ⟨_, rfl⟩
    rw [← hcur] at hst hA hp2 ho ⊢
    rw [← hnxt] at hst ho hgv hgw
    replace hcur := Lib.hid hcur
    replace hnxt := Lib.hid hnxt
    have hcase : ((T + 1) % hN = 0 ∧ Int.tmod ((T : Int) + 1) hN = 0 ∧ (T + 1) / hN = T / hN + 1 ∧ (hN = 2 → T % 2 = 1)) ∨ ((T + 1) % hN ≠ 0 ∧ Int.tmod ((T : Int) + 1) hN = 1 ∧ (T + 1) / hN = T / hN ∧ hN = 2 ∧ T % 2 = 0) := by
      rw [Int.tmod_eq_emod_of_nonneg (by omega)]
      rcases hh.out with e | e
      · left
        rw [e]
        refine ⟨by omega, by omega, by omega, by omega⟩
      · rw [e]
        by_cases h1 : T % 2 = 1
        · left; refine ⟨by omega, by omega, by omega, by omega⟩
        · right; refine ⟨by omega, by omega, by omega, rfl, by omega⟩
    rcases hcase with ⟨q1, q2, q3, q4⟩ | ⟨q1, q2, q3, q4, q5⟩
    · rw [if_pos q1] at ho
      replace q1 := Lib.hid q1
      replace q3 := Lib.hid q3
      replace q4 := Lib.hid q4
      go_wp2_with fail
      refine (ringsStep _ _ _ _ _ (sg.out _ hB.out) hd0).mono ?_
      rw [hst.out]
      rintro e _ ⟨rfl, q6, rfl⟩
      replace hB := Lib.hid (bdrewN hB.out q6)
      replace hA := Lib.hid (hA.out.drewN q6)
      generalize wr.drewN q6 = w5 at *
      go_wp2_with fail
      refine (aHere hA.out (sg.out _ hB.out) d nxt hN hd0 _ ho.out).mono ?_
      rintro e _ ⟨rfl, q7, rfl⟩
      replace hB := Lib.hid (bdrewN hB.out q7)
      replace hA := Lib.hid (hA.out.drewN q7)
      generalize w5.drewN q7 = w6 at *
      clear ho
      go_wp2_with fail
      refine (ringsLink _ _ _ _ _ hd0).mono ?_
      rintro e _ ⟨rfl, rfl⟩
      go_wp2_with fail
      refine (aGive hA.out (by omega) _ 9 hgw.out (by decide)).mono ?_
      rw [hgv.out]
      rintro e w7 ⟨rfl, hA3, hB3, -⟩
      replace hA := Lib.hid hA3
      replace hB := Lib.hid (hB.out.trans hB3)
      clear hA3 hB3
      go_wp2_with fail
      refine (aEnd hA.out ⟨by omega, by omega⟩).mono ?_
      rintro e w8 ⟨rfl, hA3, hB3, -⟩
      replace hA := Lib.hid hA3
      replace hB := Lib.hid (hB.out.trans hB3)
      clear hA3 hB3
      go_wp2_with fail
      refine hK (NN - (T + 1)) _ _ (by omega) ⟨T + 1, (if T % hN = 0 then sentG (linkI m d cur hN) 9 else noneG), by omega, hB, fun e => ?_, ?_, by kernel_rfl, rfl, by kernel_rfl, ?_, by kernel_rfl, by kernel_rfl, by kernel_rfl, by kernel_rfl, by kernel_rfl, by kernel_rfl⟩
      rotate_left
      · rw [q3.out, if_pos q1.out, ← hnxt.out]
        exact hA.out.mono (by omega)
      · rw [q3.out, ← hnxt.out]
        kernel_rfl
      · have e1 := q4.out e
        rw [if_neg (show ¬ (T + 1) % 2 = 1 by omega), if_neg (by rw [e]; omega)]
    · rw [if_neg q1] at ho
      replace q1 := Lib.hid q1
      replace q3 := Lib.hid q3
      replace q4 := Lib.hid q4
      replace q5 := Lib.hid q5
      go_wp2_with fail
      refine (ringsStep _ _ _ _ _ (sg.out _ hB.out) hd0).mono ?_
      rw [hst.out]
      rintro e _ ⟨rfl, q6, rfl⟩
      replace hB := Lib.hid (bdrewN hB.out q6)
      replace hA := Lib.hid (hA.out.drewN q6)
      generalize wr.drewN q6 = w5 at *
      go_wp2_with fail
      refine (aHere hA.out (sg.out _ hB.out) d nxt hN hd0 _ ho.out).mono ?_
      rintro e _ ⟨rfl, q7, rfl⟩
      replace hB := Lib.hid (bdrewN hB.out q7)
      replace hA := Lib.hid (hA.out.drewN q7)
      generalize w5.drewN q7 = w6 at *
      clear ho
      go_wp2_with fail
      refine (aEnd hA.out ⟨by omega, by omega⟩).mono ?_
      rintro e w8 ⟨rfl, hA3, hB3, -⟩
      replace hA := Lib.hid hA3
      replace hB := Lib.hid (hB.out.trans hB3)
      clear hA3 hB3
      go_wp2_with fail
      refine hK (NN - (T + 1)) _ _ (by omega) ⟨T + 1, (if T % hN = 0 then sentG (linkI m d cur hN) 9 else noneG), by omega, hB, fun e => ?_, ?_, by kernel_rfl, rfl, by kernel_rfl, ?_, by kernel_rfl, by kernel_rfl, by kernel_rfl, by kernel_rfl, by kernel_rfl, by kernel_rfl⟩
      rotate_left
      · rw [if_neg q1.out]
        exact hA.out.mono (by omega)
      · rw [q3.out, ← hcur.out]
        kernel_rfl
      · have e1 := q5.out
        rw [q3.out, ← hcur.out, if_pos (show (T + 1) % 2 = 1 by omega), if_pos (by rw [e]; omega)]
  have g1 : decide ((T : Int) + 1 ≤ (NN : Int)) = false := by simp; omega
  have g2 : ¬ (T : Int) + 1 ≤ (NN : Int) := by omega
  obtain rfl : T = NN := by omega
  have r1 : (atN m d hN st many == atN m d hN st many) = true := by simp
  rw [hdiv.out]
  go_wp2_with fail
  refine (ringsStep _ _ _ _ _ (sg.out _ hB.out) hd0).mono ?_
  rw [hlast.out]
  rintro e _ ⟨rfl, q4, rfl⟩
  replace hB := Lib.hid (bdrewN hB.out q4)
  generalize wr.drewN q4 = w5 at *
  go_wp2_with fail
  refine (lives08 _ (sg.out _ hB.out)).mono ?_
  rintro e w9 ⟨rfl, hb9⟩
  go_wp2_with fail
  go_ret
  exact ⟨rfl, bthen (bthen hbw.out hB.out) hb9⟩
end Go.Proofs.YteogoddnefeleaaDoor
