/- The document's sums: Of: the walk. -/
import Derived.Test.YtbfbpagfmhdblaaSumsR
namespace Go.Proofs.Ytbfbpagfmhdblaa
open Go.RowKit
set_option linter.unusedSimpArgs false
set_option linter.unusedVariables false
set_option maxRecDepth 100000
theorem elemBoolS : (Try.prog.info? 4).map (fun i => (i.zero, i.size, i.bytes)) = some (some (.bool false), 1, 1) := by kernel_rfl
def powC : Array Value := #[.int .i64 26, .int .i64 23, .int .i64 22, .int .i64 16, .int .i64 12, .int .i64 11, .int .i64 10, .int .i64 8, .int .i64 7, .int .i64 5, .int .i64 4, .int .i64 2, .int .i64 1, .int .i64 0]
theorem powC_at : ∀ k, k < 14 → powC[k]? = some (.int .i64 (powN k)) := by
  intro k hk
  rcases show k = 0 ∨ k = 1 ∨ k = 2 ∨ k = 3 ∨ k = 4 ∨ k = 5 ∨ k = 6 ∨ k = 7 ∨ k = 8 ∨ k = 9 ∨ k = 10 ∨ k = 11 ∨ k = 12 ∨ k = 13 by omega with rfl | rfl | rfl | rfl | rfl | rfl | rfl | rfl | rfl | rfl | rfl | rfl | rfl | rfl <;> rfl
def InvRa (w : World) (ao : Option Addr) (n c : Nat) (L : Nat → Int) (gp : Nat) (k : Nat) (a : Act) (wr : World) : Prop :=
  ∃ (i : Nat) (v : Value), i + k = n ∧ Below w.heap.size w wr ∧ Blk wr gp powC 139 ∧ wr.ownsRow (gp + 1) 4 1 v (8 * i) (bools (bitU L) (8 * i)) ∧
    a.tmps.size = 107 ∧ a.defers = [] ∧ slot a 0 = .slice ao n c ∧ slot a 3 = .pointer (some ⟨gp, 0, none⟩) ∧ slot a 4 = v ∧ slot a 5 = .int .i64 i
def InvRb (w : World) (ao : Option Addr) (n c : Nat) (L : Nat → Int) (gp : Nat) (i : Nat) (k : Nat) (a : Act) (wr : World) : Prop :=
  ∃ (e : Nat) (v : Value), e + k = 8 ∧ Below w.heap.size w wr ∧ Blk wr gp powC 139 ∧ wr.ownsRow (gp + 1) 4 1 v (8 * i + e) (bools (bitU L) (8 * i + e)) ∧
    a.tmps.size = 107 ∧ a.defers = [] ∧ slot a 0 = .slice ao n c ∧ slot a 3 = .pointer (some ⟨gp, 0, none⟩) ∧ slot a 4 = v ∧ slot a 5 = .int .i64 i ∧ slot a 6 = .int .i64 (7 - e)
def InvRc (w : World) (n : Nat) (L : Nat → Int) (gp : Nat) (k : Nat) (a : Act) (wr : World) : Prop :=
  ∃ (i : Nat) (v : Value), i + k = 32 ∧ Below w.heap.size w wr ∧ Blk wr gp powC 139 ∧ wr.ownsRow (gp + 1) 4 1 v (8 * n + i) (bools (mB L n) (8 * n + i)) ∧
    a.tmps.size = 107 ∧ a.defers = [] ∧ slot a 3 = .pointer (some ⟨gp, 0, none⟩) ∧ slot a 4 = v ∧ slot a 7 = .int .i64 i
/-- The list of bits: T at each of its N places. -/
def Bits (w wr : World) (gp g N : Nat) (T : Nat → Bool) : Prop :=
  Below w.heap.size w wr ∧ Blk wr gp powC 139 ∧ gp < g ∧ w.heap.size ≤ gp ∧ ∃ cur, Blk wr g cur 4 ∧ ∀ j, j < N → cur[j]? = some (.bool (T j))
theorem Bits.congr {w wr : World} {gp g N : Nat} {T T' : Nat → Bool} (h : Bits w wr gp g N T) (e : ∀ j, j < N → T j = T' j) : Bits w wr gp g N T' := by
  obtain ⟨h1, h2, h3, h4, cur, h5, h6⟩ := h
  exact ⟨h1, h2, h3, h4, cur, h5, fun j hj => by rw [← e j hj]; exact h6 j hj⟩
theorem Bits.at {w wr : World} {gp g N : Nat} {T : Nat → Bool} (h : Bits w wr gp g N T) {j : Nat} (hj : j < N) : wr.cell? ⟨g, j, none⟩ = some (.bool (T j)) ∧ wr.frozen? ⟨g, j, none⟩ = false := by
  obtain ⟨h1, h2, h3, h4, cur, h5, h6⟩ := h
  exact ⟨h5.cell (h6 j hj), h5.free j⟩
theorem Bits.pow {w wr : World} {gp g N : Nat} {T : Nat → Bool} (h : Bits w wr gp g N T) {k : Nat} (hk : k < 14) : wr.cell? ⟨gp, k, none⟩ = some (.int .i64 (powN k)) := h.2.1.cell (powC_at k hk)
theorem Bits.set {w wr : World} {gp g N : Nat} {T : Nat → Bool} (h : Bits w wr gp g N T) {j : Nat} (hj : j < N) (b : Bool) (T' : Nat → Bool) (e : ∀ i, i < N → T' i = if i = j then b else T i) : Bits w (wr.setCell ⟨g, j, none⟩ (.bool b)) gp g N T' := by
  obtain ⟨h1, h2, h3, h4, cur, h5, h6⟩ := h
  have hsz : j < cur.size := (Array.getElem?_eq_some_iff.1 (h6 j hj)).1
  refine ⟨h1.setCell (by show w.heap.size ≤ g; omega) _, h2.setNe (by show gp ≠ g; omega) _, h3, h4, _, h5.set j _, fun i hi => ?_⟩
  rw [Array.getElem?_setIfInBounds, e i hi]
  by_cases hij : j = i
  · subst hij
    rw [if_pos rfl, if_pos hsz, if_pos rfl]
  · rw [if_neg hij, if_neg (fun e => hij e.symm)]
    exact h6 i hi
def InvRd (w : World) (gp g N c : Nat) (m : Nat → Bool) (k : Nat) (a : Act) (wr : World) : Prop :=
  ∃ i : Nat, i + k = 32 ∧ Bits w wr gp g N (fun j => decide (j < i) ^^ m j) ∧ a.tmps.size = 107 ∧ a.defers = [] ∧ slot a 3 = .pointer (some ⟨gp, 0, none⟩) ∧ slot a 4 = .slice (some ⟨g, 0, none⟩) N c ∧ slot a 8 = .int .i64 i
def InvRe (w : World) (gp g n N c : Nat) (m : Nat → Bool) (k : Nat) (a : Act) (wr : World) : Prop :=
  ∃ i : Nat, i + k = 8 * n ∧ Bits w wr gp g N (dvB m i) ∧ a.tmps.size = 107 ∧ a.defers = [] ∧ slot a 3 = .pointer (some ⟨gp, 0, none⟩) ∧ slot a 4 = .slice (some ⟨g, 0, none⟩) N c ∧ slot a 9 = .int .i64 i
def InvRf (w : World) (gp g N c : Nat) (m : Nat → Bool) (i : Nat) (k : Nat) (a : Act) (wr : World) : Prop :=
  ∃ t : Nat, t + k = 14 ∧ Bits w wr gp g N (fun j => dvB m i j ^^ flA i t j) ∧ a.tmps.size = 107 ∧ a.defers = [] ∧ slot a 3 = .pointer (some ⟨gp, 0, none⟩) ∧ slot a 4 = .slice (some ⟨g, 0, none⟩) N c ∧ slot a 9 = .int .i64 i ∧ slot a 10 = .int .i64 t
def InvRg (w : World) (gp g y N c : Nat) (T : Nat → Bool) (S : Nat) (k : Nat) (a : Act) (wr : World) : Prop :=
  ∃ i x : Nat, i + k = 32 ∧ x = y + i ∧ Bits w wr gp g N T ∧ a.tmps.size = 107 ∧ a.defers = [] ∧ slot a 4 = .slice (some ⟨g, 0, none⟩) N c ∧ slot a 12 = .int .u32 (numK S i : Nat) ∧ slot a 13 = .int .i64 x
set_option maxHeartbeats 8000000 in
theorem refSum (w : World) (ao : Option Addr) (n c : Nat) (L : Nat → Int) (ha : Rd .u8 w ao n L) (hL : ∀ i, i < n → 0 ≤ L i ∧ L i < 256) (hn : n ≤ 100000) :
    Calls Try.prog 87 #[.slice ao n c] w fun e w' => e = .returned (.int .u32 (sumN L n : Nat)) ∧ Below w.heap.size w w' := by
  obtain ⟨i0, hi0, hz0, hz1, hz2⟩ := info_parts elemBoolS
  replace ha := Lib.hid ha
  replace hL := Lib.hid hL
  go_enter Try.func87, Try.ntmps87
  go_wp2
  refine wp_loop_k (InvRa w ao n c L w.heap.size) n ?_ ?_
  · exact ⟨0, _, by omega, below_alloc _ _, Blk.new _ _ _, World.ownsRow_nil _ _ _ _, by kernel_rfl, rfl, by kernel_rfl, by kernel_rfl, by kernel_rfl, by kernel_rfl⟩
  · generalize hgg : w.heap.size = gp
    intro gk a wr hI K1 hK1
    obtain ⟨i, v, hi, hb, hP, hown, hs', hd', k0', k3', k4', k5'⟩ := hI
    rw [fr107 a hs' hd']; simp only [k0', k3', k4', k5']; clear hs' hd' k0' k3' k4' k5'
    have hb' := Lib.hid hb
    have hP' := Lib.hid hP
    have hown' := Lib.hid hown
    have hgl := hP.lt
    clear hb hP hown
    by_cases hlt : i < n
    · have g1 : decide ((i : Int) < (n : Int)) = true := by simp; omega
      have ui : IntKind.i64.wrap ((i : Int) + 1) = ((i + 1 : Nat) : Int) := wrap_i64_small _ (by omega) (by omega)
      go_wp2
      refine wp_loop_k (InvRb w ao n c L gp i) 8 ?_ ?_
      · exact ⟨0, v, by omega, hb'.out, hP'.out, hown'.out, by kernel_rfl, rfl, by kernel_rfl, by kernel_rfl, by kernel_rfl, by kernel_rfl, by kernel_rfl⟩
      · clear hb' hP' hown' hgl g1
        clear v wr
        intro gk2 a wr hI K2 hK2
        obtain ⟨e, v, he, hb, hP, hown, hs', hd', k0', k3', k4', k5', k6'⟩ := hI
        rw [fr107 a hs' hd']; simp only [k0', k3', k4', k5', k6']; clear hs' hd' k0' k3' k4' k5' k6'
        have hgl := hP.lt
        have hb' := Lib.hid hb
        have hP' := Lib.hid hP
        have hown' := Lib.hid hown
        clear hb hP hown
        by_cases hle : e < 8
        · obtain ⟨s, hs⟩ : ∃ s : Nat, s + e = 7 := ⟨7 - e, by omega⟩
          have es : (7 : Int) - (e : Int) = (s : Int) := by omega
          have g2 : decide ((0 : Int) ≤ (s : Int)) = true := by simp
          have hx := hL.out i hlt
          have hrB := (ha.out.below hb'.out (Nat.le_refl _)) i hlt
          obtain ⟨b2, o2, hpa, hc2⟩ := hrB
          obtain ⟨z, hz⟩ : ∃ z : Nat, L i = z := ⟨(L i).toNat, by omega⟩
          rw [hz] at hc2 hx
          have hbit := bitU8 z s (by omega)
          have hU : Hid (z.testBit s = bitU L (8 * i + e)) := by
            show z.testBit s = bitU L (8 * i + e)
            have q1 : (8 * i + e) / 8 = i := by omega
            have q2 : 7 - (8 * i + e) % 8 = s := by omega
            rw [bitU, q1, q2, hz]
            rfl
          have us : IntKind.i64.wrap ((s : Int) - 1) = (s : Int) - 1 := wrap_i64_small _ (by omega) (by omega)
          have hs' := Lib.hid hs
          have hown2 : Hid (wr.ownsRow (gp + 1) 4 1 v (8 * i + e) (bools (bitU L) (8 * i + e))) := hown'
          have hi8 : 8 * i + e ≤ 1000000 := by omega
          rw [es]
          subst hpa
          clear hz hx es hown'
          go_wp2_with (at_builtin; refine append_one rfl _ _ 140 rfl (gp + 1) 4 i0 (.bool false) 1 Try.underlying140 hi0 hz0 hz1 hz2 rfl _ _ _ rfl hown2.out _ rfl rfl (by omega) (by omega) hgl ?_)
          intro g1 c1 w3 hown3 hg3 hb3
          rw [hU.out, ← bools_succ] at hown3
          have hb4 := Lib.hid (hb'.out.trans (hb3.mono (by have := hb'.out.size; omega)))
          have hP4 := Lib.hid (hP'.out.below hb3 (Nat.lt_succ_self _))
          have hown4 := Lib.hid hown3
          clear hown3 hg3 hb3 hb' hP' hown2 hc2
          go_wp2
          exact hK2 (8 - (e + 1)) _ _ (by omega) ⟨e + 1, _, by omega, hb4.out, hP4.out, hown4.out, by kernel_rfl, rfl, by kernel_rfl, by kernel_rfl, by kernel_rfl, by kernel_rfl, by show Value.int _ _ = Value.int _ _; congr 1; have := hs'.out; omega⟩
        · obtain rfl : e = 8 := by omega
          have g2 : decide ((0 : Int) ≤ 7 - ((8 : Nat) : Int)) = false := by decide
          go_wp2
          exact hK1 (n - (i + 1)) _ _ (by omega) ⟨i + 1, _, by omega, hb'.out, hP'.out, hown'.out, by kernel_rfl, rfl, by kernel_rfl, by kernel_rfl, by kernel_rfl, by kernel_rfl⟩
    · obtain rfl : n = i := by omega
      have g1 : decide ((n : Int) < (n : Int)) = false := by simp
      have e1 : bools (bitU L) (8 * n) = bools (mB L n) (8 * n) := bools_congr fun j hj => by simp [mB, hj]
      have hown2 := hown'.out
      rw [e1] at hown2
      replace hown2 := Lib.hid hown2
      clear hown' e1 hK1 hi
      go_wp2
      refine wp_loop_k (InvRc w n L gp) 32 ?_ ?_
      · exact ⟨0, v, by omega, hb'.out, hP'.out, hown2.out, by kernel_rfl, rfl, by kernel_rfl, by kernel_rfl, by kernel_rfl⟩
      · clear hb' hP' hown2 hgl g1 hlt
        clear v wr
        intro gk2 a wr hI K2 hK2
        obtain ⟨i, v, hi, hb, hP, hown, hs', hd', k3', k4', k7'⟩ := hI
        rw [fr107 a hs' hd']; simp only [k3', k4', k7']; clear hs' hd' k3' k4' k7'
        have hgl := hP.lt
        have hb' := Lib.hid hb
        have hP' := Lib.hid hP
        have hown' := Lib.hid hown
        clear hb hP hown
        by_cases hlt : i < 32
        · have g1 : decide ((i : Int) < 32) = true := by simp; omega
          have ui : IntKind.i64.wrap ((i : Int) + 1) = ((i + 1 : Nat) : Int) := wrap_i64_small _ (by omega) (by omega)
          go_wp2_with (at_builtin; refine append_one rfl _ _ 140 rfl (gp + 1) 4 i0 (.bool false) 1 Try.underlying140 hi0 hz0 hz1 hz2 rfl _ _ _ rfl hown'.out _ rfl rfl (by omega) (by omega) hgl ?_)
          intro g1 c1 w3 hown3 hg3 hb3
          have hm0 : (false : Bool) = mB L n (8 * n + i) := by simp [mB]; omega
          rw [hm0, ← bools_succ] at hown3
          have hb4 := Lib.hid (hb'.out.trans (hb3.mono (by have := hb'.out.size; omega)))
          have hP4 := Lib.hid (hP'.out.below hb3 (Nat.lt_succ_self _))
          have hown4 := Lib.hid hown3
          clear hown3 hg3 hb3 hb' hP' hown' hm0
          go_wp2
          exact hK2 (32 - (i + 1)) _ _ (by omega) ⟨i + 1, _, by omega, hb4.out, hP4.out, hown4.out, by kernel_rfl, rfl, by kernel_rfl, by kernel_rfl, by kernel_rfl⟩
        · obtain rfl : i = 32 := by omega
          have g1 : decide (((32 : Nat) : Int) < 32) = false := by decide
          obtain ⟨g, cc, cur, rfl, hcc, hcm, hgp, hB, hcell⟩ := bools_own hown'.out (by omega)
          obtain ⟨N, hN⟩ : ∃ N, 8 * n + 32 = N := ⟨_, rfl⟩
          have hBits : Bits w wr gp g N (fun j => decide (j < 0) ^^ mB L n j) := ⟨hb'.out, hP'.out, by omega, by omega, cur, hB, fun j hj => by simpa using hcell j (by omega)⟩
          rw [hN]
          replace hBits := Lib.hid hBits
          have hsum := Lib.hid (dvB_sum L n)
          have hSlt := sumN_lt L n
          have hdv0 : Hid (∀ j, (decide (j < 32) ^^ mB L n j) = dvB (mB L n) 0 j) := fun j => rfl
          have hSS : Hid (sumN L n = sumN L n) := rfl
          generalize hSe : sumN L n = S at *
          replace hSS := Lib.hid hSe
          clear hSe
          generalize mB L n = m at *
          clear hb' hP' hown' hB hcell hgl hK2
          clear hL ha
          have hN32 : N = 8 * n + 32 := hN.symm
          clear hN
          go_wp2
          refine wp_loop_k (InvRd w gp g N cc m) 32 ?_ ?_
          · exact ⟨0, by omega, hBits.out, by kernel_rfl, rfl, by kernel_rfl, by kernel_rfl, by kernel_rfl⟩
          · clear hBits g1 hlt hi
            clear wr cur
            intro gk3 a wr hI K3 hK3
            obtain ⟨i, hi, hBt, hs', hd', k3', k4', k8'⟩ := hI
            rw [fr107 a hs' hd']; simp only [k3', k4', k8']; clear hs' hd' k3' k4' k8'
            have hBt' := Lib.hid hBt
            by_cases hlt : i < 32
            · have g1 : decide ((i : Int) < 32) = true := by simp; omega
              have ui : IntKind.i64.wrap ((i : Int) + 1) = ((i + 1 : Nat) : Int) := wrap_i64_small _ (by omega) (by omega)
              have hiN : i < N := by omega
              obtain ⟨c0, f0⟩ := hBt.at hiN
              have c0' : wr.cell? ⟨g, i, none⟩ = some (.bool (m i)) := by simpa using c0
              have hBt2 := Lib.hid (hBt.set hiN (!m i) (fun j => decide (j < i + 1) ^^ m j) (fun j hj => by
                by_cases hji : j = i
                · subst hji
                  simp
                · have e : decide (j < i + 1) = decide (j < i) := by simp; omega
                  rw [if_neg hji, e]))
              clear hBt hBt' c0
              go_wp2
              exact hK3 (32 - (i + 1)) _ _ (by omega) ⟨i + 1, by omega, hBt2.out, by kernel_rfl, rfl, by kernel_rfl, by kernel_rfl, by kernel_rfl⟩
            · obtain rfl : i = 32 := by omega
              have g1 : decide (((32 : Nat) : Int) < 32) = false := by decide
              have hBt2 := Lib.hid (hBt.congr (fun j _ => hdv0.out j))
              clear hBt hBt' hdv0
              go_wp2
              refine wp_loop_k (InvRe w gp g n N cc m) (8 * n) ?_ ?_
              · exact ⟨0, by omega, hBt2.out, by kernel_rfl, rfl, by kernel_rfl, by kernel_rfl, by kernel_rfl⟩
              · clear hBt2 g1 hlt hi hK3
                clear wr
                intro gk4 a wr hI K4 hK4
                obtain ⟨i, hi, hBt, hs', hd', k3', k4', k9'⟩ := hI
                rw [fr107 a hs' hd']; simp only [k3', k4', k9']; clear hs' hd' k3' k4' k9'
                have hBt' := Lib.hid hBt
                have ui32 : IntKind.i64.wrap ((i : Int) + 32) = (i : Int) + 32 := wrap_i64_small _ (by omega) (by omega)
                by_cases hlt : i < 8 * n
                · have g1 : decide ((i : Int) + 32 < (N : Int)) = true := by simp; omega
                  have ui : IntKind.i64.wrap ((i : Int) + 1) = ((i + 1 : Nat) : Int) := wrap_i64_small _ (by omega) (by omega)
                  have hiN : i < N := by omega
                  obtain ⟨c0, f0⟩ := hBt.at hiN
                  cases hd : dvB m i i with
                  | false =>
                    rw [hd] at c0
                    have hBt2 := Lib.hid (hBt.congr (T' := dvB m (i + 1)) (fun j _ => by simp [dvB, hd]))
                    clear hBt hBt' hd
                    go_wp2
                    exact hK4 (8 * n - (i + 1)) _ _ (by omega) ⟨i + 1, by omega, hBt2.out, by kernel_rfl, rfl, by kernel_rfl, by kernel_rfl, by kernel_rfl⟩
                  | true =>
                    rw [hd] at c0
                    have hBt2 := Lib.hid (hBt.set hiN false (fun j => dvB m i j ^^ flA i 0 j) (fun j hj => by
                      by_cases hji : j = i
                      · subst hji
                        simp [flA, hd]
                      · simp [flA, hji]))
                    have hend := Lib.hid (show ∀ j, (dvB m i j ^^ flA i 14 j) = dvB m (i + 1) j from fun j => by simp [dvB, hd])
                    clear hBt hBt' hd
                    go_wp2
                    refine wp_loop_k (InvRf w gp g N cc m i) 14 ?_ ?_
                    · exact ⟨0, by omega, hBt2.out, by kernel_rfl, rfl, by kernel_rfl, by kernel_rfl, by kernel_rfl, by kernel_rfl⟩
                    · clear hBt2 g1 c0 f0
                      clear wr
                      intro gk5 a wr hI K5 hK5
                      obtain ⟨t, ht, hBt, hs', hd', k3', k4', k9', k10'⟩ := hI
                      rw [fr107 a hs' hd']; simp only [k3', k4', k9', k10']; clear hs' hd' k3' k4' k9' k10'
                      have hBt' := Lib.hid hBt
                      by_cases hlt2 : t < 14
                      · have g1 : decide ((t : Int) < 14) = true := by simp; omega
                        have ut : IntKind.i64.wrap ((t : Int) + 1) = ((t + 1 : Nat) : Int) := wrap_i64_small _ (by omega) (by omega)
                        have cp := hBt.pow hlt2
                        have hp := powN_le t hlt2
                        have hfl : ∀ j, flA i (t + 1) j = (flA i t j ^^ decide (j = i + 32 - powN t)) := fun j => rfl
                        generalize powN t = p at *
                        obtain ⟨A, hA⟩ : ∃ A : Nat, A = i + 32 - p := ⟨_, rfl⟩
                        have uA : IntKind.i64.wrap ((i : Int) + 32 - (p : Int)) = (A : Int) := by rw [wrap_i64_small _ (by omega) (by omega)]; omega
                        have hAN : A < N := by omega
                        obtain ⟨c1, f1⟩ := hBt.at hAN
                        have hBt2 := Lib.hid (hBt.set hAN (!(dvB m i A ^^ flA i t A)) (fun j => dvB m i j ^^ flA i (t + 1) j) (fun j hj => by
                          rw [hfl, ← hA]
                          by_cases hji : j = A
                          · subst hji
                            simp
                          · simp [hji]))
                        generalize hq : (dvB m i A ^^ flA i t A) = q at *
                        have c1' : wr.cell? ⟨g, A, none⟩ = some (.bool q) := c1
                        clear hBt hBt' c1 hfl hq hA
                        go_wp2
                        exact hK5 (14 - (t + 1)) _ _ (by omega) ⟨t + 1, by omega, hBt2.out, by kernel_rfl, rfl, by kernel_rfl, by kernel_rfl, by kernel_rfl, by kernel_rfl⟩
                      · obtain rfl : t = 14 := by omega
                        have g1 : decide (((14 : Nat) : Int) < 14) = false := by decide
                        have hBt2 := Lib.hid (hBt.congr (fun j _ => hend.out j))
                        clear hBt hBt'
                        go_wp2
                        exact hK4 (8 * n - (i + 1)) _ _ (by omega) ⟨i + 1, by omega, hBt2.out, by kernel_rfl, rfl, by kernel_rfl, by kernel_rfl, by kernel_rfl⟩
                · have hin : i = 8 * n := by omega
                  have g1 : decide ((i : Int) + 32 < (N : Int)) = false := by simp; omega
                  have uN : IntKind.i64.wrap ((N : Int) - 32) = (i : Int) := by rw [wrap_i64_small _ (by omega) (by omega)]; omega
                  have hsum' := Lib.hid (show ∀ k, k < 32 → dvB m i (i + k) = !S.testBit (31 - k) from fun k hk => by rw [hin]; exact hsum.out k hk)
                  have hNy := Lib.hid (show N = i + 32 by omega)
                  have hNb : N ≤ 1000000 := by omega
                  clear hBt hK4 hi hlt hin hN32
                  generalize hyy : i = y at *
                  clear hyy
                  go_wp2
                  refine wp_loop_k (InvRg w gp g y N cc (dvB m y) S) 32 ?_ ?_
                  · exact ⟨0, y, by omega, by omega, hBt'.out, by kernel_rfl, rfl, by kernel_rfl, by kernel_rfl, by kernel_rfl⟩
                  · clear hBt' g1 ui32
                    clear wr
                    intro gk5 a wr hI K5 hK5
                    obtain ⟨i, x, hi, hx, hBt, hs', hd', k4', k12', k13'⟩ := hI
                    rw [fr107 a hs' hd']; simp only [k4', k12', k13']; clear hs' hd' k4' k12' k13'
                    by_cases hlt : i < 32
                    · have g1 : decide ((x : Int) < (N : Int)) = true := by have := hNy.out; simp; omega
                      have ux : IntKind.i64.wrap ((x : Int) + 1) = ((x + 1 : Nat) : Int) := wrap_i64_small _ (by omega) (by have := hNy.out; omega)
                      have hxN : x < N := by have := hNy.out; omega
                      obtain ⟨c0, f0⟩ := hBt.at hxN
                      have hv := hsum'.out i hlt
                      rw [show y + i = x by omega] at hv
                      rw [hv] at c0
                      have hnk := numK_lt hSlt hlt
                      have hns : Hid (numK S (i + 1) = 2 * numK S i + (if S.testBit (31 - i) then 1 else 0)) := rfl
                      generalize numK S i = nk at *
                      have un : IntKind.u32.wrap (2 * (nk : Int)) = ((2 * nk : Nat) : Int) := by rw [IntKind.wrap_u32]; omega
                      have un1 : IntKind.u32.wrap (((2 * nk : Nat) : Int) + 1) = ((2 * nk + 1 : Nat) : Int) := by rw [IntKind.wrap_u32]; omega
                      generalize 2 * nk = nk2 at *
                      have hBt' := Lib.hid hBt
                      have hx' := Lib.hid hx
                      clear hBt hv hx
                      cases hs : S.testBit (31 - i) with
                      | false =>
                        rw [hs] at c0 hns
                        have hns2 := Lib.hid (show numK S (i + 1) = nk2 by rw [hns.out]; simp)
                        clear hs hns
                        go_wp2
                        refine hK5 (32 - (i + 1)) _ _ (by omega) ⟨i + 1, x + 1, by omega, by have := hx'.out; omega, hBt'.out, by kernel_rfl, rfl, by kernel_rfl, ?_, by kernel_rfl⟩
                        show Value.int _ _ = Value.int _ _
                        rw [hns2.out]
                      | true =>
                        rw [hs] at c0 hns
                        have hns2 := Lib.hid (show numK S (i + 1) = nk2 + 1 by rw [hns.out]; simp)
                        clear hs hns
                        go_wp2
                        refine hK5 (32 - (i + 1)) _ _ (by omega) ⟨i + 1, x + 1, by omega, by have := hx'.out; omega, hBt'.out, by kernel_rfl, rfl, by kernel_rfl, ?_, by kernel_rfl⟩
                        show Value.int _ _ = Value.int _ _
                        rw [hns2.out]
                        simp
                    · obtain rfl : i = 32 := by omega
                      have g1 : decide ((x : Int) < (N : Int)) = false := by have := hNy.out; simp; omega
                      have g2 : ¬x < N := by have := hNy.out; omega
                      have hbel := hBt.1
                      clear hBt hx
                      go_wp2
                      go_ret
                      exact ⟨by rw [hSS.out]; exact congrArg (fun z : Nat => Ending.returned (.int .u32 (z : Int))) (numK_all hSlt), hgg ▸ hbel⟩
end Go.Proofs.Ytbfbpagfmhdblaa
