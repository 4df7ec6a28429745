/- Bits: Of, Turn: what they answer. -/
import Derived.Test.YtbfbpagfmhdblaaBitsB
namespace Go.Proofs.Ytbfbpagfmhdblaa
open Go.RowKit
set_option linter.unusedSimpArgs false
set_option linter.unusedVariables false
set_option maxRecDepth 100000
def InvOf (w : World) (ao : Option Addr) (n c : Nat) (L : Nat → Int) (k : Nat) (a : Act) (wr : World) : Prop :=
  ∃ (i : Nat) (al : Option Addr), i + k = n ∧ Mine .u8 77 w.heap.size wr al (8 * i) (ofL L) ∧ Below w.heap.size w wr ∧ a.tmps.size = 19 ∧ a.defers = [] ∧ slot a 3 = .slice al (8 * i) (8 * i) ∧ slot a 6 = .slice ao n c ∧ slot a 7 = .int .i64 n ∧ slot a 8 = .int .i64 i
theorem put_of (L : Nat → Int) (i j : Nat) (hj : j < 8 * i + 8) : putL (ofL L) (8 * i) (L i).toNat 8 j = ofL L j := by
  unfold putL
  split
  · rfl
  · have h1 : j / 8 = i := by omega
    have h2 : 8 - 1 - (j - 8 * i) = 7 - j % 8 := by omega
    simp only [ofL, h1, h2]
set_option maxHeartbeats 400000 in
theorem ofSyms (w : World) (ao : Option Addr) (n c : Nat) (L : Nat → Int) (ha : Rd .u8 w ao n L) (hL : ∀ i, i < n → 0 ≤ L i ∧ L i < 256) (hn : n ≤ 100000) :
    Calls Try.prog 58 #[.slice ao n c] w fun e w' => ∃ a, e = .returned (.slice a (8 * n) (8 * n)) ∧ Mine .u8 77 w.heap.size w' a (8 * n) (ofL L) ∧ Below w.heap.size w w' := by
  replace ha := Lib.hid ha
  replace hL := Lib.hid hL
  go_enter Try.func58, Try.ntmps58
  go_wp2_with fail
  refine wp_loop_k (InvOf w ao n c L) n ?_ ?_
  · exact ⟨0, none, by omega, Mine.nil _ _ _ _ _ _, Below.refl _ _, by kernel_rfl, rfl, by kernel_rfl, by kernel_rfl, by kernel_rfl, by kernel_rfl⟩
  · intro gk a wr hI K hK
    obtain ⟨i, al, hi, hmine, hb, hs', hd', k3', k6', k7', k8'⟩ := hI
    rw [fr19 a hs' hd']; simp only [k3', k6', k7', k8']; clear hs' hd' k3' k6' k7' k8'
    have hm := Lib.hid hmine
    by_cases hlt : i < n
    · obtain ⟨b, o, rfl, hc0⟩ := ha.out i hlt
      have hc := below_cell hc0 hb (World.block_lt_of_cell? w _ hc0)
      obtain ⟨z, hz, hz256⟩ : ∃ z : Nat, L i = z ∧ z < 256 := ⟨(L i).toNat, by have := hL.out i hlt; omega, by have := hL.out i hlt; omega⟩
      rw [hz] at hc
      have hz' := Lib.hid hz
      have hin : (i : Int) < n := by omega
      clear hmine hz hc0
      go_wp2_with fail
      refine (bitsPut wr al (8 * i) (8 * i) (ofL L) z 8 hm.out.rd hm.out.none (by omega) (by omega)).mono ?_
      rintro e w1 ⟨a1, rfl, hmine1, hb1⟩
      have hb2 := bfrom hb hb.size hb1
      have hm1 : Hid (Mine .u8 77 w.heap.size w1 a1 (8 * (i + 1)) (ofL L)) := (hmine1.mono hb.size).congr fun j hj => by
        have := hz'.out
        have e : z = (L i).toNat := by omega
        rw [e]
        exact put_of L i j (by have h8 : bitsOf 8 = 8 := by decide
                               rw [h8] at hj
                               omega)
      clear hmine1 hb1 hb
      go_wp2_with fail
      refine hK (n - (i + 1)) _ _ (by omega) ⟨i + 1, a1, by omega, hm1.out, hb2, by kernel_rfl, rfl, by kernel_rfl, by kernel_rfl, by kernel_rfl, ?_⟩
      show Value.int _ _ = Value.int _ _
      simp
    · obtain rfl : i = n := by omega
      have hn8 : 8 * i ≤ 8 * i := Nat.le_refl _
      clear hmine
      go_wp2
      go_ret
      exact ⟨al, rfl, hm.out, hb⟩
def InvTurn (w : World) (aa : Option Addr) (m ca : Nat) (al : Option Addr) (n : Nat) (L A : Nat → Int) (k : Nat) (a : Act) (wr : World) : Prop :=
  ∃ i : Nat, i + k = m ∧ Mine .u8 77 w.heap.size wr al n (turnL L A i) ∧ Below w.heap.size w wr ∧ a.tmps.size = 42 ∧ a.defers = [] ∧ slot a 5 = .slice al n n ∧ slot a 11 = .slice aa m ca ∧ slot a 12 = .int .i64 m ∧ slot a 13 = .int .i64 i
theorem turn_out (L A : Nat → Int) (n i : Nat) (h : ¬ (0 ≤ A i ∧ A i < n)) (j : Nat) (hj : j < n) : turnL L A i j = turnL L A (i + 1) j := by
  rw [turnL_step, if_neg (by omega)]
theorem turn_yes (B : Nat) (wr : World) (g n : Nat) (L A : Nat → Int) (i j : Nat) (h : Mine .u8 77 B wr (some ⟨g, 0, none⟩) n (turnL L A i)) (hj : A i = j) (hjn : j < n) (ht : turnL L A i j = 1 ∨ turnL L A i j = 2) :
    Mine .u8 77 B (wr.setCell ⟨g, j, none⟩ (.int .u8 ((3 - turnL L A i j) % 256))) (some ⟨g, 0, none⟩) n (turnL L A (i + 1)) := by
  refine h.set j hjn _ _ fun q hq => ?_
  have hw := (turnL_whole L A i j).1 ht
  rw [turnL_step]
  by_cases e : q = j
  · subst e
    rw [if_pos ⟨hj, hw⟩, if_pos rfl]
    omega
  · rw [if_neg (by omega), if_neg e]
theorem turn_not (B : Nat) (wr : World) (g n : Nat) (L A : Nat → Int) (i j : Nat) (h : Mine .u8 77 B wr (some ⟨g, 0, none⟩) n (turnL L A i)) (hj : A i = j) (h1 : ¬ turnL L A i j = 1) (h2 : ¬ turnL L A i j = 2) :
    Mine .u8 77 B wr (some ⟨g, 0, none⟩) n (turnL L A (i + 1)) := h.congr fun q hq => by
  have hw := turnL_whole L A i j
  rw [turnL_step, if_neg ?_]
  rintro ⟨e, hx⟩
  have : q = j := by omega
  subst this
  omega
set_option maxHeartbeats 1000000 in
theorem bitsTurn (w : World) (ao : Option Addr) (n c : Nat) (L : Nat → Int) (aa : Option Addr) (m ca : Nat) (A : Nat → Int) (ha : Rd .u8 w ao n L) (hA : Rd .i64 w aa m A) (hnil : ao = none → n = 0 ∧ c = 0) (hn : n ≤ 1000000) (hm : m ≤ 1000000) :
    Calls Try.prog 38 #[.slice ao n c, .slice aa m ca] w fun e w' => ∃ a, e = .returned (.slice a n n) ∧ Mine .u8 77 w.heap.size w' a n (turnL L A m) ∧ Below w.heap.size w w' := by
  replace ha := Lib.hid ha
  replace hA := Lib.hid hA
  replace hnil := Lib.hid hnil
  go_enter Try.func38, Try.ntmps38
  go_wp2_with fail
  refine (cloneSyms _ _ _ _ L ha.out hnil.out (by omega)).mono ?_
  rintro e w1 ⟨v, rfl, hown, hb⟩
  obtain ⟨al, cl, rfl, h1, h2, h3, hmine⟩ := own_mine hown
  replace hmine := Lib.hid (hmine.congr (L' := turnL L A 0) fun i _ => (turnL_zero L A i).symm)
  clear hown h3
  go_wp2
  refine wp_loop_k (InvTurn w aa m ca al n L A) m ?_ ?_
  · exact ⟨0, by omega, hmine.out, hb, by kernel_rfl, rfl, by kernel_rfl, by kernel_rfl, by kernel_rfl, by kernel_rfl⟩
  · intro gk a wr hI K hK
    clear hmine hb
    obtain ⟨i, hi, hmine, hb, hs', hd', k5', k11', k12', k13'⟩ := hI
    rw [fr42 a hs' hd']; simp only [k5', k11', k12', k13']; clear hs' hd' k5' k11' k12' k13'
    by_cases hlt : i < m
    · obtain ⟨b, o, rfl, hc0⟩ := hA.out i hlt
      have hc := below_cell hc0 hb (World.block_lt_of_cell? w _ hc0)
      have hin : (i : Int) < m := by omega
      by_cases hAi : 0 ≤ A i ∧ A i < n
      · obtain ⟨j, hj⟩ : ∃ j : Nat, A i = j := ⟨(A i).toNat, by omega⟩
        rw [hj] at hc
        have hjn : (j : Int) < n := by omega
        obtain ⟨g, rfl, hg, hgl, hcs, hfs⟩ := hmine.some (by omega)
        have hx := hcs j (by omega)
        have hf := hfs j
        replace hj := Lib.hid hj
        have hmine' := Lib.hid hmine
        have hyes := fun ht => Lib.hid (turn_yes w.heap.size wr g n L A i j hmine'.out hj.out (by omega) ht)
        have hno := fun h1 h2 => Lib.hid (turn_not w.heap.size wr g n L A i j hmine'.out hj.out h1 h2)
        generalize hT : turnL L A i j = t at *
        clear hT hAi hcs hfs hmine hc0
        by_cases h1 : t = 1
        · have e1 : (t == 1) = true := by simp [h1]
          have hfin := hyes (.inl h1)
          clear h1 hyes hno
          go_wp2
          refine hK (m - (i + 1)) _ _ (by omega) ⟨i + 1, by omega, hfin.out, hb.setCell hg _, by kernel_rfl, rfl, by kernel_rfl, by kernel_rfl, by kernel_rfl, ?_⟩
          show Value.int _ _ = Value.int _ _
          simp
        · have e1 : (t == 1) = false := by simp [h1]
          by_cases h2 : t = 2
          · have e2 : (t == 2) = true := by simp [h2]
            have hfin := hyes (.inr h2)
            clear h1 h2 hyes hno
            go_wp2
            refine hK (m - (i + 1)) _ _ (by omega) ⟨i + 1, by omega, hfin.out, hb.setCell hg _, by kernel_rfl, rfl, by kernel_rfl, by kernel_rfl, by kernel_rfl, ?_⟩
            show Value.int _ _ = Value.int _ _
            simp
          · have e2 : (t == 2) = false := by simp [h2]
            have hfin := hno h1 h2
            clear h1 h2 hyes hno
            go_wp2
            refine hK (m - (i + 1)) _ _ (by omega) ⟨i + 1, by omega, hfin.out, hb, by kernel_rfl, rfl, by kernel_rfl, by kernel_rfl, by kernel_rfl, ?_⟩
            show Value.int _ _ = Value.int _ _
            simp
      · have hfin := Lib.hid (hmine.congr (turn_out L A n i hAi))
        by_cases h0 : 0 ≤ A i
        · have h1 : (n : Int) ≤ A i := by omega
          clear hAi hmine hc0
          go_wp2
          refine hK (m - (i + 1)) _ _ (by omega) ⟨i + 1, by omega, hfin.out, hb, by kernel_rfl, rfl, by kernel_rfl, by kernel_rfl, by kernel_rfl, ?_⟩
          show Value.int _ _ = Value.int _ _
          simp
        · have h1 : A i < 0 := by omega
          clear hAi hmine hc0
          go_wp2
          refine hK (m - (i + 1)) _ _ (by omega) ⟨i + 1, by omega, hfin.out, hb, by kernel_rfl, rfl, by kernel_rfl, by kernel_rfl, by kernel_rfl, ?_⟩
          show Value.int _ _ = Value.int _ _
          simp
    · obtain rfl : i = m := by omega
      have hmine' := Lib.hid hmine
      clear hmine
      go_wp2_with fail
      go_ret
      exact ⟨al, rfl, hmine'.out, hb⟩
end Go.Proofs.Ytbfbpagfmhdblaa
