/- Several texts, one behind the other: CatchR CatchS CatchT CatchU. -/
import Derived.Test.YtbfbpagfmhdblaaCatchesCutW
import Derived.Test.YtbfbpagfmhdblaaFramesF
/- The document's catch: New, known, body, cut, Unlike. -/
namespace Go.Proofs.Ytbfbpagfmhdblaa
open Go.RowKit
set_option linter.unusedSimpArgs false
set_option linter.unusedVariables false
set_option maxRecDepth 100000
/-- The document's catch: two lists, each its own. -/
structure RefC (w : World) (b : Nat) (o : Int) (va vf : Value) (N F : Nat → Int) (n m : Nat) : Prop where
  blk : Blk w b #[.int .i64 o, va, vf] 95
  near : w.ownsRow 0 77 1 va n (nums .u8 N n)
  far : w.ownsRow 0 77 1 vf m (nums .u8 F m)
  ne : ∀ k, va.ownBlock = some k → vf.ownBlock ≠ some k
theorem RefC.cells {w : World} {b : Nat} {o : Int} {va vf : Value} {N F : Nat → Int} {n m : Nat} (h : RefC w b o va vf N F n m) :
    (w.cell? ⟨b, 0, none⟩ = some (.int .i64 o) ∧ w.cell? ⟨b, 1, none⟩ = some va ∧ w.cell? ⟨b, 2, none⟩ = some vf) ∧ (w.frozen? ⟨b, 1, none⟩ = false ∧ w.frozen? ⟨b, 2, none⟩ = false) ∧ b < w.heap.size :=
  ⟨⟨h.blk.cell (i := 0) rfl, h.blk.cell (i := 1) rfl, h.blk.cell (i := 2) rfl⟩, ⟨h.blk.free 1, h.blk.free 2⟩, h.blk.lt⟩
theorem RefC.slices {w : World} {b : Nat} {o : Int} {va vf : Value} {N F : Nat → Int} {n m : Nat} (h : RefC w b o va vf N F n m) : ∃ a1 c1 a2 c2, va = .slice a1 n c1 ∧ vf = .slice a2 m c2 ∧ Mine .u8 77 0 w a1 n N ∧ Mine .u8 77 0 w a2 m F := by
  obtain ⟨a1, c1, e1, _, _, _, m1⟩ := own_mine h.near
  obtain ⟨a2, c2, e2, _, _, _, m2⟩ := own_mine h.far
  exact ⟨a1, c1, a2, c2, e1, e2, m1, m2⟩
theorem own_lower' {w : World} {B n : Nat} {e : TypeId} {v : Value} {xs : List Value} (h : w.ownsRow B e 1 v n xs) : w.ownsRow 0 e 1 v n xs :=
  ⟨h.1, h.2.imp id (fun ⟨g, cap, cur, h1, h2, h3⟩ => ⟨g, cap, cur, h1, Nat.zero_le _, h3⟩)⟩
theorem RefC.below {w w' : World} {b : Nat} {o : Int} {va vf : Value} {N F : Nat → Int} {n m : Nat} (h : RefC w b o va vf N F n m) (hb : Below w.heap.size w w') : RefC w' b o va vf N F n m :=
  ⟨h.blk.below hb h.blk.lt, own_touch (S := []) h.near (Touch.of_below hb (Nat.le_refl _) []) (by simp), own_touch (S := []) h.far (Touch.of_below hb (Nat.le_refl _) []) (by simp), h.ne⟩
theorem rnewNo (w : World) (o : Int) (ho : ¬ (0 ≤ o ∧ o < 8)) : Calls Try.prog 43 #[.int .i64 o] w fun e w' => e = .returned (.tuple #[.pointer none, .int .i64 1]) ∧ w = w' := by
  by_cases h : o < 0
  · go_enter Try.func43, Try.ntmps43
    go_wp2
    go_ret2
    exact ⟨rfl, rfl⟩
  · have h2 : (7 < o) := by omega
    go_enter Try.func43, Try.ntmps43
    go_wp2
    go_ret2
    exact ⟨rfl, rfl⟩
theorem rnew (w : World) (o : Int) (N F : Nat → Int) (ho : 0 ≤ o ∧ o < 8) : Calls Try.prog 43 #[.int .i64 o] w fun e w' => ∃ b, e = .returned (.tuple #[.pointer (some ⟨b, 0, none⟩), .int .i64 0]) ∧ RefC w' b o (.slice none 0 0) (.slice none 0 0) N F 0 0 ∧ w.heap.size ≤ b ∧ Below w.heap.size w w' := by
  have h1 : ¬ o < 0 := by omega
  have h2 : ¬ 7 < o := by omega
  go_enter Try.func43, Try.ntmps43
  go_wp2
  go_ret2
  exact ⟨_, rfl, ⟨Blk.new _ _ _, World.ownsRow_nil _ _ _ _, World.ownsRow_nil _ _ _ _, fun k hk => by simp [Value.ownBlock] at hk⟩, Nat.le_refl _, below_alloc _ _⟩
theorem rknown (w : World) (x : Int) : Calls Try.prog 78 #[.int .u8 x] w fun e w' => e = .returned (.int .u8 (knownI x)) ∧ w = w' := by
  by_cases h : x = 1 ∨ x = 2
  · have e1 : Hid (knownI x = x) := by show knownI x = x; simp [knownI, h]
    rw [e1.out]
    rcases h with rfl | rfl
    · go_enter Try.func78, Try.ntmps78
      go_wp2
      go_ret
      exact ⟨rfl, rfl⟩
    · go_enter Try.func78, Try.ntmps78
      go_wp2
      go_ret
      exact ⟨rfl, rfl⟩
  · have e1 : Hid (knownI x = 0) := by show knownI x = 0; simp [knownI, h]
    have h1 : (x == 1) = false := by simp; omega
    have h2 : (x == 2) = false := by simp; omega
    rw [e1.out]
    clear h
    go_enter Try.func78, Try.ntmps78
    go_wp2
    go_ret
    exact ⟨rfl, rfl⟩
theorem rbody (w : World) (b : Nat) (o : Int) (va vf : Value) (N F : Nat → Int) (n i : Nat) (h : RefC w b o va vf N F n n) (hi : i < n) :
    Calls Try.prog 80 #[.pointer (some ⟨b, 0, none⟩), .int .i64 i] w fun e w' => e = .returned (.int .u8 (bodyI N F i)) ∧ w = w' := by
  obtain ⟨⟨c0, c1, c2⟩, _, hlt⟩ := h.cells
  obtain ⟨a1, k1, a2, k2, rfl, rfl, m1, m2⟩ := h.slices
  obtain ⟨b1, o1, rfl, hc1⟩ := m1.rd i hi
  obtain ⟨b2, o2, rfl, hc2⟩ := m2.rd i hi
  have hin : (i : Int) < (n : Int) := by omega
  clear h m1 m2
  by_cases h0 : N i = 0
  · have e1 : (N i != 0) = false := by simp [h0]
    have e2 : Hid (bodyI N F i = F i) := by show bodyI N F i = F i; simp [bodyI, h0]
    rw [e2.out]
    clear h0
    go_enter Try.func80, Try.ntmps80
    go_wp2
    go_ret
    exact ⟨rfl, rfl⟩
  · have e1 : (N i != 0) = true := by simp [h0]
    have e2 : Hid (bodyI N F i = N i) := by show bodyI N F i = N i; simp [bodyI, h0]
    rw [e2.out]
    clear h0
    go_enter Try.func80, Try.ntmps80
    go_wp2
    go_ret
    exact ⟨rfl, rfl⟩
def InvRCut (w : World) (b : Nat) (N F : Nat → Int) (n m : Nat) (k : Nat) (a : Act) (wr : World) : Prop :=
  ∃ i : Nat, i + k = n ∧ wr = w ∧ i ≤ m ∧ i ≤ 112 ∧ cutB N F i = false ∧ a.tmps.size = 19 ∧ a.defers = [] ∧ slot a 0 = .pointer (some ⟨b, 0, none⟩) ∧ slot a 1 = .int .i64 m ∧ slot a 5 = .int .i64 i
theorem cutB_min {N F : Nat → Int} {m : Nat} : cutB N F m = cutB N F (min m 112) := by
  rcases Nat.lt_or_ge m 112 with h | h
  · rw [Nat.min_eq_left (by omega)]
  · rw [Nat.min_eq_right h, cutB_late h]
set_option maxHeartbeats 1000000 in
theorem rcut (w : World) (b : Nat) (o : Int) (va vf : Value) (N F : Nat → Int) (n m : Nat) (h : RefC w b o va vf N F n n) (hm : m ≤ n) (hn : n ≤ 1000) :
    Calls Try.prog 79 #[.pointer (some ⟨b, 0, none⟩), .int .i64 m] w fun e w' => e = .returned (.bool (cutB N F m)) ∧ w = w' := by
  have BD := Lib.hid (fun i (hi : i < n) => rbody w b o va vf N F n i h hi)
  clear h
  go_enter Try.func79, Try.ntmps79
  go_wp2
  refine wp_loop_k (InvRCut w b N F n m) n ?_ ?_
  · exact ⟨0, by omega, rfl, by omega, by omega, rfl, by kernel_rfl, rfl, by kernel_rfl, by kernel_rfl, by kernel_rfl⟩
  intro gk a wr hI K hK
  obtain ⟨i, hi, rfl, him, hi2, hcf, hs', hd', k0', k1', k5'⟩ := hI
  rw [fr19 a hs' hd']; simp only [k0', k1', k5']; clear hs' hd' k0' k1' k5'
  replace hcf := Lib.hid hcf
  by_cases h1 : i < m
  · have g1 : decide ((i : Int) < (m : Int)) = true := by simp; omega
    have g1' : decide (i < m) = true := by simp; omega
    by_cases h2 : i < 112
    · have g2 : decide ((i : Int) < 112) = true := by simp; omega
      have g2' : decide (i < 112) = true := by simp; omega
      have B1 := Lib.hid (BD.out i (by omega))
      by_cases h0 : bodyI N F i = 0
      · have hc : Hid (cutB N F m = true) := cutB_mono (n := i + 1) (by simp [cutB, h2, h0]) (by omega)
        have e1 : (bodyI N F i == 0) = true := by simp [h0]
        clear h0
        generalize bodyI N F i = x at *
        go_wp2_with fail
        refine B1.out.mono ?_
        rintro e _ ⟨rfl, rfl⟩
        go_wp2_with fail
        go_ret
        exact ⟨by rw [hc.out]; rfl, rfl⟩
      · have hc : Hid (cutB N F (i + 1) = false) := by show cutB N F (i + 1) = false; simp [cutB, hcf.out, h0]
        have e1 : (bodyI N F i == 0) = false := by simp [h0]
        clear h0
        generalize bodyI N F i = x at *
        go_wp2_with fail
        refine B1.out.mono ?_
        rintro e _ ⟨rfl, rfl⟩
        go_wp2_with fail
        exact hK (n - (i + 1)) _ _ (by omega) ⟨i + 1, by omega, rfl, by omega, by omega, hc.out, by kernel_rfl, rfl, by kernel_rfl, by kernel_rfl, by kernel_rfl⟩
    · have g2 : decide ((i : Int) < 112) = false := by simp; omega
      have g2' : decide (i < 112) = false := by simp; omega
      have hc : Hid (cutB N F m = false) := by
        obtain rfl : i = 112 := by omega
        show cutB N F m = false
        rw [cutB_late (by omega)]; exact hcf.out
      go_wp2_with fail
      go_ret
      exact ⟨by rw [hc.out]; rfl, rfl⟩
  · have g1 : decide ((i : Int) < (m : Int)) = false := by simp; omega
    have g1' : decide (i < m) = false := by simp; omega
    have hc : Hid (cutB N F m = false) := by
      obtain rfl : i = m := by omega
      exact hcf.out
    go_wp2_with fail
    go_ret
    exact ⟨by rw [hc.out]; rfl, rfl⟩
def InvRUn (w : World) (b : Nat) (N F : Nat → Int) (n : Nat) (k : Nat) (a : Act) (wr : World) : Prop :=
  ∃ i q : Nat, i + k = n ∧ wr = w.drewN q ∧ unlikeI N F i = -1 ∧ a.tmps.size = 39 ∧ a.defers = [] ∧ slot a 0 = .pointer (some ⟨b, 0, none⟩) ∧ slot a 3 = .int .i64 i
theorem unlike_keep {N F : Nat → Int} {i : Nat} (h : unlikeI N F (i + 1) = i) : ∀ {n : Nat}, i < n → unlikeI N F n = i
  | 0, h0 => by omega
  | n + 1, h0 => by
    by_cases h1 : n = i
    · rw [h1, h]
    · rw [unlikeI, unlike_keep h (n := n) (by omega), if_neg (by rintro ⟨h2, _⟩; omega)]
set_option maxHeartbeats 2000000 in
theorem runlike (w : World) (b : Nat) (o : Int) (va vf : Value) (N F : Nat → Int) (n : Nat) (h : RefC w b o va vf N F n n) (hn : n ≤ 1000) :
    Calls Try.prog 51 #[.pointer (some ⟨b, 0, none⟩)] w fun e w' => e = .returned (.int .i64 (unlikeI N F n)) ∧ ∃ q, w' = w.drewN q := by
  obtain ⟨⟨c0, c1, c2⟩, _, hlt⟩ := h.cells
  obtain ⟨a1, k1, a2, k2, rfl, rfl, m1, m2⟩ := h.slices
  have r1 := Lib.hid m1.rd
  have r2 := Lib.hid m2.rd
  clear h m1 m2
  go_enter Try.func51, Try.ntmps51
  go_wp2
  refine wp_loop_k (InvRUn w b N F n) n ?_ ?_
  · exact ⟨0, 0, by omega, rfl, rfl, by kernel_rfl, rfl, by kernel_rfl, by kernel_rfl⟩
  intro gk a wr hI K hK
  obtain ⟨i, q, hi, rfl, hu, hs', hd', k0', k3'⟩ := hI
  rw [fr39 a hs' hd']; simp only [k0', k3']; clear hs' hd' k0' k3'
  replace hu := Lib.hid hu
  by_cases h1 : i < n
  · have hin : (i : Int) < (n : Int) := by omega
    obtain ⟨b1, o1, rfl, hc1⟩ := r1.out i h1
    obtain ⟨b2, o2, rfl, hc2⟩ := r2.out i h1
    by_cases h0 : N i = F i
    · by_cases h2 : N i = 0
      · have e1 : (N i != F i) = false := by simp [h0]
        have e2 : (N i == 0) = true := by simp [h2]
        have hx : Hid (unlikeI N F n = i) := unlike_keep (by rw [unlikeI, hu.out, if_pos ⟨rfl, .inr h2⟩]) h1
        clear h0 h2
        generalize N i = x at *
        generalize F i = y at *
        go_wp2_with fail
        go_quiet (fail)
        go_wp2
        go_ret
        exact ⟨by rw [hx.out]; rfl, q + nq, by simp⟩
      · have e1 : (N i != F i) = false := by simp [h0]
        have e2 : (N i == 0) = false := by simp [h2]
        have hx : Hid (unlikeI N F (i + 1) = -1) := by
          show unlikeI N F (i + 1) = -1
          rw [unlikeI, hu.out, if_neg]
          rintro ⟨_, h3 | h3⟩
          · exact h3 h0
          · exact h2 h3
        clear h0 h2
        generalize hx1 : N i = x at *
        generalize hy1 : F i = y at *
        replace hx1 := Lib.hid hx1
        replace hy1 := Lib.hid hy1
        go_wp2_with fail
        go_quiet (fail)
        go_wp2
        exact hK (n - (i + 1)) _ _ (by omega) ⟨i + 1, q + nq, by omega, by simp, hx.out, by kernel_rfl, rfl, by kernel_rfl, by kernel_rfl⟩
    · have e1 : (N i != F i) = true := by simp [h0]
      have hx : Hid (unlikeI N F n = i) := unlike_keep (by rw [unlikeI, hu.out, if_pos ⟨rfl, .inl h0⟩]) h1
      clear h0
      generalize N i = x at *
      generalize F i = y at *
      go_wp2_with fail
      go_quiet (fail)
      go_wp2
      go_ret
      exact ⟨by rw [hx.out]; rfl, q + nq, by simp⟩
  · have hin : ¬ (i : Int) < (n : Int) := by omega
    obtain rfl : n = i := by omega
    go_wp2
    go_ret
    exact ⟨by rw [hu.out]; rfl, q, rfl⟩
end Go.Proofs.Ytbfbpagfmhdblaa
/- The document's catch: frame, whole, High. -/
namespace Go.Proofs.Ytbfbpagfmhdblaa
open Go.RowKit
set_option linter.unusedSimpArgs false
set_option linter.unusedVariables false
set_option maxRecDepth 100000
def InvRF (w1 : World) (R b : Nat) (N F : Nat → Int) (k : Nat) (a : Act) (wr : World) : Prop :=
  ∃ (i : Nat) (v : Value), i + k = 112 ∧ Below w1.heap.size w1 wr ∧ wr.ownsRow w1.heap.size 77 1 v i (nums .u8 (bodyI N F) i) ∧ a.tmps.size = 54 ∧ a.defers = [] ∧ slot a 0 = .pointer (some ⟨b, 0, none⟩) ∧ slot a 2 = .pointer (some ⟨R, 0, none⟩) ∧ slot a 4 = v ∧ slot a 5 = .int .i64 i
set_option maxHeartbeats 4000000 in
theorem rframe (w : World) (b : Nat) (o : Int) (va vf : Value) (N F : Nat → Int) (n : Nat) (h : RefC w b o va vf N F n n) (hn : 112 ≤ n) (hn2 : n ≤ 1000) (hw : wholeL (bodyI N F) 112 = true) :
    Calls Try.prog 83 #[.pointer (some ⟨b, 0, none⟩)] w fun e w' => e = .returned (.tuple #[getV (bytesL (bodyI N F)) 14, .bool (isL o (bodyI N F))]) ∧ Below w.heap.size w w' := by
  obtain ⟨i0, hi0, hz0, hz1, hz2⟩ := info_parts elemS
  have hob : okB (bodyI N F) 112 = true := by simp [okB, hw]
  have hcb : cntB (bodyI N F) 112 = 14 := by simp [cntB, hob]
  have hby := Lib.hid (bytesL_byte (q := 14) hw)
  obtain ⟨o', k, st, sq, v', hgv⟩ := getV_is (bytesL (bodyI N F)) 14
  have C := Lib.hid (fun (W : World) (a : Option Addr) (c : Nat) (h : Rd .u8 W a 112 (bodyI N F)) (h2 : NilOk a 112 c) => by
    have := refBytesN W a 112 c (bodyI N F) h h2 (by omega)
    rw [hob, hcb] at this
    exact this)
  have G := Lib.hid (fun (W : World) (a : Option Addr) (cc : Nat) (h : Rd .u8 W a 14 (bytesL (bodyI N F))) (h2 : NilOk a 14 cc) => by
    have := refGet W a 14 cc (bytesL (bodyI N F)) h h2 hby.out (by omega)
    rw [hgv] at this
    exact this)
  have hB : isL o (bodyI N F) = (decide (getE (bytesL (bodyI N F)) 14 = 0) && decide (o' = o)) := by
    unfold isL
    by_cases hE : getE (bytesL (bodyI N F)) 14 = 0
    · have : getV (bytesL (bodyI N F)) 14 = frV (bytesL (bodyI N F) 0 % 16) (bytesL (bodyI N F) 0 / 16) (bytesL (bodyI N F) 1) (sqOf (bytesL (bodyI N F))) (vlOf (bytesL (bodyI N F))) := by simp [getV, hE]
      rw [this] at hgv
      simp [frV] at hgv
      rw [hgv.1]
    · simp [hE]
  rw [hB, hgv]
  have hU := frame_ways (bytesL (bodyI N F)) o' o
  generalize (decide (getE (bytesL (bodyI N F)) 14 = 0) && decide (o' = o)) = q at *
  generalize getE (bytesL (bodyI N F)) 14 = E at *
  have BD := Lib.hid (fun W (hb : Below w.heap.size w W) i (hi : i < n) => rbody W b o va vf N F n i (h.below hb) hi)
  obtain ⟨a1, ka, a2, kb, e1, e2, _, _⟩ := h.slices
  have h0 := Lib.hid h
  have hlt := h.blk.lt
  have hc1 : Hid (∀ W, Below w.heap.size w W → W.cell? ⟨b, 1, none⟩ = some (.slice a1 n ka)) := fun W hb => by
    rw [← e1]
    exact (h0.out.below hb).cells.1.2.1
  clear hob hcb hgv hB h e1 e2 hw
  have hb01 := below_alloc w (.cells #[.int .i64 0, .int .u8 0, .int .u8 0, .int .u32 0, .int .u32 0] 28)
  have hR1 := Lib.hid (Blk.new w #[.int .i64 0, .int .u8 0, .int .u8 0, .int .u32 0, .int .u32 0] 28)
  have hs1 : w.heap.size < (w.alloc (.cells #[.int .i64 0, .int .u8 0, .int .u8 0, .int .u32 0, .int .u32 0] 28)).heap.size := by simp
  rcases hU with ⟨rfl, rfl⟩ | ⟨rfl, rfl⟩ | ⟨rfl, rfl⟩
  all_goals
    go_enter Try.func83, Try.ntmps83
    go_wp2_with fail
    generalize w.alloc (.cells #[.int .i64 0, .int .u8 0, .int .u8 0, .int .u32 0, .int .u32 0] 28) = w1 at *
    refine wp_loop_k (InvRF w1 w.heap.size b N F) 112 ?_ ?_
    · exact ⟨0, _, by omega, Below.refl _ _, World.ownsRow_nil _ _ _ _, by kernel_rfl, rfl, by kernel_rfl, by kernel_rfl, by kernel_rfl, by kernel_rfl⟩
    intro gk a wr hI K hK
    obtain ⟨i, vv, hi, hbw, hown, hs', hd', k0', k2', k4', k5'⟩ := hI
    rw [fr54 a hs' hd']; simp only [k0', k2', k4', k5']; clear hs' hd' k0' k2' k4' k5'
    have hsz := hbw.size
    have hb0w := hb01.trans (hbw.mono (Nat.le_of_lt hs1))
    have hcell := hc1.out _ hb0w
    replace hown := Lib.hid hown
    by_cases hil : i < 112
    · have g1 : decide ((i : Int) < 112) = true := by simp; omega
      have g2 : decide ((i : Int) < (n : Int)) = true := by simp; omega
      have g1' : decide (i < 112) = true := by simp; omega
      have g2' : decide (i < n) = true := by simp; omega
      have B1 := Lib.hid (BD.out wr hb0w i (by omega))
      have hS : Hid (nums .u8 (bodyI N F) (i + 1) = nums .u8 (bodyI N F) i ++ [.int .u8 (bodyI N F i)]) := nums_succ _ _ _
      obtain ⟨x, hx⟩ : ∃ x, bodyI N F i = x := ⟨_, rfl⟩
      rw [hx] at B1
      rw [hx] at hS
      replace hx := Lib.hid hx
      have hlo := Lib.hid (own_lower' hown.out)
      go_wp2_with fail
      refine B1.out.mono ?_
      rintro e _ ⟨rfl, rfl⟩
      go_wp2_with (at_builtin; refine append_at rfl _ _ 40 rfl 77 i0 (.int .u8 0) 1 Try.underlying40 hi0 hz0 hz1 hz2 rfl _ i _ rfl hlo.out _ wr.heap.size (by simp) rfl rfl (by omega) (by omega) ?_)
      intro g c w3 hown3 hg3 hat3
      rw [← hS.out] at hown3
      have hbw3 := Lib.hid (Below.grown hbw hg3 hsz (fun k hk => (hown.out.lt k hk).1))
      have hown4 := Lib.hid (own_raise hown3 (B := w1.heap.size) (fun g' hg' => by
        simp only [Value.ownBlock, Option.some.injEq] at hg'
        rcases hat3 with e | e
        · exact hg' ▸ (hown.out.lt g e).1
        · omega))
      clear hown3 hg3 hat3 hlo B1 hS hcell
      go_wp2
      exact hK (112 - (i + 1)) _ _ (by omega) ⟨i + 1, _, by omega, hbw3.out, hown4.out, by kernel_rfl, rfl, by kernel_rfl, by kernel_rfl, by kernel_rfl, by kernel_rfl⟩
    · obtain rfl : i = 112 := by omega
      have g1 : decide (((112 : Nat) : Int) < 112) = false := by simp
      obtain ⟨ax, cx, rfl, q1, q2, q3, mx⟩ := own_mine hown.out
      have rx := Lib.hid mx.rd
      clear mx hown
      go_wp2_with fail
      refine (C.out _ ax cx rx.out ⟨q1, q2, q3⟩).mono ?_
      rintro e w4 ⟨a4, c4, rfl, m4, hb4, n4⟩
      have x4 := Lib.hid m4.rd
      go_wp2_with fail
      refine (G.out _ a4 c4 x4.out n4).mono ?_
      rintro e w2 ⟨rfl, hb2'⟩
      have hb02 := bthen (bthen (bthen hb0w (Below.refl _ _)) hb4) hb2'
      have hR2 := Lib.hid (hR1.out.below (bthen (bthen hbw hb4) hb2') hs1)
      have hs2 := hb02.size
      have hRl := hR2.out.lt
      clear hK hcell hbw hb0w hb4 hb2' x4 rx C G BD m4
      go_wp2_with fail
      have hF5 := Blk.new w2 #[.int .i64 o', .int .u8 k, .int .u8 st, .int .u32 sq, .int .u32 v'] 28
      have hR5 := hR2.out.alloc (.cells #[.int .i64 o', .int .u8 k, .int .u8 st, .int .u32 sq, .int .u32 v'] 28)
      have hC5 := (h0.out.blk.below hb02 h0.out.blk.lt).alloc (.cells #[.int .i64 o', .int .u8 k, .int .u8 st, .int .u32 sq, .int .u32 v'] 28)
      have hb05 := bthen hb02 (below_alloc w2 (.cells #[.int .i64 o', .int .u8 k, .int .u8 st, .int .u32 sq, .int .u32 v'] 28))
      have hb1 : b ≠ w.heap.size := by omega
      have hb2 : w2.heap.size ≠ w.heap.size := by omega
      generalize w2.alloc (.cells #[.int .i64 o', .int .u8 k, .int .u8 st, .int .u32 sq, .int .u32 v'] 28) = w5 at *
      obtain ⟨⟨c0, c1, c2, c3, c4'⟩, f0, f1, f2, f3, f4⟩ := fr_cells hR5
      replace hF5 := Lib.hid hF5
      replace hR5 := Lib.hid hR5
      replace hC5 := Lib.hid hC5
      have hcl : Hid (∀ W, Blk W w2.heap.size #[.int .i64 o', .int .u8 k, .int .u8 st, .int .u32 sq, .int .u32 v'] 28 → Blk W b #[.int .i64 o, va, vf] 95 →
        (W.cell? ⟨w2.heap.size, 0, none⟩ = some (.int .i64 o') ∧ W.cell? ⟨w2.heap.size, 1, none⟩ = some (.int .u8 k) ∧ W.cell? ⟨w2.heap.size, 2, none⟩ = some (.int .u8 st) ∧ W.cell? ⟨w2.heap.size, 3, none⟩ = some (.int .u32 sq) ∧ W.cell? ⟨w2.heap.size, 4, none⟩ = some (.int .u32 v')) ∧ W.cell? ⟨b, 0, none⟩ = some (.int .i64 o)) := fun W h1 h2 => ⟨(fr_cells h1).1, h2.cell (i := 0) rfl⟩
      obtain ⟨⟨k0, k1, k2, k3, k4⟩, k5⟩ := hcl.out _ hF5.out.drew hC5.out.drew
      first
      | (refine wp_region_held_drew (S := fun W => (W.cell? ⟨w2.heap.size, 0, none⟩ = some (.int .i64 o') ∧ W.cell? ⟨w2.heap.size, 1, none⟩ = some (.int .u8 k) ∧ W.cell? ⟨w2.heap.size, 2, none⟩ = some (.int .u8 st) ∧ W.cell? ⟨w2.heap.size, 3, none⟩ = some (.int .u32 sq) ∧ W.cell? ⟨w2.heap.size, 4, none⟩ = some (.int .u32 v')) ∧ W.cell? ⟨b, 0, none⟩ = some (.int .i64 o)) (by kernel_rfl) ⟨⟨k0, k1, k2, k3, k4⟩, k5⟩ (fun hHeld => ?_)
         refine wpAnyH_take (i := 0) (oi := { dst := some 39, op := .load _ (.tmp 8), type := _, pos := _, after := _, guard := _ }) (v := ?_) rfl (by kernel_rfl) (by kernel_rfl) (by kernel_rfl) (fun _ _ _ h => h) (Or.inl ⟨by rfl, ?_⟩) (by assumption) ?_
         rotate_left
         · (intro w hSw; (try dsimp only at hSw); go_simp) <;> with_reducible rfl
         simp only [Act.put, List.setIfInBounds_toArray, List.set_cons_zero, List.set_cons_succ]
         refine wpAnyH_take (i := 1) (oi := { dst := some 40, op := .move (.tmp 7), type := _, pos := _, after := _, guard := _ }) (v := ?_) rfl (by kernel_rfl) (by kernel_rfl) (by kernel_rfl) (fun _ _ _ h => h) (Or.inl ⟨by rfl, ?_⟩) (by assumption) ?_
         rotate_left
         · (intro w hSw; (try dsimp only at hSw); go_simp) <;> with_reducible rfl
         simp only [Act.put, List.setIfInBounds_toArray, List.set_cons_zero, List.set_cons_succ]
         refine wpAnyH_take (i := 2) (oi := { dst := some 41, op := .move (.tmp 40), type := _, pos := _, after := _, guard := _ }) (v := ?_) rfl (by kernel_rfl) (by kernel_rfl) (by kernel_rfl) (fun _ _ _ h => h) (Or.inl ⟨by rfl, ?_⟩) (by assumption) ?_
         rotate_left
         · (intro w hSw; (try dsimp only at hSw); go_simp) <;> with_reducible rfl
         simp only [Act.put, List.setIfInBounds_toArray, List.set_cons_zero, List.set_cons_succ]
         refine wpAnyH_take (i := 3) (oi := { dst := some 42, op := .move (.tmp 9), type := _, pos := _, after := _, guard := _ }) (v := ?_) rfl (by kernel_rfl) (by kernel_rfl) (by kernel_rfl) (fun _ _ _ h => h) (Or.inl ⟨by rfl, ?_⟩) (by assumption) ?_
         rotate_left
         · (intro w hSw; (try dsimp only at hSw); go_simp) <;> with_reducible rfl
         simp only [Act.put, List.setIfInBounds_toArray, List.set_cons_zero, List.set_cons_succ]
         refine wpAnyH_take (i := 4) (oi := { dst := some 43, op := .binOp .eql _ (.tmp 42) (.const (.int .i64 0)) _, type := _, pos := _, after := _, guard := _ }) (v := ?_) rfl (by kernel_rfl) (by kernel_rfl) (by kernel_rfl) (fun _ _ _ h => h) (Or.inl ⟨by rfl, ?_⟩) (by assumption) ?_
         rotate_left
         · (intro w hSw; (try dsimp only at hSw); go_simp) <;> with_reducible rfl
         simp only [Act.put, List.setIfInBounds_toArray, List.set_cons_zero, List.set_cons_succ]
         refine wpAnyH_take (i := 5) (oi := { dst := some 44, op := .pick (.tmp 41) (.tmp 43) (.const (.bool false)), type := _, pos := _, after := _, guard := _ }) (v := ?_) rfl (by kernel_rfl) (by kernel_rfl) (by kernel_rfl) (fun _ _ _ h => h) (Or.inl ⟨by rfl, ?_⟩) (by assumption) ?_
         rotate_left
         · (intro w hSw; (try dsimp only at hSw); go_simp) <;> with_reducible rfl
         simp only [Act.put, List.setIfInBounds_toArray, List.set_cons_zero, List.set_cons_succ]
         refine wpAnyH_take (i := 6) (oi := { dst := some 45, op := .move (.tmp 44), type := _, pos := _, after := _, guard := _ }) (v := ?_) rfl (by kernel_rfl) (by kernel_rfl) (by kernel_rfl) (fun _ _ _ h => h) (Or.inl ⟨by rfl, ?_⟩) (by assumption) ?_
         rotate_left
         · (intro w hSw; (try dsimp only at hSw); go_simp) <;> with_reducible rfl
         simp only [Act.put, List.setIfInBounds_toArray, List.set_cons_zero, List.set_cons_succ]
         refine wpAnyH_take (i := 7) (v := undef) rfl (by kernel_rfl) (by kernel_rfl) (by kernel_rfl) (fun _ _ _ h => h) (Or.inr ⟨by rfl, rfl⟩) (by assumption) ?_
         simp only [Act.put, List.setIfInBounds_toArray, List.set_cons_zero, List.set_cons_succ]
         refine wpAnyH_take (i := 8) (v := undef) rfl (by kernel_rfl) (by kernel_rfl) (by kernel_rfl) (fun _ _ _ h => h) (Or.inr ⟨by rfl, rfl⟩) (by assumption) ?_
         simp only [Act.put, List.setIfInBounds_toArray, List.set_cons_zero, List.set_cons_succ]
         refine wpAnyH_take (i := 9) (v := undef) rfl (by kernel_rfl) (by kernel_rfl) (by kernel_rfl) (fun _ _ _ h => h) (Or.inr ⟨by rfl, rfl⟩) (by assumption) ?_
         simp only [Act.put, List.setIfInBounds_toArray, List.set_cons_zero, List.set_cons_succ]
         refine wpAnyH_take (i := 10) (v := undef) rfl (by kernel_rfl) (by kernel_rfl) (by kernel_rfl) (fun _ _ _ h => h) (Or.inr ⟨by rfl, rfl⟩) (by assumption) ?_
         simp only [Act.put, List.setIfInBounds_toArray, List.set_cons_zero, List.set_cons_succ]
         refine wpAnyH_take (i := 11) (v := undef) rfl (by kernel_rfl) (by kernel_rfl) (by kernel_rfl) (fun _ _ _ h => h) (Or.inr ⟨by rfl, rfl⟩) (by assumption) ?_
         simp only [Act.put, List.setIfInBounds_toArray, List.set_cons_zero, List.set_cons_succ]
         refine wpAnyH_take (i := 12) (v := undef) rfl (by kernel_rfl) (by kernel_rfl) (by kernel_rfl) (fun _ _ _ h => h) (Or.inr ⟨by rfl, rfl⟩) (by assumption) ?_
         simp only [Act.put, List.setIfInBounds_toArray, List.set_cons_zero, List.set_cons_succ]
         refine wpAnyH_take (i := 13) (v := undef) rfl (by kernel_rfl) (by kernel_rfl) (by kernel_rfl) (fun _ _ _ h => h) (Or.inr ⟨by rfl, rfl⟩) (by assumption) ?_
         simp only [Act.put, List.setIfInBounds_toArray, List.set_cons_zero, List.set_cons_succ]
         refine wpAnyH_take (i := 14) (oi := { dst := some 53, op := .pick (.tmp 45) (.tmp 52) (.const (.bool false)), type := _, pos := _, after := _, guard := _ }) (v := ?_) rfl (by kernel_rfl) (by kernel_rfl) (by kernel_rfl) (fun _ _ _ h => h) (Or.inl ⟨by rfl, ?_⟩) (by assumption) ?_
         rotate_left
         · (intro w hSw; (try dsimp only at hSw); go_simp) <;> with_reducible rfl
         simp only [Act.put, List.setIfInBounds_toArray, List.set_cons_zero, List.set_cons_succ]
         refine wpAnyH_ready (rs := [15]) (by kernel_rfl) (by simp) ?_
         refine AllReadyH.cons (o := { dst := none, op := .store _ (.tmp 2) (.tmp 39), type := _, pos := _, after := _, guard := _ }) rfl (fun K hK => ?_) AllReadyH.nil
         go_simp
         refine hK.out _ _ ?_ (fun _ => ?_)
         · exact hcl.out _ (fr_setNe hF5.out hb2 _ _ _ _ _).drew (fr_setNe hC5.out hb1 _ _ _ _ _).drew
         clear hK K
         try simp only [Act.put, List.setIfInBounds_toArray, List.set_cons_zero, List.set_cons_succ]
         refine wpAnyH_take (i := 16) (oi := { dst := some 3, op := .assign (.tmp 53), type := _, pos := _, after := _, guard := _ }) (v := ?_) rfl (by kernel_rfl) (by kernel_rfl) (by kernel_rfl) (fun _ _ _ h => h) (Or.inl ⟨by rfl, ?_⟩) (by assumption) ?_
         rotate_left
         · (intro w hSw; (try dsimp only at hSw); go_simp) <;> with_reducible rfl
         simp only [Act.put, List.setIfInBounds_toArray, List.set_cons_zero, List.set_cons_succ]
         refine wpAnyH_done (by kernel_rfl) ?_ _
         have hR6 := (fr_set hR5.out (.int .i64 o') (.int .u8 k) (.int .u8 st) (.int .u32 sq) (.int .u32 v')).drew
         have hb06 := (fr_below hb05 (Nat.le_refl _) (.int .i64 o') (.int .u8 k) (.int .u8 st) (.int .u32 sq) (.int .u32 v')).drew
         go_wp2_with fail
         obtain ⟨⟨r0, r1, r2, r3, r4⟩, _⟩ := fr_cells hR6
         refine bodyPost_ret (v := .tuple #[.agg #[.int .i64 o', .int .u8 k, .int .u8 st, .int .u32 sq, .int .u32 v'], .bool false]) (by simp [results, Try.results83, go_sem, r0, r1, r2, r3, r4]) rfl ⟨rfl, hb06⟩)
      | (go_region_held3 (fun W => (W.cell? ⟨w2.heap.size, 0, none⟩ = some (.int .i64 o') ∧ W.cell? ⟨w2.heap.size, 1, none⟩ = some (.int .u8 k) ∧ W.cell? ⟨w2.heap.size, 2, none⟩ = some (.int .u8 st) ∧ W.cell? ⟨w2.heap.size, 3, none⟩ = some (.int .u32 sq) ∧ W.cell? ⟨w2.heap.size, 4, none⟩ = some (.int .u32 v')) ∧ W.cell? ⟨b, 0, none⟩ = some (.int .i64 o))
           (first
             | with_reducible exact hcl.out _ hF5.out.drew hC5.out.drew
             | with_reducible exact hcl.out _ (fr_setNe hF5.out hb2 _ _ _ _ _).drew (fr_setNe hC5.out hb1 _ _ _ _ _).drew
             | (trace_state; fail)) (fail)
         have hR6 := (fr_set hR5.out (.int .i64 o') (.int .u8 k) (.int .u8 st) (.int .u32 sq) (.int .u32 v')).drew
         have hb06 := (fr_below hb05 (Nat.le_refl _) (.int .i64 o') (.int .u8 k) (.int .u8 st) (.int .u32 sq) (.int .u32 v')).drew
         go_wp2_with fail
         obtain ⟨⟨r0, r1, r2, r3, r4⟩, _⟩ := fr_cells hR6
         refine bodyPost_ret (v := .tuple #[.agg #[.int .i64 o', .int .u8 k, .int .u8 st, .int .u32 sq, .int .u32 v'], .bool (o' == o)]) (by simp [results, Try.results83, go_sem, r0, r1, r2, r3, r4]) rfl ⟨rfl, hb06⟩)
end Go.Proofs.Ytbfbpagfmhdblaa
/- The document's catch: whole, High, Step. -/
namespace Go.Proofs.Ytbfbpagfmhdblaa
open Go.RowKit
set_option linter.unusedSimpArgs false
set_option linter.unusedVariables false
set_option maxRecDepth 100000
def InvRW (w : World) (b : Nat) (N F : Nat → Int) (k : Nat) (a : Act) (wr : World) : Prop :=
  ∃ i q : Nat, i + k = 112 ∧ wr = w.drewN q ∧ unlikeI N F i = -1 ∧ a.tmps.size = 59 ∧ a.defers = [] ∧ slot a 0 = .pointer (some ⟨b, 0, none⟩) ∧ slot a 3 = .int .i64 i
theorem whole_ways {o : Int} {N F : Nat → Int} (h : unlikeI N F 112 = -1) : (isL o (bodyI N F) = false ∧ wholeQ o N F = false) ∨ (isL o (bodyI N F) = true ∧ (N 112 == 2) = false ∧ wholeQ o N F = false) ∨ (isL o (bodyI N F) = true ∧ (N 112 == 2) = true ∧ (F 112 == 2) = false ∧ wholeQ o N F = false) ∨
    (isL o (bodyI N F) = true ∧ (N 112 == 2) = true ∧ (F 112 == 2) = true ∧ wholeQ o N F = true) := by
  have e : isB o N F = isL o (bodyI N F) := rfl
  cases h1 : isL o (bodyI N F) with
  | false => left; exact ⟨rfl, by simp [wholeQ, e, h1]⟩
  | true =>
    right
    by_cases h2 : N 112 = 2
    · right
      by_cases h3 : F 112 = 2
      · right
        have h4 : unlikeI N F 113 = -1 := by
          rw [unlikeI, h, if_neg]
          rintro ⟨_, h5 | h5⟩
          · exact h5 (h2.trans h3.symm)
          · omega
        exact ⟨rfl, by simp [h2], by simp [h3], by simp [wholeQ, e, h1, h2, h3, h4]⟩
      · left
        exact ⟨rfl, by simp [h2], by simp [h3], by simp [wholeQ, h3]⟩
    · left
      exact ⟨rfl, by simp [h2], by simp [wholeQ, h2]⟩
theorem whole_no {o : Int} {N F : Nat → Int} {i : Nat} (h : unlikeI N F (i + 1) = i) (hi : i < 112) : wholeQ o N F = false := by
  have := unlike_keep h (n := 113) (by omega)
  simp [wholeQ, this]
theorem body_w {N F : Nat → Int} (hN : ∀ i, N i = 0 ∨ N i = 1 ∨ N i = 2) (h : unlikeI N F 112 = -1) : wholeL (bodyI N F) 112 = true := wholeL_iff.2 fun i hi => by
  have h1 := (unlike_none.1 h i hi).2
  have := hN i
  rw [bodyI, if_pos h1]
  omega
set_option maxHeartbeats 4000000 in
theorem rwhole (w : World) (b : Nat) (o : Int) (va vf : Value) (N F : Nat → Int) (n : Nat) (hN : ∀ i, N i = 0 ∨ N i = 1 ∨ N i = 2) (h : RefC w b o va vf N F n n) (hn : 113 ≤ n) (hn2 : n ≤ 1000) :
    Calls Try.prog 81 #[.pointer (some ⟨b, 0, none⟩)] w fun e w' => e = .returned (.bool (wholeQ o N F)) ∧ Below w.heap.size w w' := by
  obtain ⟨⟨c0, c1, c2⟩, _, hlt⟩ := h.cells
  have FR := Lib.hid (fun q (hw : wholeL (bodyI N F) 112 = true) => rframe (w.drewN q) b o va vf N F n (h.below (below_drewN w q)) (by omega) hn2 hw)
  have hD := Lib.hid h
  obtain ⟨a1, k1, a2, k2, rfl, rfl, m1, m2⟩ := h.slices
  have r1 := Lib.hid m1.rd
  have r2 := Lib.hid m2.rd
  obtain ⟨f0, f1, f2, f3, f4, hgv⟩ := getV_is (bytesL (bodyI N F)) 14
  rw [hgv] at FR
  clear hgv
  clear h m1 m2
  go_enter Try.func81, Try.ntmps81
  go_wp2
  refine wp_loop_k (InvRW w b N F) 112 ?_ ?_
  · exact ⟨0, 0, by omega, rfl, rfl, by kernel_rfl, rfl, by kernel_rfl, by kernel_rfl⟩
  intro gk a wr hI K hK
  obtain ⟨i, q, hi, rfl, hu, hs', hd', k0', k3'⟩ := hI
  rw [fr59 a hs' hd']; simp only [k0', k3']; clear hs' hd' k0' k3'
  replace hu := Lib.hid hu
  by_cases h1 : i < 112
  · have g1 : decide ((i : Int) < 112) = true := by simp; omega
    have hin : (i : Int) < (n : Int) := by omega
    obtain ⟨b1, o1, rfl, hc1⟩ := r1.out i (by omega)
    obtain ⟨b2, o2, rfl, hc2⟩ := r2.out i (by omega)
    by_cases h0 : N i = F i
    · by_cases h2 : N i = 0
      · have e1 : (N i != F i) = false := by simp [h0]
        have e2 : (N i == 0) = true := by simp [h2]
        have hx : Hid (wholeQ o N F = false) := whole_no (i := i) (by rw [unlikeI, hu.out, if_pos ⟨rfl, .inr h2⟩]) h1
        clear h0 h2 FR hK
        generalize N i = x at *
        generalize F i = y at *
        go_wp2_with fail
        go_quiet (fail)
        go_wp2
        go_ret
        exact ⟨by rw [hx.out]; rfl, bthen (below_drewN w q) (below_drewN _ _)⟩
      · have e1 : (N i != F i) = false := by simp [h0]
        have e2 : (N i == 0) = false := by simp [h2]
        have hx : Hid (unlikeI N F (i + 1) = -1) := by
          show unlikeI N F (i + 1) = -1
          rw [unlikeI, hu.out, if_neg]
          rintro ⟨_, h3 | h3⟩
          · exact h3 h0
          · exact h2 h3
        clear h0 h2 FR
        generalize hx1 : N i = x at *
        generalize hy1 : F i = y at *
        replace hx1 := Lib.hid hx1
        replace hy1 := Lib.hid hy1
        go_wp2_with fail
        go_quiet (fail)
        go_wp2
        exact hK (112 - (i + 1)) _ _ (by omega) ⟨i + 1, q + nq, by omega, by simp, hx.out, by kernel_rfl, rfl, by kernel_rfl, by kernel_rfl⟩
    · have e1 : (N i != F i) = true := by simp [h0]
      have hx : Hid (wholeQ o N F = false) := whole_no (i := i) (by rw [unlikeI, hu.out, if_pos ⟨rfl, .inl h0⟩]) h1
      clear h0 FR hK
      generalize N i = x at *
      generalize F i = y at *
      go_wp2_with fail
      go_quiet (fail)
      go_wp2
      go_ret
      exact ⟨by rw [hx.out]; rfl, bthen (below_drewN w q) (below_drewN _ _)⟩
  · obtain rfl : i = 112 := by omega
    have g1 : decide (((112 : Nat) : Int) < 112) = false := by simp
    have hin : (112 : Int) < (n : Int) := by omega
    obtain ⟨b1, o1, rfl, hc1⟩ := r1.out 112 (by omega)
    obtain ⟨b2, o2, rfl, hc2⟩ := r2.out 112 (by omega)
    have hU := whole_ways (o := o) hu.out
    have F1 := Lib.hid (FR.out q (body_w hN hu.out))
    clear FR hK
    have hb0q := below_drewN w q
    go_wp2_with fail
    refine F1.out.mono ?_
    rintro e w2 ⟨rfl, hb2⟩
    have hb02 := bthen hb0q hb2
    have hb3 := below_alloc w2 (.cells #[.int .i64 f0, .int .u8 f1, .int .u8 f2, .int .u32 f3, .int .u32 f4] 28)
    have hb03 := bthen hb02 hb3
    have lb1 := World.block_lt_of_cell? w _ hc1
    have lb2 := World.block_lt_of_cell? w _ hc2
    have d1 := below_cell c1 hb03 hlt
    have d2 := below_cell c2 hb03 hlt
    have x1 := below_cell hc1 hb03 lb1
    have x2 := below_cell hc2 hb03 lb2
    clear c0 c1 c2 hc1 hc2 hb2 hb02 hb3 F1 hD r1 r2
    go_upto_region 7 with fail
    generalize w2.alloc (.cells #[.int .i64 f0, .int .u8 f1, .int .u8 f2, .int .u32 f3, .int .u32 f4] 28) = w3 at *
    generalize isL o (bodyI N F) = t at *
    generalize hq : wholeQ o N F = wq at *
    replace hq := Lib.hid hq
    generalize N 112 = nx at *
    generalize F 112 = fx at *
    rcases hU with ⟨rfl, rfl⟩ | ⟨rfl, e1, rfl⟩ | ⟨rfl, e1, e2, rfl⟩ | ⟨rfl, e1, e2, rfl⟩
    all_goals
      go_wp2_with fail
      go_ret
      exact ⟨by rw [hq.out]; rfl, hb03⟩
theorem rhigh_ways {o : Int} {N F : Nat → Int} : (wholeQ o N F = false ∧ highQ o N F = false) ∨ (wholeQ o N F = true ∧ (N 113 != 1) = true ∧ highQ o N F = false) ∨ (wholeQ o N F = true ∧ (N 113 != 1) = false ∧ (F 113 != 1) = true ∧ highQ o N F = false) ∨ (wholeQ o N F = true ∧ (N 113 != 1) = false ∧ (F 113 != 1) = false ∧ highQ o N F = true) := by
  cases h1 : wholeQ o N F with
  | false => left; simp [highQ, h1]
  | true =>
    right
    by_cases h2 : N 113 = 1
    · right
      by_cases h3 : F 113 = 1
      · right; simp [highQ, h1, h2, h3]
      · left; simp [highQ, h1, h2, h3]
    · left; simp [highQ, h1, h2]
theorem rhighShort (w : World) (b : Nat) (o : Int) (va vf : Value) (N F : Nat → Int) (n : Nat) (h : RefC w b o va vf N F n n) (hn : n < 114) :
    Calls Try.prog 49 #[.pointer (some ⟨b, 0, none⟩)] w fun e w' => e = .returned (.tuple #[frV 0 0 0 0 0, .bool false]) ∧ Below w.heap.size w w' := by
  obtain ⟨⟨c0, c1, c2⟩, _, hlt⟩ := h.cells
  obtain ⟨a1, k1, a2, k2, rfl, rfl, m1, m2⟩ := h.slices
  have g1 : decide ((n : Int) < 114) = true := by simp; omega
  have g2 : (n : Int) < 114 := by omega
  clear h m1 m2
  unfold frV
  go_enter Try.func49, Try.ntmps49
  go_wp2
  refine bodyPost_ret (v := .tuple #[.agg #[.int .i64 0, .int .u8 0, .int .u8 0, .int .u32 0, .int .u32 0], .bool false]) (by simp [results, Try.results49, go_sem]) rfl ⟨rfl, below_alloc _ _⟩
set_option maxHeartbeats 4000000 in
theorem rhigh (w : World) (b : Nat) (o : Int) (va vf : Value) (N F : Nat → Int) (hN : ∀ i, N i = 0 ∨ N i = 1 ∨ N i = 2) (h : RefC w b o va vf N F 114 114) :
    Calls Try.prog 49 #[.pointer (some ⟨b, 0, none⟩)] w fun e w' => e = .returned (.tuple #[if highQ o N F = true then getV (bytesL (bodyI N F)) 14 else frV 0 0 0 0 0, .bool (highQ o N F)]) ∧ Below w.heap.size w w' := by
  have WH := Lib.hid (fun W (hb : Below w.heap.size w W) => rwhole W b o va vf N F 114 hN (h.below hb) (by omega) (by omega))
  have FR := Lib.hid (fun W (hb : Below w.heap.size w W) (hq : highQ o N F = true) => by
    have hu : unlikeI N F 112 = -1 := unlike_none.2 fun i hi => (high_iff.1 hq).2.1 i (by omega)
    have := rframe W b o va vf N F 114 (h.below hb) (by omega) (by omega) (body_w hN hu)
    rw [show isL o (bodyI N F) = true from (high_iff.1 hq).1] at this
    exact this)
  obtain ⟨⟨c0, c1, c2⟩, _, hlt⟩ := h.cells
  obtain ⟨a1, k1, a2, k2, rfl, rfl, m1, m2⟩ := h.slices
  obtain ⟨b1, o1, rfl, hc1⟩ := m1.rd 113 (by omega)
  obtain ⟨b2, o2, rfl, hc2⟩ := m2.rd 113 (by omega)
  obtain ⟨f0, f1, f2, f3, f4, hgv⟩ := getV_is (bytesL (bodyI N F)) 14
  rw [hgv] at FR ⊢
  have lb1 := World.block_lt_of_cell? w _ hc1
  have lb2 := World.block_lt_of_cell? w _ hc2
  have hU := rhigh_ways (o := o) (N := N) (F := F)
  have hb01 := below_alloc w (.cells #[.int .i64 0, .int .u8 0, .int .u8 0, .int .u32 0, .int .u32 0] 28)
  have hR1 := Lib.hid (Blk.new w #[.int .i64 0, .int .u8 0, .int .u8 0, .int .u32 0, .int .u32 0] 28)
  clear h m1 m2 hgv
  unfold frV
  generalize wholeQ o N F = wq at *
  generalize highQ o N F = hq at *
  generalize N 113 = nx at *
  generalize F 113 = fx at *
  have hcs : Hid (∀ W, Below w.heap.size w W → W.cell? ⟨b, 1, none⟩ = some (.slice (some ⟨b1, o1, none⟩) 114 k1) ∧ W.cell? ⟨b, 2, none⟩ = some (.slice (some ⟨b2, o2, none⟩) 114 k2) ∧ W.cell? ⟨b1, o1 + 113, none⟩ = some (.int .u8 nx) ∧ W.cell? ⟨b2, o2 + 113, none⟩ = some (.int .u8 fx)) :=
    fun W hb => ⟨below_cell c1 hb hlt, below_cell c2 hb hlt, below_cell hc1 hb lb1, below_cell hc2 hb lb2⟩
  clear c0 c1 c2 hc1 hc2
  obtain ⟨p1, p2, p3, p4⟩ := hcs.out _ hb01
  rcases hU with ⟨rfl, rfl⟩ | ⟨rfl, e1, rfl⟩ | ⟨rfl, e1, e2, rfl⟩ | ⟨rfl, e1, e2, rfl⟩
  all_goals
    go_enter Try.func49, Try.ntmps49
    go_wp2_with fail
    generalize w.alloc (.cells #[.int .i64 0, .int .u8 0, .int .u8 0, .int .u32 0, .int .u32 0] 28) = w1 at *
    refine (WH.out w1 hb01).mono ?_
    rintro e w2 ⟨rfl, hb2⟩
    have hb02 := bthen hb01 hb2
    have hR2 := Lib.hid (hR1.out.below hb2 hR1.out.lt)
    clear p1 p2 p3 p4
    obtain ⟨p1, p2, p3, p4⟩ := hcs.out _ hb02
    obtain ⟨⟨c0, c1, c2, c3, c4⟩, g0, g1, g2, g3, g4⟩ := fr_cells hR2.out
    go_wp2_with fail
    first
    | (obtain ⟨⟨s0, s1, s2, s3, s4⟩, _⟩ := fr_cells (fr_set hR2.out (.int .i64 0) (.int .u8 0) (.int .u8 0) (.int .u32 0) (.int .u32 0))
       refine bodyPost_ret (v := .tuple #[.agg #[.int .i64 0, .int .u8 0, .int .u8 0, .int .u32 0, .int .u32 0], .bool false]) (by simp [results, Try.results49, go_sem, s0, s1, s2, s3, s4]) rfl ⟨rfl, fr_below hb02 (Nat.le_refl _) _ _ _ _ _⟩)
    | (refine (FR.out w2 hb02 (by trivial)).mono ?_
       rintro e w3 ⟨rfl, hb3⟩
       have hb03 := bthen hb02 hb3
       have hR3 := Lib.hid (hR2.out.below hb3 hR2.out.lt)
       clear c0 c1 c2 c3 c4 g0 g1 g2 g3 g4
       obtain ⟨⟨c0, c1, c2, c3, c4⟩, g0, g1, g2, g3, g4⟩ := fr_cells hR3.out
       go_wp2_with fail
       obtain ⟨⟨s0, s1, s2, s3, s4⟩, _⟩ := fr_cells (fr_set hR3.out (.int .i64 f0) (.int .u8 f1) (.int .u8 f2) (.int .u32 f3) (.int .u32 f4))
       refine bodyPost_ret (v := .tuple #[.agg #[.int .i64 f0, .int .u8 f1, .int .u8 f2, .int .u32 f3, .int .u32 f4], .bool true]) (by simp [results, Try.results49, go_sem, s0, s1, s2, s3, s4]) rfl ⟨rfl, fr_below hb03 (Nat.le_refl _) _ _ _ _ _⟩)
end Go.Proofs.Ytbfbpagfmhdblaa
/- The document's catch: Step. -/
namespace Go.Proofs.Ytbfbpagfmhdblaa
open Go.RowKit
set_option linter.unusedSimpArgs false
set_option linter.unusedVariables false
set_option maxRecDepth 100000
def refS (b : Nat) (va vf : Value) : List Nat := b :: (va.ownBlock.toList ++ vf.ownBlock.toList)
theorem refS_mem {b k : Nat} {va vf : Value} : k ∈ refS b va vf ↔ k = b ∨ va.ownBlock = some k ∨ vf.ownBlock = some k := by
  simp [refS]
theorem ref_near {w W0 w1 : World} {b g c : Nat} {o : Int} {va vf : Value} {N F : Nat → Int} {n m : Nat} (h : RefC w b o va vf N F n m) (hb : Below w.heap.size w W0) (hg : W0.grownBy w1 va.ownBlock) (hown : w1.ownsRow 0 77 1 (.slice (some ⟨g, 0, none⟩) (n + 1) c) (n + 1) (nums .u8 N n ++ [.int .u8 (N n)])) (hat : va.ownBlock = some g ∨ w.heap.size ≤ g) :
    (w1.cell? ⟨b, 1, none⟩ = some va ∧ w1.frozen? ⟨b, 1, none⟩ = false) ∧ RefC (w1.setCell ⟨b, 1, none⟩ (.slice (some ⟨g, 0, none⟩) (n + 1) c)) b o (.slice (some ⟨g, 0, none⟩) (n + 1) c) vf N F (n + 1) m ∧ Touch (refS b va vf) w (w1.setCell ⟨b, 1, none⟩ (.slice (some ⟨g, 0, none⟩) (n + 1) c)) ∧ Moved w va (.slice (some ⟨g, 0, none⟩) (n + 1) c) := by
  have h0 := h.below hb
  have hne1 : va.ownBlock ≠ some b := own_ne h0.near h0.blk (by decide)
  have hne2 : vf.ownBlock ≠ some b := own_ne h0.far h0.blk (by decide)
  have hB1 : Blk w1 b #[.int .i64 o, va, vf] 95 := Blk.grown h0.blk hg (fun e => hne1 e.symm)
  have hf1 : w1.ownsRow 0 77 1 vf m (nums .u8 F m) := own_touch h0.far (grown_touch hg) (fun k hk hm => by
    simp at hm
    exact h.ne k hm hk)
  have hgne : (Value.slice (some ⟨g, 0, none⟩) (n + 1) c).ownBlock ≠ some b := own_ne hown hB1 (by decide)
  refine ⟨⟨hB1.cell (i := 1) rfl, hB1.free 1⟩, ⟨(hB1.set 1 _).congr (by simp), by rw [nums_succ]; exact own_setNe hown (a := ⟨b, 1, none⟩) hgne _, own_setNe hf1 (a := ⟨b, 1, none⟩) hne2 _, fun k hk hk2 => ?_⟩, ?_, ?_⟩
  · simp only [Value.ownBlock, Option.some.injEq] at hk
    subst hk
    rcases hat with e | e
    · exact h.ne _ e hk2
    · exact absurd (own_lt h.far hk2) (by omega)
  · refine touch_set ?_ (refS_mem.2 (.inl rfl)) _
    have h1 : Touch (refS b va vf) w W0 := Touch.of_below hb (Nat.le_refl _) _
    exact Touch.grown h1 hg (fun k hk => .inl (refS_mem.2 (.inr (.inl hk))))
  · rcases hat with e | e
    · exact .inl (by rw [e]; rfl)
    · exact .inr ⟨g, rfl, e⟩
theorem ref_far {w W0 w1 : World} {b g c : Nat} {o : Int} {va vf : Value} {N F : Nat → Int} {n m : Nat} (h : RefC w b o va vf N F n m) (hb : Below w.heap.size w W0) (hg : W0.grownBy w1 vf.ownBlock) (hown : w1.ownsRow 0 77 1 (.slice (some ⟨g, 0, none⟩) (m + 1) c) (m + 1) (nums .u8 F m ++ [.int .u8 (F m)])) (hat : vf.ownBlock = some g ∨ w.heap.size ≤ g) :
    (w1.cell? ⟨b, 2, none⟩ = some vf ∧ w1.frozen? ⟨b, 2, none⟩ = false) ∧ RefC (w1.setCell ⟨b, 2, none⟩ (.slice (some ⟨g, 0, none⟩) (m + 1) c)) b o va (.slice (some ⟨g, 0, none⟩) (m + 1) c) N F n (m + 1) ∧ Touch (b :: vf.ownBlock.toList) w (w1.setCell ⟨b, 2, none⟩ (.slice (some ⟨g, 0, none⟩) (m + 1) c)) ∧ Moved w vf (.slice (some ⟨g, 0, none⟩) (m + 1) c) := by
  have h0 := h.below hb
  have hne1 : va.ownBlock ≠ some b := own_ne h0.near h0.blk (by decide)
  have hne2 : vf.ownBlock ≠ some b := own_ne h0.far h0.blk (by decide)
  have hB1 : Blk w1 b #[.int .i64 o, va, vf] 95 := Blk.grown h0.blk hg (fun e => hne2 e.symm)
  have hf1 : w1.ownsRow 0 77 1 va n (nums .u8 N n) := own_touch h0.near (grown_touch hg) (fun k hk hm => by
    simp at hm
    exact h.ne k hk hm)
  have hgne : (Value.slice (some ⟨g, 0, none⟩) (m + 1) c).ownBlock ≠ some b := own_ne hown hB1 (by decide)
  refine ⟨⟨hB1.cell (i := 2) rfl, hB1.free 2⟩, ⟨(hB1.set 2 _).congr (by simp), own_setNe hf1 (a := ⟨b, 2, none⟩) hne1 _, by rw [nums_succ]; exact own_setNe hown (a := ⟨b, 2, none⟩) hgne _, fun k hk hk2 => ?_⟩, ?_, ?_⟩
  · simp only [Value.ownBlock, Option.some.injEq] at hk2
    subst hk2
    rcases hat with e | e
    · exact h.ne _ hk e
    · exact absurd (own_lt h.near hk) (by omega)
  · refine touch_set ?_ (List.mem_cons_self ..) _
    have h1 : Touch (b :: vf.ownBlock.toList) w W0 := Touch.of_below hb (Nat.le_refl _) _
    exact Touch.grown h1 hg (fun k hk => .inl (by simp [hk]))
  · rcases hat with e | e
    · exact .inl (by rw [e]; rfl)
    · exact .inr ⟨g, rfl, e⟩
theorem rstepFull (w : World) (b : Nat) (o : Int) (va vf : Value) (N F : Nat → Int) (x y : Int) (h : RefC w b o va vf N F 114 114) :
    Calls Try.prog 46 #[.pointer (some ⟨b, 0, none⟩), .int .u8 x, .int .u8 y] w fun e w' => e = .returned (.int .u8 0) ∧ w = w' := by
  obtain ⟨⟨c0, c1, c2⟩, _, hlt⟩ := h.cells
  obtain ⟨a1, k1, a2, k2, rfl, rfl, m1, m2⟩ := h.slices
  clear h m1 m2
  go_enter Try.func46, Try.ntmps46
  go_wp2
  go_ret
  exact ⟨rfl, rfl⟩
set_option maxHeartbeats 4000000 in
theorem rstep (w : World) (b : Nat) (o : Int) (va vf : Value) (N F : Nat → Int) (n : Nat) (x y : Int) (hn : n < 114) (hN : ∀ i, N i = 0 ∨ N i = 1 ∨ N i = 2) (hx : knownI x = N n) (hy : knownI y = F n) (h : RefC w b o va vf N F n n) :
    Calls Try.prog 46 #[.pointer (some ⟨b, 0, none⟩), .int .u8 x, .int .u8 y] w fun e w' => e = .returned (.int .u8 (outI o N F n)) ∧ ∃ va' vf', RefC w' b o va' vf' N F (n + 1) (n + 1) ∧ Touch (refS b va vf) w w' ∧ Moved w va va' ∧ Moved w vf vf' := by
  obtain ⟨i0, hi0, hz0, hz1, hz2⟩ := info_parts elemS
  have K1 := Lib.hid (fun W => rknown W x)
  have K2 := Lib.hid (fun W => rknown W y)
  rw [hx] at K1
  rw [hy] at K2
  have h0 := Lib.hid h
  obtain ⟨⟨c0, c1, c2⟩, ⟨f1, f2⟩, hlt⟩ := h.cells
  obtain ⟨a1, k1, a2, k2, e1, e2, m1, m2⟩ := h.slices
  have g1 : ((n : Int) == 114) = false := by simp; omega
  have g2 : decide ((n : Int) = 114) = false := by simp; omega
  clear h m1 m2 hx hy
  subst e1
  go_enter Try.func46, Try.ntmps46
  go_upto_region 4 with fail
  refine wp_cut (fun a wx => ((∃ va', RefC wx b o va' vf N F (n + 1) n ∧ Touch (refS b (.slice a1 n k1) vf) w wx ∧ Moved w (.slice a1 n k1) va')) ∧ a.tmps.size = 58 ∧ a.defers = [] ∧ slot a 0 = .pointer (some ⟨b, 0, none⟩) ∧ slot a 1 = .int .u8 x ∧ slot a 2 = .int .u8 y ∧ slot a 7 = .int .i64 n) ?_ ?_
  · intro K' hK'
    have hb0 : Below w.heap.size w (w.drew.alloc (.cells #[.int .u8 (N n)] 77)) := (below_drewN w 1).trans (below_alloc w.drew _)
    have hown0 := Lib.hid (own_touch (S := []) h0.out.near (Touch.of_below hb0 (Nat.le_refl _) []) (by simp))
    have hq1 : Hid (∀ j u, [Value.int .u8 (N n)][j]? = some u → (w.drew.alloc (.cells #[.int .u8 (N n)] 77)).cell? ((⟨w.heap.size, 0, none⟩ : Addr).add j) = some u) := by
      intro j u hj
      match j, hj with
      | 0, hj => simp at hj; subst hj; simp [Addr.add, go_sem]
    have hq2 : Hid (∀ u ∈ [Value.int .u8 (N n)], u.oneCell' = true) := by intro u hu; simp at hu; subst hu; rfl
    have hm := Lib.hid (fun g c w1 hown hg (hat : (Value.slice a1 n k1).ownBlock = some g ∨ g = w.heap.size + 1) => ref_near (g := g) (c := c) (w1 := w1) h0.out hb0 hg hown (hat.imp id (fun e => by omega)))
    obtain ⟨X, hX⟩ : ∃ X, N n = X := ⟨_, rfl⟩
    simp only [hX] at K1 hown0 hq1 hq2 hm
    go_region_law (first
      | (go_simp; go_at_call 78; (with_reducible refine (K1.out _).mono ?_); rintro e _ ⟨rfl, rfl⟩)
      | (refine step_append_lies _ rfl (.tmp 21) (.tmp 24) 40 rfl 0 77 i0 (.int .u8 0) 1 1 Try.underlying40 hi0 hz0 hz1 hz2 rfl (by omega) _ n _ rfl hown0.out ⟨w.heap.size, 0, none⟩ 1 1 [.int .u8 X] rfl rfl hq1.out hq2.out (by omega) (by unfold maxLen; omega) (by omega) (Nat.zero_le _) (w.heap.size + 1) (by simp) ?_
         intro g c w1 hown1 hg1 hat1 hlt1
         obtain ⟨⟨q0, q1⟩, r⟩ := hm.out g c w1 hown1 hg1 hat1
         replace r := Lib.hid r
         clear hown1 hg1 hat1 hlt1))
    all_goals
      exact hK' _ _ trivial ⟨⟨_, r.out⟩, by kernel_rfl, rfl, by kernel_rfl, by kernel_rfl, by kernel_rfl, by kernel_rfl⟩
  clear c0 c1 c2 f1 f2 K1 g1 g2
  rintro a wx ⟨⟨va', hr, ht, hmv⟩, hs', hd', k0', k1', k2', k7'⟩; rw [fr58 a hs' hd']; simp only [k0', k1', k2', k7']; clear hs' hd' k0' k1' k2' k7'
  replace hr := Lib.hid hr
  have hszx := ht.size
  obtain ⟨⟨c0, c1, c2⟩, ⟨f1, f2⟩, hltx⟩ := hr.out.cells
  go_upto_region 5 with fail
  refine wp_cut (fun a wx => ((∃ va' vf', RefC wx b o va' vf' N F (n + 1) (n + 1) ∧ Touch (refS b (.slice a1 n k1) vf) w wx ∧ Moved w (.slice a1 n k1) va' ∧ Moved w vf vf')) ∧ a.tmps.size = 58 ∧ a.defers = [] ∧ slot a 0 = .pointer (some ⟨b, 0, none⟩) ∧ slot a 1 = .int .u8 x ∧ slot a 2 = .int .u8 y ∧ slot a 7 = .int .i64 n) ?_ ?_
  · intro K' hK'
    have hb0 : Below wx.heap.size wx (wx.drew.alloc (.cells #[.int .u8 (F n)] 77)) := (below_drewN wx 1).trans (below_alloc wx.drew _)
    have hown0 := Lib.hid (own_touch (S := []) hr.out.far (Touch.of_below hb0 (Nat.le_refl _) []) (by simp))
    have hq1 : Hid (∀ j u, [Value.int .u8 (F n)][j]? = some u → (wx.drew.alloc (.cells #[.int .u8 (F n)] 77)).cell? ((⟨wx.heap.size, 0, none⟩ : Addr).add j) = some u) := by
      intro j u hj
      match j, hj with
      | 0, hj => simp at hj; subst hj; simp [Addr.add, go_sem]
    have hq2 : Hid (∀ u ∈ [Value.int .u8 (F n)], u.oneCell' = true) := by intro u hu; simp at hu; subst hu; rfl
    have hm : Hid (∀ g c w1, w1.ownsRow 0 77 1 (.slice (some ⟨g, 0, none⟩) (n + 1) c) (n + 1) (nums .u8 F n ++ [.int .u8 (F n)]) → (wx.drew.alloc (.cells #[.int .u8 (F n)] 77)).grownBy w1 vf.ownBlock → (vf.ownBlock = some g ∨ g = wx.heap.size + 1) →
        (w1.cell? ⟨b, 2, none⟩ = some vf ∧ w1.frozen? ⟨b, 2, none⟩ = false) ∧ ∃ vf', (Value.slice (some ⟨g, 0, none⟩) (n + 1) c) = vf' ∧ RefC (w1.setCell ⟨b, 2, none⟩ vf') b o va' vf' N F (n + 1) (n + 1) ∧ Touch (refS b (.slice a1 n k1) vf) w (w1.setCell ⟨b, 2, none⟩ vf') ∧ Moved w (.slice a1 n k1) va' ∧ Moved w vf vf') := fun g c w1 hown hg hat => by
      obtain ⟨r1, r2, r3, r4⟩ := ref_far (g := g) (c := c) (w1 := w1) hr.out hb0 hg hown (hat.imp id (fun e => by omega))
      refine ⟨r1, _, rfl, r2, ht.trans (r3.mono (fun k hk => refS_mem.2 ?_)), hmv, r4.imp id (fun ⟨g', e1, e3⟩ => ⟨g', e1, Nat.le_trans hszx e3⟩)⟩
      rcases List.mem_cons.1 hk with rfl | h2
      · exact .inl rfl
      · exact .inr (.inr (by simpa using h2))
    obtain ⟨X, hX⟩ : ∃ X, F n = X := ⟨_, rfl⟩
    simp only [hX] at K2 hown0 hq1 hq2 hm
    subst e2
    go_region_law (first
      | (go_simp; go_at_call 78; (with_reducible refine (K2.out _).mono ?_); rintro e _ ⟨rfl, rfl⟩)
      | (refine step_append_lies _ rfl (.tmp 32) (.tmp 35) 40 rfl 0 77 i0 (.int .u8 0) 1 1 Try.underlying40 hi0 hz0 hz1 hz2 rfl (by omega) _ n _ rfl hown0.out ⟨wx.heap.size, 0, none⟩ 1 1 [.int .u8 X] rfl rfl hq1.out hq2.out (by omega) (by unfold maxLen; omega) (by omega) (Nat.zero_le _) (wx.heap.size + 1) (by simp) ?_
         intro g c w1 hown1 hg1 hat1 hlt1
         obtain ⟨⟨q0, q1⟩, vf', hvf, r⟩ := hm.out g c w1 hown1 hg1 hat1
         subst hvf
         replace r := Lib.hid r
         clear hown1 hg1 hat1 hlt1))
    all_goals
      exact hK' _ _ trivial ⟨⟨_, _, r.out⟩, by kernel_rfl, rfl, by kernel_rfl, by kernel_rfl, by kernel_rfl, by kernel_rfl⟩
  clear c0 c1 c2 f1 f2 K2 hr ht hmv hszx hltx
  rintro a wx ⟨⟨va2, vf2, hr, ht, hmv, hmv2⟩, hs', hd', k0', k1', k2', k7'⟩; rw [fr58 a hs' hd']; simp only [k0', k1', k2', k7']; clear hs' hd' k0' k1' k2' k7'
  have hfin : Hid (∀ W, Below wx.heap.size wx W → ∃ va' vf', RefC W b o va' vf' N F (n + 1) (n + 1) ∧ Touch (refS b (.slice a1 n k1) vf) w W ∧ Moved w (.slice a1 n k1) va' ∧ Moved w vf vf') := fun W hb => ⟨va2, vf2, hr.below hb, ht.trans (Touch.of_below hb (Nat.le_refl _) _), hmv, hmv2⟩
  have CU := Lib.hid (rcut wx b o va2 vf2 N F (n + 1) (n + 1) hr (Nat.le_refl _) (by omega))
  have w1' : IntKind.i64.wrap ((n : Int) + 1) = (n : Int) + 1 := wrap_i64_small _ (by omega) (by omega)
  cases hc : cutB N F (n + 1) with
  | true =>
    have ho : Hid (outI o N F n = 0) := by show outI o N F n = 0; simp [outI, hc]
    rw [hc, show ((n + 1 : Nat) : Int) = (n : Int) + 1 by omega] at CU
    go_wp2_with fail
    refine CU.out.mono ?_
    rintro e _ ⟨rfl, rfl⟩
    go_wp2_with fail
    go_ret
    exact ⟨by rw [ho.out]; rfl, hfin.out _ (Below.refl _ _)⟩
  | false =>
    have hno : ¬ (114 ≤ n ∨ cutB N F (n + 1) = true) := by rw [hc]; simp; omega
    rw [hc] at CU
    rcases Nat.lt_or_ge n 112 with h1 | h1
    · have ho : Hid (outI o N F n = bodyI N F n) := by show outI o N F n = bodyI N F n; rw [outI, if_neg hno, if_pos h1]
      have BD := Lib.hid (rbody wx b o va2 vf2 N F (n + 1) n hr (by omega))
      have q1 : decide ((n : Int) < 112) = true := by simp; omega
      have q2 : decide (n < 112) = true := by simp; omega
      clear hno hr ht
      rw [show ((n + 1 : Nat) : Int) = (n : Int) + 1 by omega] at CU
      go_wp2_with fail
      refine CU.out.mono ?_
      rintro e _ ⟨rfl, rfl⟩
      go_wp2_with fail
      refine BD.out.mono ?_
      rintro e _ ⟨rfl, rfl⟩
      go_wp2_with fail
      go_ret
      exact ⟨by rw [ho.out]; rfl, hfin.out _ (Below.refl _ _)⟩
    · obtain rfl | rfl : n = 112 ∨ n = 113 := by omega
      · have ho : outI o N F 112 = if wholeQ o N F = true then 2 else 1 := by rw [outI, if_neg hno, if_neg (by omega), if_pos rfl]
        have WH := Lib.hid (rwhole wx b o va2 vf2 N F (112 + 1) hN hr (by omega) (by omega))
        cases hq : wholeQ o N F with
        | true =>
          have ho' : Hid (outI o N F 112 = 2) := by rw [hq] at ho; exact ho
          rw [hq] at WH
          clear hno hr ht ho
          go_wp2_with fail
          refine CU.out.mono ?_
          rintro e _ ⟨rfl, rfl⟩
          go_wp2_with fail
          refine WH.out.mono ?_
          rintro e w4 ⟨rfl, hb4⟩
          go_wp2_with fail
          go_ret
          exact ⟨by rw [ho'.out]; rfl, hfin.out _ hb4⟩
        | false =>
          have ho' : Hid (outI o N F 112 = 1) := by rw [hq] at ho; exact ho
          rw [hq] at WH
          clear hno hr ht ho
          go_wp2_with fail
          refine CU.out.mono ?_
          rintro e _ ⟨rfl, rfl⟩
          go_wp2_with fail
          refine WH.out.mono ?_
          rintro e w4 ⟨rfl, hb4⟩
          go_wp2_with fail
          go_ret
          exact ⟨by rw [ho'.out]; rfl, hfin.out _ hb4⟩
      · have ho : outI o N F 113 = if highQ o N F = true then 1 else 2 := by rw [outI, if_neg hno, if_neg (by omega), if_neg (by omega)]
        have HI := Lib.hid (rhigh wx b o va2 vf2 N F hN hr)
        obtain ⟨z0, z1, z2, z3, z4, hz⟩ : ∃ f0 f1 f2 f3 f4, (if highQ o N F = true then getV (bytesL (bodyI N F)) 14 else frV 0 0 0 0 0) = .agg #[.int .i64 f0, .int .u8 f1, .int .u8 f2, .int .u32 f3, .int .u32 f4] := by
          split
          · exact getV_is _ _
          · exact ⟨_, _, _, _, _, rfl⟩
        rw [hz] at HI
        cases hq : highQ o N F with
        | true =>
          have ho' : Hid (outI o N F 113 = 1) := by rw [hq] at ho; exact ho
          rw [hq] at HI
          clear hno hr ht ho hz
          go_wp2_with fail
          refine CU.out.mono ?_
          rintro e _ ⟨rfl, rfl⟩
          go_wp2_with fail
          refine HI.out.mono ?_
          rintro e w4 ⟨rfl, hb4⟩
          go_wp2_with fail
          go_ret
          exact ⟨by rw [ho'.out]; rfl, hfin.out _ (bthen hb4 (below_alloc _ _))⟩
        | false =>
          have ho' : Hid (outI o N F 113 = 2) := by rw [hq] at ho; exact ho
          rw [hq] at HI
          clear hno hr ht ho hz
          go_wp2_with fail
          refine CU.out.mono ?_
          rintro e _ ⟨rfl, rfl⟩
          go_wp2_with fail
          refine HI.out.mono ?_
          rintro e w4 ⟨rfl, hb4⟩
          go_wp2_with fail
          go_ret
          exact ⟨by rw [ho'.out]; rfl, hfin.out _ (bthen hb4 (below_alloc _ _))⟩
end Go.Proofs.Ytbfbpagfmhdblaa
