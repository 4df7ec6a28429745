/- SumsEven: the walk. -/
import Derived.Test.YtpcohgjbhgaogaaSumsPartsW
import Derived.Test.YtpcohgjbhgaogaaAnyOrder
import Derived.Deep.RegionHeld3
import Derived.Deep.OwnRows
namespace Go.Proofs.Ytpcohgjbhgaogaa
open Go.RowKit
set_option linter.unusedSimpArgs false
set_option linter.unusedVariables false
set_option maxRecDepth 100000
def xorL (A B : Nat → Int) (i : Nat) : Int := (((A i).toNat ^^^ (B i).toNat : Nat) : Int)
theorem sumN_even (A B : Nat → Int) (n : Nat) : sumN (xorL A B) n = sumN A n ^^^ sumN B n ^^^ sumN (fun _ => 0) n := by
  have e : bitU (xorL A B) = fun j => (bitU A j ^^ bitU B j) ^^ bitU (fun _ => 0) j := by
    funext j
    simp [bitU, xorL, Nat.testBit_xor]
  have e1 := regB_xor (4294967295 ^^^ 4294967295) 4294967295 (fun j => bitU A j ^^ bitU B j) (bitU fun _ => 0) (8 * n)
  rw [regB_xor 4294967295 4294967295 (bitU A) (bitU B)] at e1
  rw [Nat.xor_self, Nat.zero_xor] at e1
  rw [sumN_xor, sumN_xor, sumN_xor, sumN_xor, e, e1]
  apply Nat.eq_of_testBit_eq
  intro i
  simp only [Nat.testBit_xor]
  cases (4294967295 : Nat).testBit i <;> cases (regB 4294967295 (bitU A) (8 * n)).testBit i <;> cases (regB 4294967295 (bitU B) (8 * n)).testBit i <;> cases (regB 4294967295 (bitU fun _ => 0) (8 * n)).testBit i <;> rfl
def InvEv (w : World) (aa : Option Addr) (ca : Nat) (A : Nat → Int) (ab : Option Addr) (cb : Nat) (B : Nat → Int) (n g k : Nat) (a : Act) (wr : World) : Prop :=
  ∃ i na nb : Nat, i + k = n ∧ n ≤ na ∧ n ≤ nb ∧ na ≤ 300 ∧ nb ≤ 300 ∧ Below w.heap.size w wr ∧ (∃ cur, Blk wr g cur 5 ∧ cur.size = n ∧ ∀ j : Nat, j < i → cur[j]? = some (.int .u8 (xorL A B j))) ∧
    a.tmps.size = 64 ∧ a.defers = [] ∧ slot a 0 = .slice aa na ca ∧ slot a 1 = .slice ab nb cb ∧ slot a 5 = .int .i64 n ∧ slot a 6 = .slice (some ⟨g, 0, none⟩) n n ∧ slot a 7 = .int .i64 i
theorem elemU8 : (Try.prog.info? 5).map (fun i => (i.zero, i.size, i.bytes)) = some (some (.int .u8 0), 1, 1) := by kernel_rfl
theorem made_get {z : Value} {n j : Nat} (h : j < n) : (madeCells #[z] n)[j]? = some z := by
  have h1 : j % 1 = 0 := Nat.mod_one j
  simp [madeCells, h, h1]
theorem made_size {z : Value} {n : Nat} : (madeCells #[z] n).size = n := by simp [madeCells]
def actE (x t : Nat → Value) : Act := { tmps := #[x 0, x 1, x 2, x 3, t 23, x 5, x 6, x 7, x 8, x 9, x 10, x 11, x 12, x 13, x 14, x 15, x 16, x 17, x 18, x 19, x 20, x 21, x 22, x 23, x 24, x 25, x 26, x 27, x 28, x 29, x 30, x 31, x 32, x 33, x 34, x 35, x 36, x 37, x 38, x 39, x 40, t 0, t 1, t 2, t 3, t 4, t 5, t 6, t 7, t 8, t 9, t 10, t 11, t 12, t 13, t 14, t 15, t 16, t 17, t 18, t 19, t 20, t 21, t 22], defers := [] }
theorem sumsOne (W : World) (b : Nat) (T : TypeId) (a : Option Addr) (n c : Nat) (L : Nat → Int) (hB : Blk W b #[.slice a n c] T) (h : Prt W a n c L) (hn : n ≤ 300) :
    Calls Try.prog 11 #[.slice (some ⟨b, 0, none⟩) 1 1] W fun e w' => e = .returned (.int .u32 (sumN L n : Nat)) ∧ Below W.heap.size W w' := by
  have C := sumsOf W _ 1 1 _ _ _ _ (parts_one (hB.cell (i := 0) rfl) h.1 h.2.1 h.2.2) (by omega) (by rw [catN_one]; omega)
  rw [catN_one, sumN_congr (fun i _ => catL_one n L i)] at C
  exact C
/-- A list with one part. -/
def OneP (v : Value) (w : World) (a : Option Addr) (n c : Nat) : Prop := ∃ b, v = .slice (some ⟨b, 0, none⟩) 1 1 ∧ Blk w b #[.slice a n c] 22
/-- n noughts. -/
def MadeN (w : World) (m n : Nat) : Prop := Blk w m (madeCells #[.int .u8 0] n) 5
def VE (g n : Nat) (aa : Option Addr) (nax ca : Nat) (ab : Option Addr) (nbx cb : Nat) (X SA SB S0 SAB : Nat) : Nat → Value → World → Prop
  | 0, v, _ => v = .slice (some ⟨g, 0, none⟩) n n
  | 1, v, w => OneP v w (some ⟨g, 0, none⟩) n n
  | 2, v, _ => v = .int .u32 (X : Int)
  | 3, v, _ => v = .slice aa nax ca
  | 4, v, _ => v = .int .i64 (n : Int)
  | 5, v, _ => v = .slice aa n ca
  | 6, v, w => OneP v w aa n ca
  | 7, v, _ => v = .int .u32 (SA : Int)
  | 8, v, _ => v = .slice ab nbx cb
  | 9, v, _ => v = .int .i64 (n : Int)
  | 10, v, _ => v = .slice ab n cb
  | 11, v, w => OneP v w ab n cb
  | 12, v, _ => v = .int .u32 (SB : Int)
  | 13, v, _ => v = .int .u32 (SAB : Int)
  | 14, v, _ => v = .int .i64 (n : Int)
  | 15, v, w => ∃ m, v = .slice (some ⟨m, 0, none⟩) n n ∧ MadeN w m n
  | 16, v, w => ∃ m, OneP v w (some ⟨m, 0, none⟩) n n ∧ MadeN w m n
  | 17, v, _ => v = .int .u32 (S0 : Int)
  | 18, v, _ => v = .int .u32 (X : Int)
  | _, v, _ => v = .bool true
theorem VE_below {g n : Nat} {aa : Option Addr} {nax ca : Nat} {ab : Option Addr} {nbx cb : Nat} {X SA SB S0 SAB : Nat} {w w' : World} (hb : Below w.heap.size w w') :
    ∀ (k : Nat) (v : Value), VE g n aa nax ca ab nbx cb X SA SB S0 SAB k v w → VE g n aa nax ca ab nbx cb X SA SB S0 SAB k v w' := fun k v h => by
  have h1 : ∀ v a n c, OneP v w a n c → OneP v w' a n c := fun v a n c ⟨b, e, hB⟩ => ⟨b, e, hB.below hb hB.lt⟩
  have h2 : ∀ m n, MadeN w m n → MadeN w' m n := fun m n hB => Blk.below hB hb (Blk.lt hB)
  unfold VE at h ⊢
  split at h <;> first
    | exact h
    | exact h1 _ _ _ _ h
    | (obtain ⟨m, e, hm⟩ := h; exact ⟨m, e, h2 _ _ hm⟩)
    | (obtain ⟨m, e, hm⟩ := h; exact ⟨m, h1 _ _ _ _ e, h2 _ _ hm⟩)
theorem made_rd {w : World} {m n : Nat} (h : MadeN w m n) (hn : n ≤ 300) : Prt w (some ⟨m, 0, none⟩) n n (fun _ => 0) :=
  ⟨Rd.of_blk h fun i hi => made_get hi, ⟨Nat.le_refl _, by omega, fun e => by simp at e⟩, fun j hj => ⟨Int.le_refl 0, by simp⟩⟩
set_option maxHeartbeats 4000000 in
theorem sumsEven_any (w : World) (aa : Option Addr) (na ca : Nat) (A : Nat → Int) (ab : Option Addr) (nb cb : Nat) (B : Nat → Int) (ha : Prt w aa na ca A) (hb : Prt w ab nb cb B) :
    Calls Try.prog 7 #[.slice aa na ca, .slice ab nb cb] w fun e w' => e = .returned (.bool true) ∧ Below w.heap.size w w' := by
  replace ha := Lib.hid ha
  replace hb := Lib.hid hb
  by_cases hn : na ≤ 300 ∧ nb ≤ 300
  · obtain ⟨hna, hnb⟩ := hn
    have ga : decide ((300 : Int) < (na : Int)) = false := by simp; omega
    have gb : decide ((300 : Int) < (nb : Int)) = false := by simp; omega
    have hmk := fun (n : Nat) (hn : n ≤ 300) (W : World) => run_make_row' (P := Try.prog) 22 5 (.int .u8 0) 1 Try.underlying22 elemU8 rfl .i64 .i64 n (by omega) (by omega) W
    have hSA := Lib.hid (sumN_even A B)
    have hlt : (nb < na ∨ ¬ nb < na) := by omega
    obtain ⟨n, hn, hn1, hn2, hn3⟩ : ∃ n : Nat, n ≤ 300 ∧ n ≤ na ∧ n ≤ nb ∧ (nb < na ∧ n = nb ∨ ¬ nb < na ∧ n = na) := ⟨min na nb, by omega, by omega, by omega, by omega⟩
    replace hmk := hmk n hn
    have ha0 : Hid (∀ i : Nat, i < n → ∃ b o, aa = some ⟨b, o, none⟩ ∧ w.cell? ⟨b, o + i, none⟩ = some (.int .u8 (A i))) := fun i hi => ha.out.1 i (by omega)
    have hb0 : Hid (∀ i : Nat, i < n → ∃ b o, ab = some ⟨b, o, none⟩ ∧ w.cell? ⟨b, o + i, none⟩ = some (.int .u8 (B i))) := fun i hi => hb.out.1 i (by omega)
    have hL0 : Hid (∀ i : Nat, i < n → (0 ≤ A i ∧ A i < 256) ∧ (0 ≤ B i ∧ B i < 256)) := fun i hi => ⟨ha.out.2.2 i (by omega), hb.out.2.2 i (by omega)⟩
    have pa : Hid (Prt w aa n ca A) := prt_pre ha.out hn1
    have pb : Hid (Prt w ab n cb B) := prt_pre hb.out hn2
    have hca := ha.out.2.1
    have hcb := hb.out.2.1
    have hca1 : n ≤ ca := by have := hca.1; omega
    have hcb1 : n ≤ cb := by have := hcb.1; omega
    have hca2 : (n : Int) ≤ (ca : Int) := by omega
    have hcb2 : (n : Int) ≤ (cb : Int) := by omega
    clear ha hb hlt hca hcb
    rcases hn3 with ⟨hlt, rfl⟩ | ⟨hlt, rfl⟩
    all_goals
      go_enter Try.func7, Try.ntmps7
      go_wp2
      refine wp_loop_k (InvEv w aa ca A ab cb B n w.heap.size) n ?_ ?_
      · first
          | exact ⟨0, na, n, by omega, by omega, by omega, by omega, by omega, below_alloc _ _, ⟨_, Blk.new _ _ _, made_size, fun j hj => absurd hj (Nat.not_lt_zero _)⟩, by kernel_rfl, rfl, by kernel_rfl, by kernel_rfl, by kernel_rfl, by kernel_rfl, by kernel_rfl⟩
          | exact ⟨0, n, nb, by omega, by omega, by omega, by omega, by omega, below_alloc _ _, ⟨_, Blk.new _ _ _, made_size, fun j hj => absurd hj (Nat.not_lt_zero _)⟩, by kernel_rfl, rfl, by kernel_rfl, by kernel_rfl, by kernel_rfl, by kernel_rfl, by kernel_rfl⟩
      intro gk1 a wr hI K1 hK1
      clear hlt hna hnb hn1 hn2 ga gb
      obtain ⟨i, nax, nbx, hi, hnx, hny, hnx3, hny3, hbw, ⟨cur, hB, hcz, hcur⟩, hs', hd', k0', k1', k5', k6', k7'⟩ := hI
      rw [fr64 a hs' hd']; simp only [k0', k1', k5', k6', k7']; clear hs' hd' k0' k1' k5' k6' k7'
      by_cases hin : i < n
      · have g1 : decide ((i : Int) < (n : Int)) = true := by simp; omega
        have g2 : (i : Int) < (n : Int) := by omega
        obtain ⟨ba, oa, rfl, c1⟩ := ha0.out i hin
        obtain ⟨bb, ob, rfl, c2⟩ := hb0.out i hin
        have d1 := below_cell c1 hbw (World.block_lt_of_cell? w _ c1)
        have d2 := below_cell c2 hbw (World.block_lt_of_cell? w _ c2)
        obtain ⟨hA, hBb⟩ := hL0.out i hin
        have hx : bits .xor .u8 (A i) (B i) = xorL A B i := by
          have := u8_xor_nat (A i).toNat (B i).toNat (by omega) (by omega)
          rw [show (((A i).toNat : Nat) : Int) = A i by omega, show (((B i).toNat : Nat) : Int) = B i by omega] at this
          exact this
        obtain ⟨vv, hci⟩ : ∃ v, wr.cell? ⟨w.heap.size, i, none⟩ = some v := ⟨_, hB.cell (i := i) (Array.getElem?_eq_getElem (by omega))⟩
        have hfr := hB.free i
        have hlt : w.heap.size < wr.heap.size := hB.lt
        have g3 : (i : Int) < (nax : Int) := by omega
        have g4 : (i : Int) < (nbx : Int) := by omega
        have g5 : i < nax := by omega
        have g6 : i < nbx := by omega
        go_wp2
        refine wp_region_tail 12 (by kernel_rfl) (by kernel_rfl) ?_; simp only [List.take_succ_cons, List.take_zero, List.drop_succ_cons, List.drop_zero]; (repeat still_step); refine wpStill_nil ?_
        go_wp2
        have hB2 := (hB.drew).set i (.int .u8 (xorL A B i))
        exact hK1 (n - (i + 1)) _ _ (by omega) ⟨i + 1, nax, nbx, by omega, hnx, hny, hnx3, hny3, hbw.drew.setCell (p := ⟨w.heap.size, i, none⟩) (Nat.le_refl _) _, ⟨_, hB2, by simp [hcz], fun j hj => by
          rw [Array.getElem?_setIfInBounds]
          split
          · rw [if_pos (by omega)]; subst_vars; rfl
          · exact hcur j (by omega)⟩, by kernel_rfl, rfl, by kernel_rfl, by kernel_rfl, by kernel_rfl, by kernel_rfl, by kernel_rfl⟩
      · have g1 : decide ((i : Int) < (n : Int)) = false := by simp; omega
        obtain rfl : n = i := by omega
        have hx0 : Hid (Prt wr (some ⟨w.heap.size, 0, none⟩) n n (xorL A B)) := ⟨Rd.of_blk hB hcur, ⟨Nat.le_refl _, by omega, fun e => by simp at e⟩, fun j hj => by
          have h1 := hL0.out j hj
          have h2 : (A j).toNat ^^^ (B j).toNat < 2 ^ 8 := Nat.xor_lt_two_pow (by omega) (by omega)
          exact ⟨Int.natCast_nonneg _, Int.ofNat_lt.2 h2⟩⟩
        have hpa := Lib.hid (pa.out.below hbw (Nat.le_refl _))
        have hpb := Lib.hid (pb.out.below hbw (Nat.le_refl _))
        have hsum := hSA.out n
        have hlt1 := sumN_lt A n
        have hlt2 := sumN_lt B n
        have hlt3 := sumN_lt (fun _ => 0) n
        have ux1 := u32_xor_nat (sumN A n) (sumN B n) hlt1 hlt2
        have ux2 := u32_xor_nat (sumN A n ^^^ sumN B n) (sumN (fun _ => 0) n) (xor_lt32 hlt1 hlt2) hlt3
        rw [← hsum] at ux2
        clear hsum hlt1 hlt2 hlt3
        have C1 := Lib.hid (fun (W : World) (b : Nat) (hb : Below wr.heap.size wr W) (hB : Blk W b #[.slice (some ⟨w.heap.size, 0, none⟩) n n] 22) => sumsOne W b _ _ _ _ _ hB (hx0.out.below hb (Nat.le_refl _)) hn)
        have C2 := Lib.hid (fun (W : World) (b : Nat) (hb : Below wr.heap.size wr W) (hB : Blk W b #[.slice aa n ca] 22) => sumsOne W b _ _ _ _ _ hB (hpa.out.below hb (Nat.le_refl _)) hn)
        have C3 := Lib.hid (fun (W : World) (b : Nat) (hb : Below wr.heap.size wr W) (hB : Blk W b #[.slice ab n cb] 22) => sumsOne W b _ _ _ _ _ hB (hpb.out.below hb (Nat.le_refl _)) hn)
        have C4 := Lib.hid (fun (W : World) (b m : Nat) (hm : MadeN W m n) (hB : Blk W b #[.slice (some ⟨m, 0, none⟩) n n] 22) => sumsOne W b _ _ _ _ _ hB (made_rd hm hn) hn)
        generalize sumN (xorL A B) n = X at *
        generalize sumN A n = SA at *
        generalize sumN B n = SB at *
        generalize sumN (fun _ => 0) n = S0 at *
        generalize SA ^^^ SB = SAB at *
        go_wp2_with fail
        refine wp_region_rule (fun listed a' w' => ∃ x t, x 0 = .slice aa nax ca ∧ x 1 = .slice ab nbx cb ∧ x 5 = .int .i64 n ∧ x 6 = .slice (some ⟨w.heap.size, 0, none⟩) n n ∧ a' = actE x t ∧ (∀ k, listed.getD k false = true → VE w.heap.size n aa nax ca ab nbx cb X SA SB S0 SAB k (t k) w') ∧ Below wr.heap.size wr w') (by kernel_rfl) ?_ ?_ ?_ (by kernel_rfl)
        · exact ⟨fun k => match k with | 0 => .slice aa nax ca | 1 => .slice ab nbx cb | 5 => .int .i64 n | 6 => .slice (some ⟨w.heap.size, 0, none⟩) n n | 7 => .int .i64 n | 24 => .int .i64 n | 25 => .int .i64 n | 26 => .bool false | k => slot a k, fun k => if k = 23 then slot a 4 else slot a (41 + k), rfl, rfl, rfl, rfl, by kernel_rfl, fun k hk => by
            rw [Array.getD_eq_getD_getElem?, Array.getElem?_replicate] at hk
            split at hk <;> simp at hk, (Below.refl _ _).drew⟩
        · intro listed a' w' j o hJ hj ho hd
          obtain ⟨x, t, x0, x1, x5, x6, rfl, hV, hbw'⟩ := hJ
          have hj24 : j < 24 := (Array.getElem?_eq_some_iff.1 ho).1
          replace hV := Lib.hid hV
          have hsz : wr.heap.size ≤ w'.heap.size := hbw'.size
          have hfin : Hid (∀ (j : Nat) (v : Value) (w'' : World) (a'' : Act), a'' = actE x (upd t j v) → VE w.heap.size n aa nax ca ab nbx cb X SA SB S0 SAB j v w'' → Below w'.heap.size w' w'' →
              ∃ x t, x 0 = .slice aa nax ca ∧ x 1 = .slice ab nbx cb ∧ x 5 = .int .i64 n ∧ x 6 = .slice (some ⟨w.heap.size, 0, none⟩) n n ∧ a'' = actE x t ∧ (∀ k, (listed.setIfInBounds j true).getD k false = true → VE w.heap.size n aa nax ca ab nbx cb X SA SB S0 SAB k (t k) w'') ∧ Below wr.heap.size wr w'') := fun j v w'' a'' ha hv hb =>
            ⟨x, upd t j v, x0, x1, x5, x6, ha, up_step hV.out hv (VE_below hb), bthen hbw' hb⟩
          have hsame := Below.refl w'.heap.size w'
          clear hi hK1 hin g1
          obtain rfl | rfl | rfl | rfl | rfl | rfl | rfl | rfl | rfl | rfl | rfl | rfl | rfl | rfl | rfl | rfl | rfl | rfl | rfl | rfl | rfl | rfl | rfl | rfl : j = 0 ∨ j = 1 ∨ j = 2 ∨ j = 3 ∨ j = 4 ∨ j = 5 ∨ j = 6 ∨ j = 7 ∨ j = 8 ∨ j = 9 ∨ j = 10 ∨ j = 11 ∨ j = 12 ∨ j = 13 ∨ j = 14 ∨ j = 15 ∨ j = 16 ∨ j = 17 ∨ j = 18 ∨ j = 19 ∨ j = 20 ∨ j = 21 ∨ j = 22 ∨ j = 23 := by omega
          all_goals
            have ho2 := ho
            simp only [List.getElem?_toArray, List.getElem?_cons_zero, List.getElem?_cons_succ, Option.some.injEq] at ho2
            subst ho2
            refine wpOp_step ho fun K hK => ?_
            clear ho
            replace hK := Lib.hid hK
            simp only [actE]
          -- ARMS
          · go_simp
            exact hK.out _ _ (hfin.out 0 (.slice (some ⟨w.heap.size, 0, none⟩) n n) w' _ (by simp [actE, upd, x0, x1, x5, x6]) rfl hsame)
          · have e0 : t 0 = (.slice (some ⟨w.heap.size, 0, none⟩) n n) := hV.out 0 (hd ⟨0, .data⟩ (by simp) rfl)
            go_simp
            exact hK.out _ _ (hfin.out 1 (.slice (some ⟨w'.heap.size, 0, none⟩) 1 1) _ _ (by simp [actE, upd, x0, x1, x5, x6, e0]) ⟨_, rfl, Blk.new _ _ _⟩ (below_alloc _ _))
          · obtain ⟨b, e1, hB1⟩ : OneP (t 1) w' (some ⟨w.heap.size, 0, none⟩) n n := hV.out 1 (hd ⟨1, .data⟩ (by simp) rfl)
            go_simp
            refine (C1.out _ b hbw' hB1).mono ?_
            rintro e w2 ⟨rfl, hb2⟩
            exact hK.out _ _ (hfin.out 2 (.int .u32 (X : Int)) w2 _ (by simp [actE, upd, x0, x1, x5, x6, e1]) rfl hb2)
          · go_simp
            exact hK.out _ _ (hfin.out 3 (.slice aa nax ca) w' _ (by simp [actE, upd, x0, x1, x5, x6]) rfl hsame)
          · go_simp
            exact hK.out _ _ (hfin.out 4 (.int .i64 (n : Int)) w' _ (by simp [actE, upd, x0, x1, x5, x6]) rfl hsame)
          · have e3 : t 3 = (.slice aa nax ca) := hV.out 3 (hd ⟨3, .data⟩ (by simp) rfl)
            have e4 : t 4 = (.int .i64 (n : Int)) := hV.out 4 (hd ⟨4, .data⟩ (by simp) rfl)
            go_simp
            exact hK.out _ _ (hfin.out 5 (.slice aa n ca) w' _ (by simp [actE, upd, x0, x1, x5, x6, e3, e4]) rfl hsame)
          · have e5 : t 5 = (.slice aa n ca) := hV.out 5 (hd ⟨5, .data⟩ (by simp) rfl)
            go_simp
            exact hK.out _ _ (hfin.out 6 (.slice (some ⟨w'.heap.size, 0, none⟩) 1 1) _ _ (by simp [actE, upd, x0, x1, x5, x6, e5]) ⟨_, rfl, Blk.new _ _ _⟩ (below_alloc _ _))
          · obtain ⟨b, e1, hB1⟩ : OneP (t 6) w' aa n ca := hV.out 6 (hd ⟨6, .data⟩ (by simp) rfl)
            go_simp
            refine (C2.out _ b hbw' hB1).mono ?_
            rintro e w2 ⟨rfl, hb2⟩
            exact hK.out _ _ (hfin.out 7 (.int .u32 (SA : Int)) w2 _ (by simp [actE, upd, x0, x1, x5, x6, e1]) rfl hb2)
          · go_simp
            exact hK.out _ _ (hfin.out 8 (.slice ab nbx cb) w' _ (by simp [actE, upd, x0, x1, x5, x6]) rfl hsame)
          · go_simp
            exact hK.out _ _ (hfin.out 9 (.int .i64 (n : Int)) w' _ (by simp [actE, upd, x0, x1, x5, x6]) rfl hsame)
          · have e8 : t 8 = (.slice ab nbx cb) := hV.out 8 (hd ⟨8, .data⟩ (by simp) rfl)
            have e9 : t 9 = (.int .i64 (n : Int)) := hV.out 9 (hd ⟨9, .data⟩ (by simp) rfl)
            go_simp
            exact hK.out _ _ (hfin.out 10 (.slice ab n cb) w' _ (by simp [actE, upd, x0, x1, x5, x6, e8, e9]) rfl hsame)
          · have e10 : t 10 = (.slice ab n cb) := hV.out 10 (hd ⟨10, .data⟩ (by simp) rfl)
            go_simp
            exact hK.out _ _ (hfin.out 11 (.slice (some ⟨w'.heap.size, 0, none⟩) 1 1) _ _ (by simp [actE, upd, x0, x1, x5, x6, e10]) ⟨_, rfl, Blk.new _ _ _⟩ (below_alloc _ _))
          · obtain ⟨b, e1, hB1⟩ : OneP (t 11) w' ab n cb := hV.out 11 (hd ⟨11, .data⟩ (by simp) rfl)
            go_simp
            refine (C3.out _ b hbw' hB1).mono ?_
            rintro e w2 ⟨rfl, hb2⟩
            exact hK.out _ _ (hfin.out 12 (.int .u32 (SB : Int)) w2 _ (by simp [actE, upd, x0, x1, x5, x6, e1]) rfl hb2)
          · have e7 : t 7 = (.int .u32 (SA : Int)) := hV.out 7 (hd ⟨7, .data⟩ (by simp) rfl)
            have e12 : t 12 = (.int .u32 (SB : Int)) := hV.out 12 (hd ⟨12, .data⟩ (by simp) rfl)
            go_simp
            exact hK.out _ _ (hfin.out 13 (.int .u32 (SAB : Int)) w' _ (by simp [actE, upd, x0, x1, x5, x6, e7, e12]) rfl hsame)
          · go_simp
            exact hK.out _ _ (hfin.out 14 (.int .i64 (n : Int)) w' _ (by simp [actE, upd, x0, x1, x5, x6]) rfl hsame)
          · have e14 : t 14 = (.int .i64 (n : Int)) := hV.out 14 (hd ⟨14, .data⟩ (by simp) rfl)
            go_simp
            exact hK.out _ _ (hfin.out 15 (.slice (some ⟨w'.heap.size, 0, none⟩) n n) _ _ (by simp [actE, upd, x0, x1, x5, x6, e14]) ⟨_, rfl, Blk.new _ _ _⟩ (below_alloc _ _))
          · obtain ⟨m, e15, hm1⟩ : ∃ m, t 15 = .slice (some ⟨m, 0, none⟩) n n ∧ MadeN w' m n := hV.out 15 (hd ⟨15, .data⟩ (by simp) rfl)
            go_simp
            exact hK.out _ _ (hfin.out 16 (.slice (some ⟨w'.heap.size, 0, none⟩) 1 1) _ _ (by simp [actE, upd, x0, x1, x5, x6, e15]) ⟨m, ⟨_, rfl, Blk.new _ _ _⟩, Blk.alloc hm1 _⟩ (below_alloc _ _))
          · obtain ⟨m, ⟨b, e1, hB1⟩, hm1⟩ : ∃ m, OneP (t 16) w' (some ⟨m, 0, none⟩) n n ∧ MadeN w' m n := hV.out 16 (hd ⟨16, .data⟩ (by simp) rfl)
            go_simp
            refine (C4.out _ b m hm1 hB1).mono ?_
            rintro e w2 ⟨rfl, hb2⟩
            exact hK.out _ _ (hfin.out 17 (.int .u32 (S0 : Int)) w2 _ (by simp [actE, upd, x0, x1, x5, x6, e1]) rfl hb2)
          · have e13 : t 13 = (.int .u32 (SAB : Int)) := hV.out 13 (hd ⟨13, .data⟩ (by simp) rfl)
            have e17 : t 17 = (.int .u32 (S0 : Int)) := hV.out 17 (hd ⟨17, .data⟩ (by simp) rfl)
            go_simp
            exact hK.out _ _ (hfin.out 18 (.int .u32 (X : Int)) w' _ (by simp [actE, upd, x0, x1, x5, x6, e13, e17]) rfl hsame)
          · have e2 : t 2 = (.int .u32 (X : Int)) := hV.out 2 (hd ⟨2, .data⟩ (by simp) rfl)
            have e18 : t 18 = (.int .u32 (X : Int)) := hV.out 18 (hd ⟨18, .data⟩ (by simp) rfl)
            go_simp
            exact hK.out _ _ (hfin.out 19 (.bool true) w' _ (by simp [actE, upd, x0, x1, x5, x6, e2, e18]) rfl hsame)
          · have e19 : t 19 = (.bool true) := hV.out 19 (hd ⟨19, .data⟩ (by simp) rfl)
            go_simp
            exact hK.out _ _ (hfin.out 20 (.bool true) w' _ (by simp [actE, upd, x0, x1, x5, x6, e19]) rfl hsame)
          · have e20 : t 20 = (.bool true) := hV.out 20 (hd ⟨20, .guard⟩ (by simp) rfl)
            go_simp
            refine (lives02 _).mono ?_
            rintro e w2 ⟨rfl, hb2⟩
            exact hK.out _ _ (hfin.out 21 (.bool true) w2 _ (by simp [actE, upd, x0, x1, x5, x6, e20]) rfl hb2)
          · have e20 : t 20 = (.bool true) := hV.out 20 (hd ⟨20, .data⟩ (by simp) rfl)
            have e21 : t 21 = (.bool true) := hV.out 21 (hd ⟨21, .data⟩ (by simp) rfl)
            go_simp
            exact hK.out _ _ (hfin.out 22 (.bool true) w' _ (by simp [actE, upd, x0, x1, x5, x6, e20, e21]) rfl hsame)
          · have e22 : t 22 = (.bool true) := hV.out 22 (hd ⟨22, .data⟩ (by simp) rfl)
            go_simp
            exact hK.out _ _ (hfin.out 23 (.bool true) w' _ (by simp [actE, upd, x0, x1, x5, x6, e22]) rfl hsame)
          -- ENDARMS
        · intro listed a' w' hJ hall
          obtain ⟨x, t, x0, x1, x5, x6, rfl, hV, hbw'⟩ := hJ
          have e23 : t 23 = .bool true := hV 23 (hall 23 (by decide))
          have hend := bthen hbw hbw'
          clear hV hall hK1 hi hin g1
          simp only [actE, e23]
          go_wp2_with fail
          go_ret
          exact ⟨rfl, hend⟩
  · go_enter Try.func7, Try.ntmps7
    go_wp2_with fail
    all_goals first
      | (exfalso; omega)
      | (refine (lives02 _).mono ?_
         rintro e wx ⟨rfl, hbL⟩
         go_wp2_with fail
         go_ret
         exact ⟨rfl, hbL⟩)
end Go.Proofs.Ytpcohgjbhgaogaa
