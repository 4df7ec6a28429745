/- SumsParts: the walk. -/
import Derived.Test.YtpcohgjbhgaogaaParts34
import Derived.Deep.RegionHeld3
namespace Go.Proofs.Ytpcohgjbhgaogaa
open Go.RowKit
set_option linter.unusedSimpArgs false
set_option linter.unusedVariables false
set_option maxRecDepth 100000
theorem prt_cut {w : World} {ad : Addr} {n c i k : Nat} {L : Nat → Int} (h : Prt w (some ad) n c L) (hik : i ≤ k) (hk : k ≤ n) : Prt w (if c = i then some ad else some (ad.add i)) (k - i) (c - i) (fun j => L (i + j)) := by
  have hcn := h.2.1.1
  refine ⟨fun j hj => ?_, ⟨by omega, by have := h.2.1.2.1; omega, fun e => ?_⟩, fun j hj => h.2.2 _ (by omega)⟩
  · rw [if_neg (by omega)]
    obtain ⟨b, o, h1, h2⟩ := h.1 (i + j) (by omega)
    simp only [Option.some.injEq] at h1
    subst h1
    exact ⟨b, o + i, by simp [Addr.add], by rw [Nat.add_assoc]; exact h2⟩
  · split at e <;> simp at e
theorem prt_pre {w : World} {a : Option Addr} {n c k : Nat} {L : Nat → Int} (h : Prt w a n c L) (hk : k ≤ n) : Prt w a k c L :=
  ⟨fun i hi => h.1 i (by omega), ⟨by have := h.2.1.1; omega, h.2.1.2.1, fun e => by have := h.2.1.2.2 e; omega⟩, fun j hj => h.2.2 j (by omega)⟩
set_option maxHeartbeats 4000000 in
theorem sumsParts_any (w : World) (ao : Option Addr) (n c : Nat) (L : Nat → Int) (x y : Int) (ha : Prt w ao n c L) (hx : 0 ≤ x ∧ x < 65536) (hy : 0 ≤ y ∧ y < 65536) :
    Calls Try.prog 6 #[.slice ao n c, .agg #[.int .u16 x, .int .u16 y]] w fun e w' => e = .returned (.bool true) ∧ Below w.heap.size w w' := by
  replace ha := Lib.hid ha
  by_cases hn : n ≤ 300
  · have hn1 : decide ((300 : Int) < (n : Int)) = false := by simp; omega
    obtain ⟨i, e1, hi⟩ : ∃ i : Nat, x % ((n : Int) + 1) = (i : Int) ∧ i ≤ n := ⟨(x % ((n : Int) + 1)).toNat, by have := Int.emod_nonneg x (show (n : Int) + 1 ≠ 0 by omega); omega, by have := Int.emod_lt_of_pos x (show 0 < (n : Int) + 1 by omega); omega⟩
    obtain ⟨q, rfl⟩ : ∃ q, n = i + q := ⟨n - i, by omega⟩
    have e2 : IntKind.i64.wrap (((i + q : Nat) : Int) - (i : Int)) = (q : Int) := by rw [wrap_i64_small _ (by omega) (by omega)]; omega
    obtain ⟨r, e4, hr⟩ : ∃ r : Nat, y % ((q : Int) + 1) = (r : Int) ∧ r ≤ q := ⟨(y % ((q : Int) + 1)).toNat, by have := Int.emod_nonneg y (show (q : Int) + 1 ≠ 0 by omega); omega, by have := Int.emod_lt_of_pos y (show 0 < (q : Int) + 1 by omega); omega⟩
    obtain ⟨t, rfl⟩ : ∃ t, q = r + t := ⟨q - r, by omega⟩
    have hr9 : r ≤ 300 := by omega
    have hi9 : i ≤ 300 := by omega
    have ht9 : t ≤ 300 := by omega
    generalize hN : i + (r + t) = n at *
    generalize hQ : r + t = q at *
    have hq9 : q ≤ 300 := by omega
    have e5 : IntKind.i64.wrap ((i : Int) + (r : Int)) = ((i + r : Nat) : Int) := by rw [wrap_i64_small _ (by omega) (by omega)]; omega
    have hk9 : i + r ≤ n := by omega
    generalize hK : i + r = k at *
    replace hN := Lib.hid hN
    replace hQ := Lib.hid hQ
    replace hK := Lib.hid hK
    go_enter Try.func6, Try.ntmps6
    go_wp2_with fail
    simp only [e1, e4]
    clear e1 e2 e4 e5
    refine calls_abs (fun W => Below w.heap.size w W ∧ Blk W (w.heap.size + 1) #[.slice ao n c] 22) ⟨(below_alloc _ _).trans ((below_alloc _ _).mono (by simp)), by have := Blk.new (w.alloc (.cells #[.int .u16 x, .int .u16 y] 42)) #[.slice ao n c] 22; simpa using this⟩ ?_
    rintro w1 ⟨hb1, hB1⟩
    have pt := ha.out.below hb1 (Nat.le_refl _)
    have P1 := parts_one (hB1.cell (i := 0) rfl) pt.1 pt.2.1 pt.2.2
    have S1 := sumsOf w1 _ 1 1 _ _ _ _ P1 (by omega) (by rw [catN_one]; omega)
    rw [catN_one, sumN_congr (fun i _ => catL_one n L i)] at S1
    refine S1.mono ?_
    clear S1 P1 hB1 pt
    rintro e w2 ⟨rfl, hb2⟩
    have hb02 := bthen hb1 hb2
    have hs2 := hb02.size
    generalize hS : sumN L n = S
    replace hS := Lib.hid hS
    have hnk : n - k = t := by have := hN.out; have := hQ.out; have := hK.out; omega
    have hki : k - i = r := by have := hK.out; omega
    have e4 : ∀ x, x < n → appL (appL (appL L i fun j => L (i + j)) (i + r) fun _ => 0) (i + r + 0) (fun j => L (k + j)) x = L x := fun x hx => by
      have := hK.out
      simp only [appL]
      split
      · split
        · split
          · rfl
          · congr 1; omega
        · omega
      · congr 1; omega
    have e2 : ∀ x, x < n → appL L k (fun j => L (k + j)) x = L x := fun x hx => by
      simp only [appL]
      split
      · rfl
      · congr 1; omega
    have P4 : Hid (∀ W b T a0 c0 a1 c1 a3 c3, Blk W b #[.slice a0 i c0, .slice a1 r c1, .slice none 0 0, .slice a3 t c3] T → Prt W a0 i c0 L → Prt W a1 r c1 (fun j => L (i + j)) → Prt W a3 t c3 (fun j => L (k + j)) →
        Calls Try.prog 11 #[.slice (some ⟨b, 0, none⟩) 4 4] W fun e w' => e = .returned (.int .u32 (S : Nat)) ∧ Below W.heap.size W w') := fun W b T a0 c0 a1 c1 a3 c3 hB h0 h1 h3 => by
      have C := sumsOf W _ 4 4 _ _ _ _ (parts4 hB h0 h1 (prt_none W) h3) (by omega) (by rw [catN4]; omega)
      rw [catN4, catL4] at C
      have en : i + r + 0 + t = n := by have := hN.out; have := hQ.out; omega
      rw [en, sumN_congr e4, hS.out] at C
      exact C
    have P2 : Hid (∀ W b T a c, Blk W b #[.slice none 0 0, .slice a n c] T → Prt W a n c L →
        Calls Try.prog 11 #[.slice (some ⟨b, 0, none⟩) 2 2] W fun e w' => e = .returned (.int .u32 (S : Nat)) ∧ Below W.heap.size W w') := fun W b T a c hB h0 => by
      have C := sumsOf W _ 2 2 _ _ _ _ (parts2 hB (prt_none W) h0) (by omega) (by rw [catN2]; omega)
      rw [catN2, catL2, appL_zero, Nat.zero_add, hS.out] at C
      exact C
    have Q2 : Hid (∀ W b T a0 c0 a1 c1, Blk W b #[.slice a0 k c0, .slice a1 t c1] T → Prt W a0 k c0 L → Prt W a1 t c1 (fun j => L (k + j)) →
        Calls Try.prog 10 #[.slice (some ⟨b, 0, none⟩) 2 2] W fun e w' => ∃ a, e = .returned (.slice a (n + 4) (n + 4)) ∧ Mine .u8 5 W.heap.size w' a (n + 4) (putS L n) ∧ Below W.heap.size W w') := fun W b T a0 c0 a1 c1 hB h0 h1 => by
      have C := sumsPut W _ 2 2 _ _ _ _ (parts2 hB h0 h1) (by omega) (by rw [catN2]; omega)
      have en : k + t = n := by omega
      rw [catN2, catL2, en] at C
      exact C.mono fun e w' ⟨a, h1, h2, h3⟩ => ⟨a, h1, h2.congr fun i _ => putS_congr e2 i, h3⟩
    have Q1 : Hid (∀ W b T a c, Blk W b #[.slice a n c] T → Prt W a n c L →
        Calls Try.prog 10 #[.slice (some ⟨b, 0, none⟩) 1 1] W fun e w' => ∃ a, e = .returned (.slice a (n + 4) (n + 4)) ∧ Mine .u8 5 W.heap.size w' a (n + 4) (putS L n) ∧ Below W.heap.size W w') := fun W b T a c hB h0 => by
      have C := sumsPut W _ 1 1 _ _ _ _ (parts_one (hB.cell (i := 0) rfl) h0.1 h0.2.1 h0.2.2) (by omega) (by rw [catN_one]; omega)
      rw [catN_one] at C
      exact C.mono fun e w' ⟨a, h1, h2, h3⟩ => ⟨a, h1, h2.congr fun i _ => putS_congr (fun i _ => catL_one n L i) i, h3⟩
    clear e2 e4
    cases ao with
    | none =>
      obtain ⟨rfl, rfl⟩ := ha.out.2.1.2.2 rfl
      obtain rfl : i = 0 := by omega
      obtain rfl : q = 0 := by have := hN.out; omega
      obtain rfl : r = 0 := by omega
      obtain rfl : t = 0 := by have := hQ.out; omega
      obtain rfl : k = 0 := by have := hK.out; omega
      have p1 : Hid (∀ W, Prt W none 0 0 fun j => L (0 + j)) := fun W => ⟨fun i hi => by omega, (prt_none W).2.1, fun i hi => by omega⟩
      have p3 := p1
      clear hb1 hb2 hN hQ hK hnk hki
      go_wp2_with fail
      go_region_held3 (fun W => True) (exact True.intro)
        (first
          | (go_at_call 11
             refine calls_abs (fun W => Below w2.heap.size w2 W ∧ Blk W w2.heap.size #[.slice none 0 0, .slice none 0 0, .slice none 0 0, .slice none 0 0] 22) ⟨bdrewN (below_alloc _ _) 1, (Blk.new _ _ _).drew⟩ ?_
             rintro w3 ⟨hb3, hB3⟩
             have pt3 := ha.out.below (bthen hb02 hb3) (Nat.le_refl _)
             refine (P4.out _ _ _ _ _ _ _ _ _ hB3 pt3 (p1.out _) (p3.out _)).mono ?_
             rintro e w4 ⟨rfl, hb4⟩)
          | (go_at_call 11
             refine calls_abs (fun W => Below w4.heap.size w4 W ∧ Blk W w4.heap.size #[.slice none 0 0, .slice none 0 0] 22) ⟨below_alloc _ _, Blk.new _ _ _⟩ ?_
             rintro w5 ⟨hb5, hB5⟩
             refine (P2.out _ _ _ _ _ hB5 (ha.out.below (bthen (bthen (bthen hb02 hb3) hb4) hb5) (Nat.le_refl _))).mono ?_
             rintro e w6 ⟨rfl, hb6⟩)
          | (go_at_call 10
             refine calls_abs (fun W => Below w6.heap.size w6 W ∧ Blk W w6.heap.size #[.slice none 0 0, .slice none 0 0] 22) ⟨below_alloc _ _, Blk.new _ _ _⟩ ?_
             rintro w7 ⟨hb7, hB7⟩
             have hb07 := bthen (bthen (bthen (bthen (bthen hb02 hb3) hb4) hb5) hb6) hb7
             have pt7 := ha.out.below hb07 (Nat.le_refl _)
             refine (Q2.out _ _ _ _ _ _ _ hB7 pt7 (p3.out _)).mono ?_
             rintro e w8 ⟨a8, rfl, m8, hb8⟩)
          | (go_at_call 10
             refine calls_abs (fun W => Below w6.heap.size w6 W ∧ Blk W w6.heap.size #[.slice none 0 0] 22 ∧ Blk W (w6.heap.size + 1) #[.slice none 0 0, .slice none 0 0] 22) ⟨(below_alloc _ _).trans ((below_alloc _ _).mono (by simp)), (Blk.new _ _ _).alloc _, by have := Blk.new (w6.alloc (.cells #[.slice none 0 0] 22)) #[.slice none 0 0, .slice none 0 0] 22; simpa using this⟩ ?_
             rintro w7 ⟨hb7, hB71, hB7⟩
             have hb07 := bthen (bthen (bthen (bthen (bthen hb02 hb3) hb4) hb5) hb6) hb7
             have pt7 := ha.out.below hb07 (Nat.le_refl _)
             refine (Q2.out _ _ _ _ _ _ _ hB7 pt7 (p3.out _)).mono ?_
             rintro e w8 ⟨a8, rfl, m8, hb8⟩
             have hB81 := hB71.below hb8 hB71.lt)
          | (go_at_call 10
             refine calls_abs (fun W => Below w6.heap.size w6 W ∧ Blk W w6.heap.size #[.slice none 0 0, .slice none 0 0] 22 ∧ Blk W (w6.heap.size + 1) #[.slice none 0 0] 22) ⟨(below_alloc _ _).trans ((below_alloc _ _).mono (by simp)), (Blk.new _ _ _).alloc _, by have := Blk.new (w6.alloc (.cells #[.slice none 0 0, .slice none 0 0] 22)) #[.slice none 0 0] 22; simpa using this⟩ ?_
             rintro w7 ⟨hb7, hB7, hB71⟩
             have hb07 := bthen (bthen (bthen (bthen (bthen hb02 hb3) hb4) hb5) hb6) hb7
             have pt7 := ha.out.below hb07 (Nat.le_refl _)
             refine (Q2.out _ _ _ _ _ _ _ hB7 pt7 (p3.out _)).mono ?_
             rintro e w8 ⟨a8, rfl, m8, hb8⟩
             have hB81 := hB71.below hb8 hB71.lt)
          | (go_at_call 10
             have hb09 := bthen hb07 hb8
             have pt9 := ha.out.below hb09 (Nat.le_refl _)
             refine (Q1.out _ _ _ _ _ hB81 pt9).mono ?_
             rintro e w10 ⟨a10, rfl, m10, hb10⟩
             have hb810 := hb10)
          | (go_at_call 10
             refine calls_abs (fun W => Below w8.heap.size w8 W ∧ Blk W w8.heap.size #[.slice none 0 0] 22) ⟨below_alloc _ _, Blk.new _ _ _⟩ ?_
             rintro w9 ⟨hb9, hB9⟩
             have hb09 := bthen (bthen hb07 hb8) hb9
             have pt9 := ha.out.below hb09 (Nat.le_refl _)
             refine (Q1.out _ _ _ _ _ hB9 pt9).mono ?_
             rintro e w10 ⟨a10, rfl, m10, hb10⟩
             have hb810 := bthen hb9 hb10)
          | (go_at_call 13
             refine (sameBytes _ _ _ _ _ _ _ (m8.rd.below hb810 (Nat.le_refl _)) m10.rd (by omega)).mono ?_
             rintro e w11 ⟨rfl, q11, rfl⟩
             have hb011 := bthen (bthen hb09 hb10) (below_drewN w10 q11)
             generalize w10.drewN q11 = w11 at *)
          | (go_at_call 8
             refine (lives02 _).mono ?_
             rintro e wx ⟨rfl, hbL⟩))
      all_goals
        go_wp2_with fail
        go_ret
        exact ⟨rfl, bthen hb011 hbL⟩
    | some ad =>
      have hcn := ha.out.2.1.1
      have hcx := ha.out.2.1.2.1
      have hnc : (n : Int) ≤ (c : Int) := by omega
      have hkc : k ≤ c := by omega
      have hkc' : (k : Int) ≤ (c : Int) := by omega
      have hic : i ≤ c := by omega
      have hic' : (i : Int) ≤ (c : Int) := by omega
      have hik : i ≤ k := by have := hK.out; omega
      have hik' : (i : Int) ≤ (k : Int) := by omega
      have hkn' : (k : Int) ≤ (n : Int) := by omega
      have hin' : (i : Int) ≤ (n : Int) := by omega
      have p0 : Hid (∀ W, Prt W (some ad) n c L → Prt W (some ad) i c L) := fun W h => prt_pre h hi
      have p1 : Hid (∀ W, Prt W (some ad) n c L → Prt W (if c = i then some ad else some (ad.add i)) r (c - i) fun j => L (i + j)) := fun W h => by have := prt_cut h hik hk9; rwa [hki] at this
      have p3 : Hid (∀ W, Prt W (some ad) n c L → Prt W (if c = k then some ad else some (ad.add k)) t (c - k) fun j => L (k + j)) := fun W h => by have := prt_cut h hk9 (Nat.le_refl _); rwa [hnk] at this
      have p4 : Hid (∀ W, Prt W (some ad) n c L → Prt W (some ad) k c L) := fun W h => prt_pre h hk9
      clear hb1 hb2
      obtain ⟨a1, ea1⟩ : ∃ a1, (if c = i then some ad else some (ad.add i)) = a1 := ⟨_, rfl⟩
      obtain ⟨a3, ea3⟩ : ∃ a3, (if c = k then some ad else some (ad.add k)) = a3 := ⟨_, rfl⟩
      rw [ea1] at p1
      rw [ea3] at p3
      go_wp2_with fail
      go_region_held3 (fun W => True) (exact True.intro)
        (first
          | (go_at_call 11
             refine calls_abs (fun W => Below w2.heap.size w2 W ∧ Blk W w2.heap.size #[.slice (some ad) i c, .slice a1 r (c - i), .slice none 0 0, .slice a3 t (c - k)] 22) ⟨bdrewN (below_alloc _ _) 1, (Blk.new _ _ _).drew⟩ ?_
             rintro w3 ⟨hb3, hB3⟩
             have pt3 := ha.out.below (bthen hb02 hb3) (Nat.le_refl _)
             refine (P4.out _ _ _ _ _ _ _ _ _ hB3 (p0.out _ pt3) (p1.out _ pt3) (p3.out _ pt3)).mono ?_
             rintro e w4 ⟨rfl, hb4⟩)
          | (go_at_call 11
             refine calls_abs (fun W => Below w4.heap.size w4 W ∧ Blk W w4.heap.size #[.slice none 0 0, .slice (some ad) n c] 22) ⟨below_alloc _ _, Blk.new _ _ _⟩ ?_
             rintro w5 ⟨hb5, hB5⟩
             refine (P2.out _ _ _ _ _ hB5 (ha.out.below (bthen (bthen (bthen hb02 hb3) hb4) hb5) (Nat.le_refl _))).mono ?_
             rintro e w6 ⟨rfl, hb6⟩)
          | (go_at_call 10
             refine calls_abs (fun W => Below w6.heap.size w6 W ∧ Blk W w6.heap.size #[.slice (some ad) k c, .slice a3 t (c - k)] 22) ⟨below_alloc _ _, Blk.new _ _ _⟩ ?_
             rintro w7 ⟨hb7, hB7⟩
             have hb07 := bthen (bthen (bthen (bthen (bthen hb02 hb3) hb4) hb5) hb6) hb7
             have pt7 := ha.out.below hb07 (Nat.le_refl _)
             refine (Q2.out _ _ _ _ _ _ _ hB7 (p4.out _ pt7) (p3.out _ pt7)).mono ?_
             rintro e w8 ⟨a8, rfl, m8, hb8⟩)
          | (go_at_call 10
             refine calls_abs (fun W => Below w6.heap.size w6 W ∧ Blk W w6.heap.size #[.slice (some ad) n c] 22 ∧ Blk W (w6.heap.size + 1) #[.slice (some ad) k c, .slice a3 t (c - k)] 22) ⟨(below_alloc _ _).trans ((below_alloc _ _).mono (by simp)), (Blk.new _ _ _).alloc _, by have := Blk.new (w6.alloc (.cells #[.slice (some ad) n c] 22)) #[.slice (some ad) k c, .slice a3 t (c - k)] 22; simpa using this⟩ ?_
             rintro w7 ⟨hb7, hB71, hB7⟩
             have hb07 := bthen (bthen (bthen (bthen (bthen hb02 hb3) hb4) hb5) hb6) hb7
             have pt7 := ha.out.below hb07 (Nat.le_refl _)
             refine (Q2.out _ _ _ _ _ _ _ hB7 (p4.out _ pt7) (p3.out _ pt7)).mono ?_
             rintro e w8 ⟨a8, rfl, m8, hb8⟩
             have hB81 := hB71.below hb8 hB71.lt)
          | (go_at_call 10
             refine calls_abs (fun W => Below w6.heap.size w6 W ∧ Blk W w6.heap.size #[.slice (some ad) k c, .slice a3 t (c - k)] 22 ∧ Blk W (w6.heap.size + 1) #[.slice (some ad) n c] 22) ⟨(below_alloc _ _).trans ((below_alloc _ _).mono (by simp)), (Blk.new _ _ _).alloc _, by have := Blk.new (w6.alloc (.cells #[.slice (some ad) k c, .slice a3 t (c - k)] 22)) #[.slice (some ad) n c] 22; simpa using this⟩ ?_
             rintro w7 ⟨hb7, hB7, hB71⟩
             have hb07 := bthen (bthen (bthen (bthen (bthen hb02 hb3) hb4) hb5) hb6) hb7
             have pt7 := ha.out.below hb07 (Nat.le_refl _)
             refine (Q2.out _ _ _ _ _ _ _ hB7 (p4.out _ pt7) (p3.out _ pt7)).mono ?_
             rintro e w8 ⟨a8, rfl, m8, hb8⟩
             have hB81 := hB71.below hb8 hB71.lt)
          | (go_at_call 10
             have hb09 := bthen hb07 hb8
             have pt9 := ha.out.below hb09 (Nat.le_refl _)
             refine (Q1.out _ _ _ _ _ hB81 pt9).mono ?_
             rintro e w10 ⟨a10, rfl, m10, hb10⟩
             have hb810 := hb10)
          | (go_at_call 10
             refine calls_abs (fun W => Below w8.heap.size w8 W ∧ Blk W w8.heap.size #[.slice (some ad) n c] 22) ⟨below_alloc _ _, Blk.new _ _ _⟩ ?_
             rintro w9 ⟨hb9, hB9⟩
             have hb09 := bthen (bthen hb07 hb8) hb9
             have pt9 := ha.out.below hb09 (Nat.le_refl _)
             refine (Q1.out _ _ _ _ _ hB9 pt9).mono ?_
             rintro e w10 ⟨a10, rfl, m10, hb10⟩
             have hb810 := bthen hb9 hb10)
          | (go_at_call 13
             refine (sameBytes _ _ _ _ _ _ _ (m8.rd.below hb810 (Nat.le_refl _)) m10.rd (by omega)).mono ?_
             rintro e w11 ⟨rfl, q11, rfl⟩
             have hb011 := bthen (bthen hb09 hb10) (below_drewN w10 q11)
             generalize w10.drewN q11 = w11 at *)
          | (go_at_call 8
             refine (lives02 _).mono ?_
             rintro e wx ⟨rfl, hbL⟩))
      all_goals
        go_wp2_with fail
        go_ret
        exact ⟨rfl, bthen hb011 hbL⟩
  · have hn1 : decide ((300 : Int) < (n : Int)) = true := by simp; omega
    go_enter Try.func6, Try.ntmps6
    go_wp2_with fail
    refine (lives02 _).mono ?_
    rintro e wx ⟨rfl, hbL⟩
    go_wp2_with fail
    go_ret
    exact ⟨rfl, bthen (below_alloc _ _) hbL⟩
end Go.Proofs.Ytpcohgjbhgaogaa
