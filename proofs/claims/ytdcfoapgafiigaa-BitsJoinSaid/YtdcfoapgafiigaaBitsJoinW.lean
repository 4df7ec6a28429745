/- BitsJoin: the walk. -/
import Derived.Test.YtdcfoapgafiigaaLives01
import Derived.Test.YtdcfoapgafiigaaHelpBytes
import Derived.Test.YtdcfoapgafiigaaJoin
namespace Go.Proofs.Ytdcfoapgafiigaa
open Go.RowKit
set_option linter.unusedSimpArgs false
set_option linter.unusedVariables false
set_option maxRecDepth 100000
theorem appL_bd {L M : Nat → Int} {n m : Nat} (h1 : ∀ i, i < n → 0 ≤ L i ∧ L i < 256) (h2 : ∀ i, i < m → 0 ≤ M i ∧ M i < 256) (i : Nat) (hi : i < n + m) : 0 ≤ appL L n M i ∧ appL L n M i < 256 := by
  unfold appL
  split
  · exact h1 i (by assumption)
  · exact h2 (i - n) (by omega)
theorem of_app (L M : Nat → Int) (n i : Nat) : ofL (appL L n M) i = appL (ofL L) (8 * n) (ofL M) i := by
  unfold ofL appL
  by_cases h : i < 8 * n
  · have h1 : i / 8 < n := by omega
    simp [h, h1]
  · have h1 : ¬ i / 8 < n := by omega
    have h2 : i / 8 - n = (i - 8 * n) / 8 := by omega
    have h3 : i % 8 = (i - 8 * n) % 8 := by omega
    simp only [h, h1, if_false, h2, h3]
/-- A number's upper and lower symbols, one behind the other, are its own. -/
theorem put_join (z low i : Nat) (hl : low < 64) (hi : i < 64) : putL (putL (fun _ => 0) 0 (z / 2 ^ low) (64 - low)) (64 - low) z low i = putL (fun _ => 0) 0 z 64 i := by
  unfold putL
  by_cases h : i < 64 - low
  · simp only [h, if_true, Nat.not_lt_zero, if_false, Nat.sub_zero]
    have e : 64 - 1 - i = low + (64 - low - 1 - i) := by omega
    rw [e]
    unfold bitN
    rw [Nat.div_div_eq_div_mul, ← Nat.pow_add]
  · simp only [h, if_false, Nat.not_lt_zero, Nat.sub_zero]
    have e : low - 1 - (i - (64 - low)) = 64 - 1 - i := by omega
    rw [e]
theorem num8 (L : Nat → Int) (j : Nat) (h : 0 ≤ L j ∧ L j < 256) : numR (fun i => ofL L (8 * j + i)) 8 = (L j, true) := by
  have hw : wholeL (fun i => ofL L (8 * j + i)) 8 = true := wholeL_iff.2 fun i hi => wholeL_iff.1 (ofL_whole L (8 * j + i + 1)) (8 * j + i) (by omega)
  have hn : numL (fun i => ofL L (8 * j + i)) 8 = L j := ofL_num L j h
  simp [numR, hw, hn]
theorem Rd.sub {k : IntKind} {w : World} {b o n : Nat} {L : Nat → Int} (h : Rd k w (some ⟨b, o, none⟩) n L) (p m : Nat) (hpm : p + m ≤ n) : Rd k w (some ⟨b, o + p, none⟩) m (fun i => L (p + i)) := fun i hi => by
  obtain ⟨b', o', h1, h2⟩ := h (p + i) (by omega)
  simp only [Option.some.injEq, Addr.mk.injEq, and_true] at h1
  obtain ⟨rfl, rfl⟩ := h1
  exact ⟨b, o + p, rfl, by rw [Nat.add_assoc]; exact h2⟩
def InvJoin (w0 : World) (al : Option Addr) (n c : Nat) (as_ : Option Addr) (pz : Value) (k : Nat) (a : Act) (wr : World) : Prop :=
  ∃ j : Nat, j + k = n ∧ wr = w0 ∧ a.tmps.size = 95 ∧ a.defers = [] ∧ slot a 5 = pz ∧ slot a 7 = .slice al n c ∧ slot a 8 = .slice as_ (8 * n) (8 * n) ∧ slot a 9 = .int .i64 j
set_option maxHeartbeats 4000000 in
theorem bitsJoin_any (w : World) (ao : Option Addr) (n c : Nat) (L : Nat → Int) (ax : Option Addr) (m cx : Nat) (M : Nat → Int) (z y : Nat) (ha : Rd .u8 w ao n L) (hnil : ao = none → n = 0 ∧ c = 0) (hL : ∀ i, i < n → 0 ≤ L i ∧ L i < 256)
    (hx : Rd .u8 w ax m M) (hnilx : ax = none → m = 0 ∧ cx = 0) (hM : ∀ i, i < m → 0 ≤ M i ∧ M i < 256) (hz : z < 18446744073709551616) (hy : y < 18446744073709551616) :
    Calls Try.prog 5 #[.slice ao n c, .slice ax m cx, .agg #[.int .u64 z, .int .u64 y]] w fun e w' => e = .returned (.bool true) ∧ Below w.heap.size w w' := by
  have hAll := Lib.hid (appL_bd hL hM)
  replace ha := Lib.hid ha
  replace hnil := Lib.hid hnil
  replace hx := Lib.hid hx
  replace hnilx := Lib.hid hnilx
  replace hL := Lib.hid hL
  replace hM := Lib.hid hM
  by_cases hn : n ≤ 200
  · have hn1 : decide ((200 : Int) < (n : Int)) = false := by simp; omega
    by_cases hm : m ≤ 200
    · have hm1 : decide ((200 : Int) < (m : Int)) = false := by simp; omega
      obtain ⟨i0, hf0, hz0, hz1, hz2⟩ := info_parts elemHBytes
      obtain ⟨i1, hg0, hy0, hy1, hy2⟩ := info_parts elemS
      have hcz := (Blk.new w #[.int .u64 z, .int .u64 y] 44)
      have hcz' := Lib.hid hcz
      clear hcz
      go_enter Try.func5, Try.ntmps5
      go_wp2_with (at_builtin; refine append_src rfl _ _ 43 rfl (w.heap.size + 1) 5 i0 (.int .u8 0) 1 Try.underlying43 hf0 hz0 hz1 hz2 rfl _ _ _ rfl (World.ownsRow_nil _ _ _ _) ao n c (nums .u8 L n) rfl hnil.out (nums_len _ _ _) (nums_news (ha.out.below (below_alloc _ _) (Nat.le_refl _))) (nums_one _ _ _) (by omega) (by omega) (by simp) ?_)
      intro v1 w1 hown1 hg1 _
      have hb1 : Below (w.heap.size + 1) (w.alloc (.cells #[.int .u64 z, .int .u64 y] 44)) w1 := Below.grown (Below.refl _ _) hg1 (by simp) (by simp [Value.ownBlock])
      have hcz1 := Lib.hid (hcz'.out.below hb1 (by omega))
      have hb : Below w.heap.size w w1 := (below_alloc _ _).trans (hb1.mono (by omega))
      have hs1 := hb1.size
      simp only [World.size_alloc] at hs1
      replace hown1 := Lib.hid hown1
      clear hb1 hcz' hg1
      go_wp2_with (at_builtin; refine append_src rfl _ _ 43 rfl (w.heap.size + 1) 5 i0 (.int .u8 0) 1 Try.underlying43 hf0 hz0 hz1 hz2 rfl _ _ _ rfl hown1.out ax m cx (nums .u8 M m) rfl hnilx.out (nums_len _ _ _) (nums_news (hx.out.below hb (Nat.le_refl _))) (nums_one _ _ _) (by omega) (by omega) hs1 ?_)
      intro v2 w2 hown2 hg2 _
      have hb2 : Below (w.heap.size + 1) w1 w2 := Below.grown (Below.refl _ _) hg2 hs1 (fun k hk => (hown1.out.lt k hk).1)
      have hcz2 := Lib.hid (hcz1.out.below hb2 (by omega))
      replace hb := hb.trans (hb2.mono (by omega))
      try simp only [Nat.zero_add, List.nil_append] at hown2
      rw [nums_app] at hown2
      obtain ⟨al, cl, rfl, q1, q2, q3, hmine⟩ := own_mine hown2
      have hall := Lib.hid hmine.rd
      have hs2 := hb2.size
      clear hmine hown2 hb2 hcz1 hg2 hown1 q3
      go_wp2_with fail
      refine (ofSyms _ _ _ _ _ hall.out hAll.out (by omega)).mono ?_
      rintro e w3 ⟨a3, rfl, m3, hb3⟩
      have x3 := Lib.hid (m3.congr fun i _ => of_app L M n i)
      have hs3 := hb3.size
      clear m3
      go_wp2_with fail
      refine (ofSyms _ _ _ _ _ (ha.out.below (bthen hb hb3) (Nat.le_refl _)) hL.out (by omega)).mono ?_
      rintro e w4 ⟨a4, rfl, m4, hb4⟩
      have x4 := Lib.hid m4
      have hb24 := bthen hb3 hb4
      clear m4 hb3
      go_wp2_with fail
      refine (ofSyms _ _ _ _ _ (hx.out.below (bthen hb hb24) (Nat.le_refl _)) hM.out (by omega)).mono ?_
      rintro e w5 ⟨a5, rfl, m5, hb5⟩
      have x5 := Lib.hid m5
      replace hb24 := bthen hb24 hb5
      clear m5
      have y4 := Lib.hid (x4.out.rd.below hb5 (Nat.le_refl _))
      have z4 := Lib.hid x4.out.none
      go_wp2_with (at_builtin; refine append_clip rfl _ _ 22 rfl 50 i1 (.int .u8 0) 1 Try.underlying22 hg0 hy0 hy1 hy2 rfl .u8 a4 (8 * n) (ofL L) rfl y4.out z4.out a5 (8 * m) (8 * m) (ofL M) rfl x5.out.rd (by omega) (by omega) ?_)
      intro a6 c6 w6 r6 q6 q7 q8 hb6
      have e86 : 8 * n + 8 * m = 8 * (n + m) := by omega
      rw [e86] at r6 q6 ⊢
      replace r6 := Lib.hid r6
      clear q8 y4 z4 x4 x5 e86
      go_wp2_with fail
      refine (sameSyms _ _ _ _ _ _ _ (x3.out.rd.below (bthen (bthen hb4 hb5) hb6) (Nat.le_refl _)) r6.out (by omega)).mono ?_
      rintro e w7 ⟨rfl, q7, rfl⟩
      replace hb24 := bthen (bthen hb24 hb6) (below_drewN w6 q7)
      clear x3 r6 hb4 hb5 hb6
      generalize w6.drewN q7 = w7 at *
      go_wp2_with fail
      refine (ofSyms _ _ _ _ _ (hall.out.below hb24 (Nat.le_refl _)) hAll.out (by omega)).mono ?_
      rintro e w8 ⟨a8, rfl, m8, hb8⟩
      have x8 := Lib.hid m8
      replace hb24 := bthen hb24 hb8
      have hl8 := Lib.hid (hall.out.below hb24 (Nat.le_refl _))
      have hcz8 := Lib.hid (hcz2.out.below hb24 hcz2.out.lt)
      have hb08 := bthen hb hb24
      clear m8 hb8 hall hcz2 hb24 hb
      go_wp2_with fail
      refine wp_loop_k (InvJoin w8 al (n + m) cl a8 (.pointer (some ⟨w.heap.size, 0, none⟩))) (n + m) ?_ ?_
      · exact ⟨0, by omega, rfl, by kernel_rfl, rfl, by kernel_rfl, by kernel_rfl, by kernel_rfl, by kernel_rfl⟩
      · intro gk a wr hI K hK
        obtain ⟨j, hj, rfl, hs', hd', k5', k7', k8', k9'⟩ := hI
        rw [fr95 a hs' hd']; simp only [k5', k7', k8', k9']; clear hs' hd' k5' k7' k8' k9'
        by_cases hlt : j < n + m
        · obtain ⟨b, o, rfl, hc⟩ := hl8.out j hlt
          have hbd := hAll.out j hlt
          have hjn : (j : Int) < (n : Int) + m := by omega
          obtain ⟨g, rfl, _⟩ := x8.out.some (by omega)
          have hsub := x8.out.rd.sub (8 * j) 8 (by omega)
          rw [Nat.zero_add] at hsub
          replace hsub := Lib.hid hsub
          have h8 := num8 (appL L n M) j hbd
          generalize appL L n M j = t at *
          replace h8 := Lib.hid h8
          have et : (t != t) = false := by simp
          have hwt : IntKind.u64.wrap t = t := by rw [IntKind.wrap_u64]; omega
          go_wp2_with fail
          refine (bitsNum _ _ _ _ _ hsub.out (by omega)).mono ?_
          rintro e _ ⟨rfl, rfl⟩
          rw [h8.out]
          go_wp2_with fail
          refine hK (n + m - (j + 1)) _ _ (by omega) ⟨j + 1, by omega, rfl, by kernel_rfl, rfl, by kernel_rfl, by kernel_rfl, by kernel_rfl, ?_⟩
          show Value.int _ _ = Value.int _ _
          simp
        · have hjn : (n : Int) + m ≤ j := by omega
          have d0 := hcz8.out.cell (i := 0) rfl
          have d1 := hcz8.out.cell (i := 1) rfl
          have hl0 := hcz8.out.lt
          obtain ⟨low, hlow⟩ : ∃ low : Nat, (y : Int) % 64 = low := ⟨y % 64, by simp⟩
          have hlow64 : low < 64 := by omega
          obtain ⟨zz, hzz⟩ : ∃ zz : Nat, (z : Int) / 2 ^ low = zz := ⟨z / 2 ^ low, by simp⟩
          have hwl : IntKind.i64.wrap (64 - (low : Int)) = 64 - low := wrap_i64_small _ (by omega) (by omega)
          have hb1 : bitsOf (64 - (low : Int)) = 64 - low := by unfold bitsOf; omega
          have hb2 : bitsOf (low : Int) = low := by unfold bitsOf; omega
          have hb3 : bitsOf 64 = 64 := by decide
          have hzz' : zz = z / 2 ^ low := by have h : ((z : Int) / 2 ^ low) = ((z / 2 ^ low : Nat) : Int) := by simp
                                             omega
          have hzl : zz < 18446744073709551616 := by rw [hzz']; exact Nat.lt_of_le_of_lt (Nat.div_le_self _ _) hz
          have P1 : Hid (∀ W, Calls Try.prog 13 #[.slice none 0 0, .int .u64 zz, .int .i64 (64 - (low : Int))] W fun e w' => ∃ a, e = .returned (.slice a (64 - low) (64 - low)) ∧ Mine .u8 50 W.heap.size w' a (64 - low) (putL (fun _ => 0) 0 zz (64 - low)) ∧ Below W.heap.size W w') := fun W => by
            have h := bitsPut W none 0 0 (fun _ => 0) zz (64 - (low : Int)) (fun i hi => absurd hi (by omega)) (by simp) (by omega) hzl
            rw [hb1, Nat.zero_add] at h
            exact h
          have P2 : Hid (∀ W B a, Mine .u8 50 B W a (64 - low) (putL (fun _ => 0) 0 zz (64 - low)) → Calls Try.prog 13 #[.slice a (64 - low) (64 - low), .int .u64 z, .int .i64 (low : Int)] W fun e w' => ∃ a, e = .returned (.slice a 64 64) ∧ Mine .u8 50 W.heap.size w' a 64 (putL (fun _ => 0) 0 z 64) ∧ Below W.heap.size W w') := fun W B a hm => by
            have h := bitsPut W a (64 - low) (64 - low) _ z (low : Int) hm.rd hm.none (by omega) hz
            rw [hb2, show 64 - low + low = 64 from by omega] at h
            refine h.mono ?_
            rintro e w' ⟨a', h1, h2, h3⟩
            exact ⟨a', h1, h2.congr fun i hi => by rw [hzz']; exact put_join z low i hlow64 hi, h3⟩
          have P3 : Hid (∀ W, Calls Try.prog 13 #[.slice none 0 0, .int .u64 z, .int .i64 64] W fun e w' => ∃ a, e = .returned (.slice a 64 64) ∧ Mine .u8 50 W.heap.size w' a 64 (putL (fun _ => 0) 0 z 64) ∧ Below W.heap.size W w') := fun W => by
            have h := bitsPut W none 0 0 (fun _ => 0) z 64 (fun i hi => absurd hi (by omega)) (by simp) (by omega) hz
            rw [hb3, Nat.zero_add] at h
            exact h
          clear hb1 hb2 hb3 hzz'
          go_wp2_with fail
          go_region_held3 (fun W => W.cell? ⟨w.heap.size, 0, none⟩ = some (.int .u64 z)) (first | exact d0 | exact d9 | exact d10)
            (first
              | (go_at_call 13; (with_reducible refine (P1.out _).mono ?_); rintro e w9 ⟨a9, rfl, m9, hb9⟩; have d9 := below_cell (w := wr.drew) d0 hb9 hl0)
              | (go_at_call 13; (with_reducible refine (P2.out _ _ _ m9).mono ?_); rintro e w10 ⟨a10, rfl, m10, hb10⟩; have d10 := below_cell d9 hb10 (Nat.lt_of_lt_of_le hl0 hb9.size)))
          have hb10 := bthen (bthen (bthen hb08 (below_drewN wr 1)) hb9) hb10
          have x10 := Lib.hid m10
          clear P1 P2 m9 m10 d9
          go_wp2_with fail
          refine (P3.out _).mono ?_
          rintro e w11 ⟨a11, rfl, m11, hb11⟩
          have x11 := Lib.hid m11
          clear m11
          go_wp2_with fail
          refine (sameSyms _ _ _ _ _ _ _ (x10.out.rd.below hb11 (Nat.le_refl _)) x11.out.rd (by omega)).mono ?_
          rintro e w12 ⟨rfl, q12, rfl⟩
          have hb12 := bthen (bthen hb10 hb11) (below_drewN w11 q12)
          clear x10 x11
          generalize w11.drewN q12 = w12 at *
          go_wp2_with fail
          refine (lives01 _).mono ?_
          rintro e wx ⟨rfl, hbL⟩
          go_wp2_with fail
          go_ret
          exact ⟨rfl, bthen hb12 hbL⟩
    · have hm1 : decide ((200 : Int) < (m : Int)) = true := by simp; omega
      go_enter Try.func5, Try.ntmps5
      go_wp2_with fail
      refine (lives01 _).mono ?_
      rintro e wx ⟨rfl, hbL⟩
      go_wp2_with fail
      go_ret
      exact ⟨rfl, bthen (below_alloc _ _) hbL⟩
  · have hn1 : decide ((200 : Int) < (n : Int)) = true := by simp; omega
    go_enter Try.func5, Try.ntmps5
    go_wp2_with fail
    refine (lives01 _).mono ?_
    rintro e wx ⟨rfl, hbL⟩
    go_wp2_with fail
    go_ret
    exact ⟨rfl, bthen (below_alloc _ _) hbL⟩
end Go.Proofs.Ytdcfoapgafiigaa
