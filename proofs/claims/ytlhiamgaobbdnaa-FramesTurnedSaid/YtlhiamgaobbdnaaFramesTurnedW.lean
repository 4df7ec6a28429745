/- FramesTurned: the walk. -/
import Derived.Test.YtlhiamgaobbdnaaFramesTurnL
namespace Go.Proofs.Ytlhiamgaobbdnaa
open Go.RowKit
set_option linter.unusedSimpArgs false
set_option linter.unusedVariables false
set_option maxRecDepth 100000
theorem elemInt : (Try.prog.info? 3).map (fun i => (i.zero, i.size, i.bytes)) = some (some (.int .i64 0), 1, 8) := by kernel_rfl
theorem bit_test (Z k : Nat) (hZ : Z < 4294967296) : (bits .and .u32 ((Z : Int) / 2 ^ k) 1 == 1) = Z.testBit k := by
  have h := u32_and_nat (Z / 2 ^ k) 1 (Nat.lt_of_le_of_lt (Nat.div_le_self _ _) hZ) (by decide)
  rw [show ((Z / 2 ^ k : Nat) : Int) = (Z : Int) / 2 ^ k by simp, show ((1 : Nat) : Int) = 1 from rfl, Nat.and_one_is_mod] at h
  rw [h, Nat.testBit_eq_decide_div_mod_eq, Bool.eq_iff_iff]
  simp only [beq_iff_eq, decide_eq_true_eq]
  omega
/-- Symbols that are no frame's: nothing is read. -/
theorem read_no {L : Nat → Int} {n : Nat} (h : readOk L n = false) : readE L n = 4 ∧ readV L n = frV 0 0 0 0 0 ∧ readT L n = tailV false false := by
  simp [readE, readV, readT, h]
def InvTu (wL : World) (zB : Nat) (a : Option Addr) (F z0 : Nat) (k : Nat) (ac : Act) (wr : World) : Prop :=
  ∃ (i m : Nat) (AL : Nat → Int) (v : Value), i + k = 32 ∧ m ≤ i ∧ Below wL.heap.size wL wr ∧ wr.ownsRow wL.heap.size 3 1 v m (nums .i64 AL m) ∧ (∀ p, cntL AL p m = if errT F z0 i p then 1 else 0) ∧ (0 < m → 0 < z0) ∧
    ac.tmps.size = 137 ∧ ac.defers = [] ∧ slot ac 5 = .pointer (some ⟨zB, 0, none⟩) ∧ slot ac 7 = .slice a 114 114 ∧ slot ac 9 = .int .i64 F ∧ slot ac 10 = v ∧ slot ac 11 = .int .i64 i
set_option maxHeartbeats 8000000 in
theorem framesTurned_any (w : World) (o k st sq v : Int) (z0 z1 : Nat) (ho : 0 ≤ o ∧ o < 256) (hk : 0 ≤ k ∧ k < 256) (hst : 0 ≤ st ∧ st < 256) (hsq : 0 ≤ sq ∧ sq < 4294967296) (hv : 0 ≤ v ∧ v < 4294967296) (hz0 : z0 < 4294967296) (hz1 : z1 < 4294967296) :
    Calls Try.prog 8 #[.int .u8 o, payV k st sq v, .agg #[.int .u32 z0, .int .u32 z1]] w fun e w' => e = .returned (.bool true) ∧ Below w.heap.size w w' := by
  obtain ⟨i0, hi0, hzz0, hzz1, hzz2⟩ := info_parts elemInt
  obtain ⟨j0, hj0, hy0, hy1, hy2⟩ := info_parts elemS
  obtain ⟨kk, hkk, hkk2⟩ : ∃ kk : Int, 1 + k % 2 = kk ∧ (kk = 1 ∨ kk = 2) := ⟨_, rfl, by omega⟩
  obtain ⟨oo, hoo, hoo2⟩ : ∃ oo : Int, o % 8 = oo ∧ 0 ≤ oo ∧ oo < 8 := ⟨_, rfl, by omega⟩
  have u1 : IntKind.u8.wrap (1 + k % 2) = kk := by rw [IntKind.wrap_u8]; omega
  have u2 : IntKind.i64.wrap oo = oo := wrap_i64_small _ (by omega) (by omega)
  obtain ⟨F, hF, hF2⟩ : ∃ F : Nat, (z1 : Int) % 81 = (F : Int) ∧ F ≤ 80 := ⟨z1 % 81, by omega, by omega⟩
  obtain ⟨Q, hQ, hQ2⟩ : ∃ Q : Nat, (z1 : Int) % 114 = (Q : Int) ∧ Q < 114 := ⟨z1 % 114, by omega, by omega⟩
  have hm : mayB oo kk = true := by simp [mayB]; omega
  have O := Lib.hid (fun W => lawOf W oo kk st sq v)
  have P3 := Lib.hid (fun W => frSyms W oo kk st sq v true false (by omega) hst hsq hv)
  have eS : lenS oo kk = 114 := by simp [lenS, hm]
  have eE : errF oo kk = 0 := by simp [errF, hm]
  rw [eS, eE] at P3
  have TR := Lib.hid (fun (A : Nat → Int) (m : Nat) (hc : ∀ p, cntL A p m = if errT F z0 32 p then 1 else 0) => turned_read (A := A) (m := m) hm hst hsq hv hF2 hz0 hc)
  obtain ⟨rd1, rd2, rd3⟩ := frSL_read (wh := true) (un := false) hm hst hsq hv
  have RD := Lib.hid (And.intro rd1 (And.intro rd2 rd3))
  have hSL : Hid (∀ p, p < 114 → 0 ≤ frSL oo kk st sq v true false p) := fun p hp => by
    rw [frSL, appL]
    split
    · unfold ofL bitN; omega
    · obtain rfl | rfl : p = 112 ∨ p = 113 := by omega
      · simp [tailSL, at2, symI]
      · simp [tailSL, at2, symI]
  generalize frSL oo kk st sq v true false = SL at *
  unfold frV tailV payV at *
  clear eS eE rd1 rd2 rd3 hm hsq hv hst
  go_enter Try.func8, Try.ntmps8
  go_wp2_with fail
  refine calls_abs (fun W => Below w.heap.size w W ∧ Blk W (w.heap.size + 1) #[.int .u32 z0, .int .u32 z1] 74) ⟨(below_alloc _ _).trans ((below_alloc _ _).mono (by simp)), by have := Blk.new (w.alloc (.cells #[.int .u8 kk, .int .u8 st, .int .u32 sq, .int .u32 v] 25)) #[.int .u32 z0, .int .u32 z1] 74; simpa using this⟩ ?_
  rintro w1 ⟨hb1, hZ1⟩
  refine (O.out w1).mono ?_
  rintro e w2 ⟨rfl, hb2⟩
  go_wp2_with fail
  refine (P3.out w2).mono ?_
  rintro e w3 ⟨a3, rfl, m3, hb3⟩
  have hb13 := bthen hb2 hb3
  have hb03 := bthen hb1 hb13
  have hZ3 := hZ1.below hb13 hZ1.lt
  obtain ⟨g, rfl, hg1, hg2, _, _⟩ := m3.some (by omega)
  have hgw : w.heap.size ≤ g := by have := hb1.size; have := hb2.size; omega
  have x3 := Lib.hid m3
  have hZ3' := Lib.hid hZ3
  clear m3 hZ1 hb2 hb3 hb13 hb1 O P3 u1 u2 hkk hoo
  obtain ⟨⟨z00, z01⟩, _⟩ := tl_cells hZ3
  clear hZ3
  go_wp2
  simp only [hF]
  refine wp_loop_k (InvTu w3 (w.heap.size + 1) (some ⟨g, 0, none⟩) F z0) 32 ?_ ?_
  · exact ⟨0, 0, fun _ => 0, .slice none 0 0, by omega, by omega, Below.refl _ _, World.ownsRow_nil _ _ _ _, fun p => by simp [cntL, errT]; omega, fun h => absurd h (Nat.lt_irrefl 0), by kernel_rfl, rfl, by kernel_rfl, by kernel_rfl, by kernel_rfl, by kernel_rfl, by kernel_rfl⟩
  clear z00 z01
  intro gk a wr hI K1 hK1
  obtain ⟨i, m, AL, vv, hi, hmi, hbw, hown, hcnt, hpos, hs', hd', k5', k7', k9', k10', k11'⟩ := hI
  rw [fr137 a hs' hd']; simp only [k5', k7', k9', k10', k11']; clear hs' hd' k5' k7' k9' k10' k11'
  have hsz := hbw.size
  have hZr := Lib.hid (hZ3'.out.below hbw hZ3'.out.lt)
  replace hown := Lib.hid hown
  replace hcnt := Lib.hid hcnt
  obtain ⟨⟨z00, z01⟩, _⟩ := tl_cells hZr.out
  by_cases hil : i < 32
  · have g1 : decide ((i : Int) < 32) = true := by simp; omega
    have gt : (bits .and .u32 ((z0 : Int) / 2 ^ i) 1 == 1) = z0.testBit i := bit_test z0 i hz0
    cases hzb : z0.testBit i with
    | false =>
      rw [hzb] at gt
      go_wp2
      exact hK1 (32 - (i + 1)) _ _ (by omega) ⟨i + 1, m, AL, vv, by omega, by omega, hbw, hown.out, fun p => by rw [hcnt.out p, errT_more, hzb, Bool.and_false, Bool.or_false], hpos, by kernel_rfl, rfl, by kernel_rfl, by kernel_rfl, by kernel_rfl, by kernel_rfl, by kernel_rfl⟩
    | true =>
      rw [hzb] at gt
      have e1 : IntKind.i64.wrap ((F : Int) + (i : Int)) = ((F + i : Nat) : Int) := by rw [wrap_i64_small _ (by omega) (by omega)]; omega
      obtain ⟨P, hP⟩ : ∃ P, F + i = P := ⟨_, rfl⟩
      rw [hP] at e1
      replace hP := Lib.hid hP
      go_wp2_with (at_builtin; refine append_one rfl _ _ 75 rfl w3.heap.size 3 i0 (.int .i64 0) 8 Try.underlying75 hi0 hzz0 hzz1 hzz2 rfl _ _ _ rfl hown.out _ rfl rfl (by omega) (by omega) hsz ?_)
      intro g1' c1' w5 hown5 hg5 hb5
      have hnew : nums .i64 AL m ++ [Value.int .i64 (P : Nat)] = nums .i64 (fun j => if j < m then AL j else (P : Nat)) (m + 1) := by
        rw [nums_succ, nums_congr (L' := fun j => if j < m then AL j else ((P : Nat) : Int)) (fun j hj => by simp [hj])]
        simp
      rw [hnew] at hown5
      have hb45 := hbw.trans hb5
      replace hown5 := Lib.hid hown5
      clear hg5 hb5 hown z00 z01 hnew
      go_wp2
      refine hK1 (32 - (i + 1)) _ _ (by omega) ⟨i + 1, m + 1, _, _, by omega, by omega, hb45, hown5.out, fun p => ?_, fun _ => ?_, by kernel_rfl, rfl, by kernel_rfl, by kernel_rfl, by kernel_rfl, by kernel_rfl, by kernel_rfl⟩
      · have hc2 : cntL (fun j => if j < m then AL j else ((P : Nat) : Int)) p (m + 1) = cntL AL p m + if P = p then 1 else 0 := by
          rw [cntL, cntL_congr (B := AL) (fun j hj => by simp [hj])]
          have hPp : (((P : Nat) : Int) = (p : Int)) ↔ P = p := by omega
          simp [hPp]
        rw [hc2, hcnt.out p, errT_more, hzb, Bool.and_true]
        by_cases hp : p = F + i
        · have h0 : errT F z0 i p = false := by simp [errT, hp]
          rw [h0]
          simp [hp, hP.out]
        · have h0 : decide (p = F + i) = false := by simp [hp]
          have h1 : ¬ P = p := by rw [← hP.out]; omega
          rw [h0]
          simp [h1]
      · rcases Nat.eq_zero_or_pos z0 with h | h
        · rw [h] at hzb; simp at hzb
        · exact h
  · have g1 : decide ((i : Int) < 32) = false := by simp; omega
    obtain rfl : i = 32 := by omega
    obtain ⟨tr1, tr2⟩ := TR.out AL m hcnt.out
    obtain ⟨al, cl, rfl, q1, q2, q3, hmine⟩ := own_mine hown.out
    have hTS0 : m = 0 → turnL SL AL m = SL := fun h => by subst h; funext j; exact turnL_zero _ _ _
    have hex : ∃ E1 o1 k1 s1 q1 v1, readE (turnL SL AL m) 114 = E1 ∧ readV (turnL SL AL m) 114 = .agg #[.int .i64 o1, .int .u8 k1, .int .u8 s1, .int .u32 q1, .int .u32 v1] ∧ (m = 0 ∨ 0 < m ∧ E1 = 5 ∧ o1 = 0 ∧ k1 = 0 ∧ s1 = 0 ∧ q1 = 0 ∧ v1 = 0) := by
      rcases Nat.eq_zero_or_pos m with h | h
      · rw [hTS0 h]
        exact ⟨_, _, _, _, _, _, RD.out.1, RD.out.2.1, .inl h⟩
      · obtain ⟨e1, e2⟩ := tr2 (hpos h)
        exact ⟨_, 0, 0, 0, 0, 0, e1, e2, .inr ⟨h, rfl, rfl, rfl, rfl, rfl, rfl⟩⟩
    obtain ⟨E1, o1, k1, s1, r1, v1, he1, he2, hcase⟩ := hex
    have BT := Lib.hid (bitsTurn wr (some ⟨g, 0, none⟩) 114 114 SL al m cl AL (x3.out.rd.below hbw (Nat.le_refl _)) hmine.rd (fun e => by simp at e) (by omega) (by omega))
    have R1 := Lib.hid (fun (W : World) (a : Option Addr) (h : Rd .u8 W a 114 (turnL SL AL m)) (hn : a ≠ none) => by
      have := frRead W a 114 114 _ h ⟨Nat.le_refl _, by omega, fun e => absurd e hn⟩ (by omega)
      rw [he1, he2, tr1] at this
      exact this)
    generalize turnL SL AL m = TS at *
    replace q3 := Lib.hid q3
    clear tr1 tr2 he1 he2 hTS0 hown hmine hcnt hpos RD TR hK1 hi hil g1
    have hb0r := bthen hb03 hbw
    go_wp2_with fail
    refine BT.out.mono ?_
    rintro e w5 ⟨a5, rfl, m5, hb5⟩
    have hna : a5 ≠ none := fun e => by have := m5.none e; omega
    go_wp2_with fail
    refine (R1.out w5 a5 m5.rd hna).mono ?_
    rintro e w6 ⟨rfl, hb6⟩
    have hb36 := bthen (bthen hbw hb5) hb6
    have hb06 := bthen hb03 hb36
    clear m5 BT R1 hb5 hb6 hb0r hna hbw hZr z00 z01 q1 q2 q3
    have hT7 : Blk ((w6.alloc (.cells #[.int .i64 o1, .int .u8 k1, .int .u8 s1, .int .u32 r1, .int .u32 v1] 34)).alloc (.cells #[.bool true, .bool false] 38)) (w6.heap.size + 1) #[.bool true, .bool false] 38 := by
      have := Blk.new (w6.alloc (.cells #[.int .i64 o1, .int .u8 k1, .int .u8 s1, .int .u32 r1, .int .u32 v1] 34)) #[.bool true, .bool false] 38
      simpa using this
    have hF7 : Blk ((w6.alloc (.cells #[.int .i64 o1, .int .u8 k1, .int .u8 s1, .int .u32 r1, .int .u32 v1] 34)).alloc (.cells #[.bool true, .bool false] 38)) w6.heap.size #[.int .i64 o1, .int .u8 k1, .int .u8 s1, .int .u32 r1, .int .u32 v1] 34 := (Blk.new w6 _ _).alloc _
    have hb67 : Below w6.heap.size w6 ((w6.alloc (.cells #[.int .i64 o1, .int .u8 k1, .int .u8 s1, .int .u32 r1, .int .u32 v1] 34)).alloc (.cells #[.bool true, .bool false] 38)) := (below_alloc _ _).trans ((below_alloc _ _).mono (by simp))
    go_upto_region 13 with fail
    generalize (w6.alloc (.cells #[.int .i64 o1, .int .u8 k1, .int .u8 s1, .int .u32 r1, .int .u32 v1] 34)).alloc (.cells #[.bool true, .bool false] 38) = w7 at *
    have hb37 := bthen hb36 hb67
    have hb07 := bthen hb06 hb67
    clear hb36 hb06 hb67
    obtain ⟨⟨c0, c1, c2, c3, c4⟩, _⟩ := fr_cells hF7
    obtain ⟨⟨t0, t1⟩, _⟩ := tl_cells hT7
    refine wp_cut (fun a wx => (Below w3.heap.size w3 wx) ∧ a.tmps.size = 137 ∧ a.defers = [] ∧ slot a 5 = .pointer (some ⟨w.heap.size + 1, 0, none⟩) ∧ slot a 7 = .slice (some ⟨g, 0, none⟩) 114 114 ∧ slot a 90 = .bool false) ?_ ?_
    · intro K' hK'
      have GD := Lib.hid (fun W => frGood W true false)
      unfold tailV at GD
      rcases hcase with rfl | ⟨hmp, rfl, rfl, rfl, rfl, rfl, rfl⟩
      · go_wp2_with fail
        refine (GD.out w7).mono ?_
        rintro e w8 ⟨rfl, hb8⟩
        have eg : goodB true false = true := rfl
        rw [eg]
        go_wp2_with fail
        exact hK' _ _ trivial ⟨bthen hb37 hb8, by kernel_rfl, rfl, by kernel_rfl, by kernel_rfl, by kernel_rfl⟩
      · have hmp1 : decide ((0 : Int) < (m : Int)) = true := by simp; exact hmp
        have hmp2 : (0 : Int) < (m : Int) := by omega
        go_wp2_with fail
        refine (GD.out w7).mono ?_
        rintro e w8 ⟨rfl, hb8⟩
        have eg : goodB true false = true := rfl
        rw [eg]
        go_wp2_with fail
        exact hK' _ _ trivial ⟨bthen hb37 hb8, by kernel_rfl, rfl, by kernel_rfl, by kernel_rfl, by kernel_rfl⟩
    clear c0 c1 c2 c3 c4 t0 t1 hF7 hT7 hcase hb37 hb07
    rintro a wx ⟨hb3x, hs', hd', k5', k7', k90'⟩; rw [fr137 a hs' hd']; simp only [k5', k7', k90']; clear hs' hd' k5' k7' k90'
    have hb0x := bthen hb03 hb3x
    have x := Lib.hid (x3.out.below hb3x (Nat.le_refl _))
    have R2 := Lib.hid (fun (W : World) (a : Option Addr) (n cc : Nat) (L : Nat → Int) (h : Rd .u8 W a n L) (hn : NilOk a n cc) (hl : n ≤ 1000) (hr : readOk L n = false) => by
      have := frRead W a n cc L h hn (by omega)
      obtain ⟨r1, r2, r3⟩ := read_no hr
      rw [r1, r2, r3] at this
      exact this)
    unfold frV tailV at R2
    go_wp2_with fail
    refine (R2.out wx (some ⟨g, 0, none⟩) 113 114 SL (fun i hi => x.out.rd i (by omega)) ⟨by omega, by omega, fun e => by simp at e⟩ (by omega) (by simp [readOk])).mono ?_
    rintro e w9 ⟨rfl, hb9⟩
    have hb9F : Below w9.heap.size w9 ((w9.alloc (.cells #[.int .i64 0, .int .u8 0, .int .u8 0, .int .u32 0, .int .u32 0] 34)).alloc (.cells #[.bool false, .bool false] 38)) := (below_alloc _ _).trans ((below_alloc _ _).mono (by simp))
    have hb39 := bthen (bthen hb3x hb9) hb9F
    have hb09 := bthen (bthen hb0x hb9) hb9F
    have xr9 := Lib.hid (x3.out.rd.below hb39 (Nat.le_refl _))
    have hgw9 : g < w9.heap.size := by have := hb3x.size; have := hb9.size; omega
    have hs9 := hb9.size
    have hs3x := hb3x.size
    have hs03 := hb03.size
    clear x hb9 hb0x
    go_wp2_with (at_builtin; refine append_src rfl _ _ 40 rfl w9.heap.size 77 j0 (.int .u8 0) 1 Try.underlying40 hj0 hy0 hy1 hy2 rfl _ _ _ rfl (World.ownsRow_nil _ _ _ _) (some ⟨g, 0, none⟩) 114 114 (nums .u8 SL 114) rfl (fun e => by simp at e) (nums_len _ _ _) (nums_news xr9.out) (nums_one _ _ _) (by omega) (by omega) (by simp; omega) ?_)
    intro v10 w10 hown10 hg10 _
    have hb10 : Below w9.heap.size ((w9.alloc (.cells #[.int .i64 0, .int .u8 0, .int .u8 0, .int .u32 0, .int .u32 0] 34)).alloc (.cells #[.bool false, .bool false] 38)) w10 := Below.grown (Below.refl _ _) hg10 (by simp; omega) (by simp [Value.ownBlock])
    try simp only [Nat.zero_add, List.nil_append] at hown10
    replace hown10 := Lib.hid hown10
    have hb910 := hb9F.trans hb10
    have hsz10 := hb910.size
    have hb310 : Below w3.heap.size w3 w10 := hb39.trans (hb10.mono (by have := hb3x.size; omega))
    have hb010 : Below w.heap.size w w10 := hb09.trans (hb10.mono (by have := hb03.size; have := hb3x.size; omega))
    clear hg10 hb10 xr9
    go_wp2_with (at_builtin; refine append_one rfl _ _ 40 rfl w9.heap.size 77 j0 (.int .u8 0) 1 Try.underlying40 hj0 hy0 hy1 hy2 rfl _ _ _ rfl hown10.out _ rfl rfl (by omega) (by omega) hsz10 ?_)
    intro g11 c11 w11 hown11 hg11 hb11
    have hnew : nums .u8 SL 114 ++ [Value.int .u8 1] = nums .u8 (fun j => if j < 114 then SL j else 1) 115 := by
      have e1 : nums .u8 SL 114 = nums .u8 (fun j => if j < 114 then SL j else 1) 114 := nums_congr fun j hj => by simp only [hj, if_true]
      rw [e1, show (115 : Nat) = 114 + 1 from rfl, nums_succ .u8 (fun j => if j < 114 then SL j else 1) 114]
      rfl
    rw [hnew] at hown11
    obtain ⟨a11, cc11, e11, q1, q2, q3, m11⟩ := own_mine (n := 115) hown11
    simp only [Value.slice.injEq] at e11
    obtain ⟨rfl, _, rfl⟩ := e11
    have hb311 : Below w3.heap.size w3 w11 := hb310.trans (hb11.mono (by have := hb3x.size; omega))
    have hb011 : Below w.heap.size w w11 := hb010.trans (hb11.mono (by have := hb03.size; have := hb3x.size; omega))
    replace m11 := Lib.hid m11
    clear hown11 hg11 hb11 hown10 hnew hb910 hb310 hb010
    go_wp2_with fail
    refine (R2.out w11 (some ⟨g11, 0, none⟩) 115 c11 _ m11.out.rd ⟨q1, q2, q3⟩ (by omega) (by simp [readOk])).mono ?_
    rintro e w12 ⟨rfl, hb12⟩
    have hbF : Below w12.heap.size w12 ((w12.alloc (.cells #[.int .i64 0, .int .u8 0, .int .u8 0, .int .u32 0, .int .u32 0] 34)).alloc (.cells #[.bool false, .bool false] 38)) := (below_alloc _ _).trans ((below_alloc _ _).mono (by simp))
    go_upto_region 17 with fail
    generalize (w12.alloc (.cells #[.int .i64 0, .int .u8 0, .int .u8 0, .int .u32 0, .int .u32 0] 34)).alloc (.cells #[.bool false, .bool false] 38) = w13 at *
    have hb313 := bthen (bthen hb311 hb12) hbF
    have hb013 := bthen (bthen hb011 hb12) hbF
    have m13 := Lib.hid (x3.out.below hb313 (Nat.le_refl _))
    have hZ13 := hZ3'.out.below hb313 hZ3'.out.lt
    obtain ⟨g', hg', _, _, hcell, hfree⟩ := m13.out.some (by omega)
    simp only [Option.some.injEq, Addr.mk.injEq, and_true] at hg'
    subst hg'
    have s0 := hcell Q hQ2
    have f0 := hfree Q
    have hQ3 : (Q : Int) < 114 := by omega
    obtain ⟨⟨z00, z01⟩, _⟩ := tl_cells hZ13
    have m14 := m13.out.set Q hQ2 0 (fun j => if j = Q then 0 else SL j) (fun j _ => rfl)
    have hro : readOk (fun j => if j = Q then 0 else SL j) 114 = false := by
      have : wholeL (fun j => if j = Q then 0 else SL j) 114 = false := by
        cases hw : wholeL (fun j => if j = Q then 0 else SL j) 114 with
        | false => rfl
        | true =>
          have := wholeL_iff.1 hw Q hQ2
          simp at this
      simp [readOk, this]
    have hb014 : Below w.heap.size w (w13.setCell ⟨g, Q, none⟩ (.int .u8 0)) := hb013.setCell (p := ⟨g, Q, none⟩) hgw _
    replace m14 := Lib.hid m14
    clear hcell hfree hb12 hbF m11 m13 hZ13 hb013 hb313 hb311 hb011 q1 q2 q3
    go_wp2_with fail
    refine (R2.out _ (some ⟨g, 0, none⟩) 114 114 _ m14.out.rd ⟨by omega, by omega, fun e => by simp at e⟩ (by omega) hro).mono ?_
    rintro e w15 ⟨rfl, hb15⟩
    have hb015 := bthen hb014 hb15
    clear hb014 hb15 m14 hro s0 f0 z00 z01 R2
    go_wp2_with fail
    refine (lives05 _).mono ?_
    rintro e wy ⟨rfl, hbL⟩
    have hbE := bthen (bthen hb015 ((below_alloc w15 (.cells #[.int .i64 0, .int .u8 0, .int .u8 0, .int .u32 0, .int .u32 0] 34)).trans ((below_alloc _ (.cells #[.bool false, .bool false] 38)).mono (by simp)))) hbL
    go_wp2_with fail
    go_ret
    exact ⟨rfl, hbE⟩
end Go.Proofs.Ytlhiamgaobbdnaa
