/- The document's noise. -/
import Derived.Test.YtmdohnbhogfopaaZDocEH
namespace Go.Proofs.Ytmdohnbhogfopaa
open Go.RowKit Go.Maps
set_option linter.unusedSimpArgs false
set_option linter.unusedVariables false
set_option maxRecDepth 100000
theorem num_zero (sd t l : Int) : numI sd t l 0 = mixI (baseI sd t l) := by
  have e : u64 (baseI sd t l + u64 (101 * u64 0)) = baseI sd t l := by
    have h0 : u64 (101 * u64 0) = 0 := by unfold u64; rw [IntKind.wrap_u64, IntKind.wrap_u64]; rfl
    rw [h0, Int.add_zero]
    unfold baseI u64
    rw [IntKind.wrap_u64, IntKind.wrap_u64]
    omega
  unfold numI
  rw [e]
def InvND (B : Nat) (w : World) (s0 : Int) (wv : Value) (b3 : Nat) (s : Int) (RN : List RowC) (pd : Nat) (bs : Int) (m : Nat) (k : Nat) (a : Act) (wr : World) : Prop :=
  ∃ i v tvs, i + k = m ∧ Hid (NoisD B w s0 wv b3 s RN i v tvs wr) ∧ a.tmps.size = 103 ∧ a.defers = [] ∧ slot a 0 = .pointer (some ⟨pd, 0, none⟩) ∧ slot a 2 = .int .u64 bs ∧ slot a 4 = .pointer (some ⟨w.heap.size, 0, none⟩) ∧ slot a 6 = .pointer (some ⟨w.heap.size + 1, 0, none⟩) ∧ slot a 8 = .pointer (some ⟨b3, 0, none⟩) ∧ slot a 9 = .int .i64 i
def InvArr (B : Nat) (w : World) (s0 : Int) (wv : Value) (b3 : Nat) (s : Int) (RN : List RowC) (pd : Nat) (bs : Int) (i : Nat) (v : Value) (tvs : List Value) (bA : Nat) (f : Nat → Int) (k : Nat) (a : Act) (wr : World) : Prop :=
  ∃ q, q + k = 8 ∧ Hid (NoisD B w s0 wv b3 s RN i v tvs wr) ∧ Hid (Blk wr bA (arrN f q) 212) ∧ a.tmps.size = 103 ∧ a.defers = [] ∧ slot a 0 = .pointer (some ⟨pd, 0, none⟩) ∧ slot a 2 = .int .u64 bs ∧ slot a 4 = .pointer (some ⟨w.heap.size, 0, none⟩) ∧ slot a 6 = .pointer (some ⟨w.heap.size + 1, 0, none⟩) ∧ slot a 8 = .pointer (some ⟨b3, 0, none⟩) ∧ slot a 9 = .int .i64 i ∧ slot a 10 = .pointer (some ⟨bA, 0, none⟩) ∧ slot a 11 = .int .i64 (q + 1)
set_option maxHeartbeats 16000000 in
theorem noiseD {B0 : Nat} {w : World} {pd : Nat} {F : FaultC} {Ld : List ToldC} {av : Value} (h : DocIs B0 w pd F Ld av) (hF : FaultOk F) (sd t l : Int) (s0 : Int) (wv : Value) (R : List RowC) (hw : WordAt 0 w wv R) (hk : ∀ r ∈ R, RowOk r) (hn : R.length ≤ 1000000) (ht : ∀ r ∈ R, r.tab.length ≤ 1000000) :
    Calls Try.prog 82 #[.pointer (some ⟨pd, 0, none⟩), .agg #[.int .u8 s0, wv], .int .u64 (baseI sd t l)] w fun e w' => ∃ v', e = .returned (.agg #[.int .u8 (noiseC sd t l F.m R).s, v']) ∧ OwnWord 167 204 w.heap.size w' v' (noiseC sd t l F.m R).R ∧ Below w.heap.size w w' := by
  obtain ⟨i0, z0, hi, hz0, hz1, hz2, hz3, hz4⟩ := rowInfo2
  obtain ⟨d0, hd0, hd1⟩ := rowRow2
  have hbn := built_none hi hz0 Try.underlying167 (places := [(0, 1), (1, 55), (56, 1)]) (by kernel_rfl)
  obtain ⟨sv, hkb, -⟩ := h.blk
  have hm := hF.m
  have cpd : Hid (∀ W, Below w.heap.size w W → W.cell? ⟨pd, 0, none⟩ = some (.int .i64 F.m) ∧ pd < W.heap.size) := fun W hW => ⟨(hkb.below hW hkb.lt).cell (i := 0) rfl, Nat.lt_of_lt_of_le hkb.lt hW.size⟩
  obtain ⟨wa, wn, wc, rfl, hwn⟩ : ∃ a n c, wv = .slice a n c ∧ n = R.length := by
    obtain ⟨a, n, c, h1, rfl, _⟩ := hw.len
    exact ⟨a, n, c, rfl, h1⟩
  have r0 := numI_range sd t l 0
  have hMx := Lib.hid (fun W => mixR2 W (baseI sd t l))
  rw [← num_zero] at hMx
  have hnc : Hid (noiseC sd t l F.m R = ⟨symN (numI sd t l 0 % 4), (List.range F.m).map (noiseRow sd t l R)⟩) := rfl
  have hRN : Hid (∀ i, i < F.m → ((List.range F.m).map (noiseRow sd t l R))[i]? = some (noiseRow sd t l R i)) := fun i hi => by simp [hi]
  have hlenN : ((List.range F.m).map (noiseRow sd t l R)).length = F.m := by simp
  have hnum : Hid (∀ n : Int, mixI (IntKind.u64.wrap (baseI sd t l + IntKind.u64.wrap (101 * IntKind.u64.wrap n))) = numI sd t l n) := fun n => by simp only [numI, u64]
  generalize (List.range F.m).map (noiseRow sd t l R) = RN at *
  generalize F.m = m at *
  generalize numI sd t l 0 = N0 at *
  obtain ⟨Xn, hXn⟩ : ∃ n : Nat, (n : Int) = N0 % 4 := ⟨(N0 % 4).toNat, by omega⟩
  have hX : 0 ≤ (Xn : Int) ∧ (Xn : Int) < 4 := by omega
  have eX : Int.tmod N0 4 = (Xn : Int) := by rw [Int.tmod_eq_emod_of_nonneg r0.1, hXn]
  have eX2 : IntKind.u64.wrap (Xn : Int) = (Xn : Int) := by rw [IntKind.wrap_u64]; omega
  rw [← hXn] at hnc
  generalize hbs : baseI sd t l = bs at *
  replace hbs := Lib.hid hbs
  replace hw := Lib.hid hw
  replace hk := Lib.hid hk
  replace ht := Lib.hid ht
  replace hwn := Lib.hid hwn
  clear hkb h hF r0 hXn
  go_enter Try.func82, Try.ntmps82
  go_wp2_with fail
  refine (hMx.out _).mono ?_
  rintro e _ ⟨rfl, rfl⟩
  have hb2 : Below w.heap.size w (((w.alloc (.cells #[.int .u8 s0, .slice wa wn wc] 77)).alloc (.cells #[.int .u8 0, .slice none 0 0] 77)).alloc (.cells #[.int .u8 0, .int .u8 1, .int .u8 2, .int .u8 2] 35)) := (blk_alloc2 _ _).trans ((below_alloc _ _).mono (by simp; omega))
  have kx : Blk (((w.alloc (.cells #[.int .u8 s0, .slice wa wn wc] 77)).alloc (.cells #[.int .u8 0, .slice none 0 0] 77)).alloc (.cells #[.int .u8 0, .int .u8 1, .int .u8 2, .int .u8 2] 35)) w.heap.size #[.int .u8 s0, .slice wa wn wc] 77 := ((Blk.new _ _ _).alloc _).alloc _
  have kr : Blk (((w.alloc (.cells #[.int .u8 s0, .slice wa wn wc] 77)).alloc (.cells #[.int .u8 0, .slice none 0 0] 77)).alloc (.cells #[.int .u8 0, .int .u8 1, .int .u8 2, .int .u8 2] 35)) (w.heap.size + 1) #[.int .u8 0, .slice none 0 0] 77 := by
    refine Blk.alloc ?_ _
    have := Blk.new (w.alloc (.cells #[.int .u8 s0, .slice wa wn wc] 77)) #[.int .u8 0, .slice none 0 0] 77
    simpa using this
  have ks : Blk (((w.alloc (.cells #[.int .u8 s0, .slice wa wn wc] 77)).alloc (.cells #[.int .u8 0, .slice none 0 0] 77)).alloc (.cells #[.int .u8 0, .int .u8 1, .int .u8 2, .int .u8 2] 35)) (w.heap.size + 1 + 1) #[.int .u8 0, .int .u8 1, .int .u8 2, .int .u8 2] 35 := by
    have := Blk.new ((w.alloc (.cells #[.int .u8 s0, .slice wa wn wc] 77)).alloc (.cells #[.int .u8 0, .slice none 0 0] 77)) #[.int .u8 0, .int .u8 1, .int .u8 2, .int .u8 2] 35
    simpa using this
  have hsz : (((w.alloc (.cells #[.int .u8 s0, .slice wa wn wc] 77)).alloc (.cells #[.int .u8 0, .slice none 0 0] 77)).alloc (.cells #[.int .u8 0, .int .u8 1, .int .u8 2, .int .u8 2] 35)).heap.size = w.heap.size + 3 := by simp
  generalize ((w.alloc (.cells #[.int .u8 s0, .slice wa wn wc] 77)).alloc (.cells #[.int .u8 0, .slice none 0 0] 77)).alloc (.cells #[.int .u8 0, .int .u8 1, .int .u8 2, .int .u8 2] 35) = w2 at *
  have cX : w2.cell? ⟨w.heap.size + 1 + 1, Xn, none⟩ = some (.int .u8 (symN Xn)) := by
    have h4 : Xn = 0 ∨ Xn = 1 ∨ Xn = 2 ∨ Xn = 3 := by omega
    rcases h4 with rfl | rfl | rfl | rfl
    · exact ks.cell (i := 0) rfl
    · exact ks.cell (i := 1) rfl
    · exact ks.cell (i := 2) rfl
    · exact ks.cell (i := 3) rfl
  have cX' : w2.cell? ⟨w.heap.size + 2, Xn, none⟩ = some (.int .u8 (symN Xn)) := cX
  have lX := ks.lt
  generalize symN Xn = SX at *
  replace kx := Lib.hid kx
  replace kr := Lib.hid kr
  clear ks hMx
  go_upto_region 3 with fail
  have hb3 : Below w.heap.size w (w2.alloc (.cells #[.int .u8 SX, .slice none 0 0] 77)) := hb2.trans ((below_alloc _ _).mono hb2.size)
  have hN0 : Hid (NoisD w.heap.size w s0 (.slice wa wn wc) (w.heap.size + 3) SX RN 0 (.slice none 0 0) [] (w2.alloc (.cells #[.int .u8 SX, .slice none 0 0] 77))) := by
    refine ⟨hb3, ?_, kx.out.alloc _, kr.out.alloc _, by omega, by simpa [rowsFlat] using World.ownsRow_nil _ _ _ _, rfl, by simp⟩
    have := Blk.new w2 #[.int .u8 SX, .slice none 0 0] 77
    rwa [hsz] at this
  clear hb2 hb3 kx kr hsz cX cX' lX eX eX2 hX
  generalize w2.alloc (.cells #[.int .u8 SX, .slice none 0 0] 77) = w3 at *
  generalize hb3e : w.heap.size + 3 = b3 at *
  replace hb3e := Lib.hid hb3e
  go_wp2_with fail
  refine wp_loop_k (InvND w.heap.size w s0 (.slice wa wn wc) b3 SX RN pd bs m) m ?_ ?_
  · exact ⟨0, _, _, by omega, hN0, by kernel_rfl, rfl, by kernel_rfl, by kernel_rfl, by kernel_rfl, by kernel_rfl, by kernel_rfl, by kernel_rfl⟩
  clear hN0
  intro gk a wr hI K hK
  obtain ⟨i, v', tvs, hi0, hN, hs', hd', k0', k2', k4', k6', k8', k9'⟩ := hI
  rw [fr103 a hs' hd']; simp only [k0', k2', k4', k6', k8', k9']; clear hs' hd' k0' k2' k4' k6' k8' k9'
  replace hK := Lib.hid hK
  obtain ⟨cp0, lpd⟩ := cpd.out _ hN.out.bel
  by_cases hil : i < m
  · have g1 : decide ((i : Int) < (m : Int)) = true := by simp; omega
    have g2 : (i : Int) < (m : Int) := by omega
    have g3 : IntKind.i64.wrap ((i : Int) + 1) = ((i + 1 : Nat) : Int) := by rw [wrap_i64_small _ (by omega) (by omega)]; omega
    have g4 : IntKind.i64.wrap (10 * (i : Int)) = 10 * (i : Int) := wrapI _ (by omega) (by omega)
    go_upto_region 7 with fail
    have hN4 : Hid (NoisD w.heap.size w s0 (.slice wa wn wc) b3 SX RN i v' tvs (wr.alloc (.cells (arrN (fun k => numI sd t l (10 * i + k)) 0) 212))) := hN.out.below (below_alloc _ _)
    have kA : Hid (Blk (wr.alloc (.cells (arrN (fun k => numI sd t l (10 * i + k)) 0) 212)) wr.heap.size (arrN (fun k => numI sd t l (10 * i + k)) 0) 212) := Blk.new _ _ _
    have hAb : Hid (w.heap.size ≤ wr.heap.size) := hN.out.bel.size
    rw [arrN_zero] at hN4
    have kA' : Hid (Blk (wr.alloc (.cells #[.int .u64 0, .int .u64 0, .int .u64 0, .int .u64 0, .int .u64 0, .int .u64 0, .int .u64 0, .int .u64 0, .int .u64 0, .int .u64 0, .int .u64 0, .int .u64 0, .int .u64 0, .int .u64 0, .int .u64 0, .int .u64 0] 212)) wr.heap.size (arrN (fun k => numI sd t l (10 * i + k)) 0) 212) := kA
    clear kA hN cp0 lpd
    generalize wr.alloc (.cells #[.int .u64 0, .int .u64 0, .int .u64 0, .int .u64 0, .int .u64 0, .int .u64 0, .int .u64 0, .int .u64 0, .int .u64 0, .int .u64 0, .int .u64 0, .int .u64 0, .int .u64 0, .int .u64 0, .int .u64 0, .int .u64 0] 212) = w4 at *
    generalize wr.heap.size = bA at *
    generalize hf : (fun k : Nat => numI sd t l (10 * (i : Int) + k)) = f at *
    have hfe : Hid (∀ k : Nat, f k = numI sd t l (10 * (i : Int) + k)) := fun k => by rw [← hf]
    clear hf
    go_wp2_with fail
    refine wp_loop_k (InvArr w.heap.size w s0 (.slice wa wn wc) b3 SX RN pd bs i v' tvs bA f) 8 ?_ ?_
    · exact ⟨0, by omega, hN4, kA', by kernel_rfl, rfl, by kernel_rfl, by kernel_rfl, by kernel_rfl, by kernel_rfl, by kernel_rfl, by kernel_rfl, by kernel_rfl, by kernel_rfl⟩
    clear hN4 kA'
    intro gk2 a wr hI K2 hK2
    obtain ⟨q, hq0, hN, kA, hs', hd', k0', k2', k4', k6', k8', k9', k10', k11'⟩ := hI
    rw [fr103 a hs' hd']; simp only [k0', k2', k4', k6', k8', k9', k10', k11']; clear hs' hd' k0' k2' k4' k6' k8' k9' k10' k11'
    replace hK2 := Lib.hid hK2
    by_cases hq : q < 8
    · have y1 : decide ((q : Int) + 1 ≤ 8) = true := by simp; omega
      have y2 : IntKind.i64.wrap (10 * (i : Int) + ((q : Int) + 1)) = 10 * (i : Int) + ((q : Int) + 1) := wrapI _ (by omega) (by omega)
      have y3 : IntKind.i64.wrap ((q : Int) + 1 + 1) = ((q + 1 : Nat) : Int) + 1 := by rw [wrapI _ (by omega) (by omega)]; omega
      have hv : Hid (mixI (IntKind.u64.wrap (bs + 101 * (10 * (i : Int) + ((q : Int) + 1)))) = f (q + 1)) := by
        have h1 := hnum.out (10 * (i : Int) + ((q : Int) + 1))
        have e1 : IntKind.u64.wrap (10 * (i : Int) + ((q : Int) + 1)) = 10 * (i : Int) + ((q : Int) + 1) := by rw [IntKind.wrap_u64]; omega
        have e2 : IntKind.u64.wrap (101 * (10 * (i : Int) + ((q : Int) + 1))) = 101 * (10 * (i : Int) + ((q : Int) + 1)) := by rw [IntKind.wrap_u64]; omega
        rw [e1, e2] at h1
        have h2 := hfe.out (q + 1)
        have e3 : ((q + 1 : Nat) : Int) = (q : Int) + 1 := by omega
        rw [e3] at h2
        exact h1.trans h2.symm
      have c0 : wr.cell? ⟨bA, q + 1, none⟩ = some (.int .u64 (if 1 ≤ q + 1 ∧ q + 1 ≤ q then f (q + 1) else 0)) := kA.out.cell (i := q + 1) (arrN_get f q (q + 1) (by omega))
      have ff := kA.out.free
      have lA := kA.out.lt
      have hidx1 : (0 : Int) ≤ (q : Int) + 1 := by omega
      have hidx2 : (q : Int) + 1 < 16 := by omega
      go_wp2_with fail
      refine (mixR2 _ _).mono ?_
      rintro e _ ⟨rfl, rfl⟩
      rw [hv.out]
      have hN2 : Hid (NoisD w.heap.size w s0 (.slice wa wn wc) b3 SX RN i v' tvs (wr.setCell ⟨bA, q + 1, none⟩ (.int .u64 (f (q + 1))))) := hN.out.other kA.out _ _ hAb.out ⟨by decide, by decide, by decide⟩
      have kA2 : Hid (Blk (wr.setCell ⟨bA, q + 1, none⟩ (.int .u64 (f (q + 1)))) bA (arrN f (q + 1)) 212) := (kA.out.set (q + 1) _).congr (arrN_more f q hq)
      clear hN kA hv
      generalize f (q + 1) = fv at *
      go_wp2_with fail
      exact hK2.out (8 - (q + 1)) _ _ (by omega) ⟨q + 1, by omega, hN2, kA2, by kernel_rfl, rfl, by kernel_rfl, by kernel_rfl, by kernel_rfl, by kernel_rfl, by kernel_rfl, by kernel_rfl, by kernel_rfl, by kernel_rfl⟩
    have y1 : decide ((q : Int) + 1 ≤ 8) = false := by simp; omega
    obtain rfl : q = 8 := by omega
    rw [arrN_eight] at kA
    have hA : ∀ k : Nat, 0 ≤ f k ∧ f k ≤ 18446744073709551615 := fun k => by rw [hfe.out]; exact numI_range sd t l _
    have q1 := hA 1
    have q2 := hA 2
    have q3 := hA 3
    have q4 := hA 4
    have q5 := hA 5
    have q6 := hA 6
    have q7 := hA 7
    have q8 := hA 8
    have n1 : numI sd t l (10 * (i : Int) + 1) = f 1 := (hfe.out 1).symm
    have n2 : numI sd t l (10 * (i : Int) + 1 + 1) = f 2 := by rw [hfe.out 2]; congr 1
    have n3 : numI sd t l (10 * (i : Int) + 1 + 2) = f 3 := by rw [hfe.out 3]; congr 1
    have n4 : numI sd t l (10 * (i : Int) + 1 + 2 + 1) = f 4 := by rw [hfe.out 4]; congr 1
    have n5 : numI sd t l (10 * (i : Int) + 1 + 2 + 2) = f 5 := by rw [hfe.out 5]; congr 1
    have n6 : numI sd t l (10 * (i : Int) + 1 + 2 + 3) = f 6 := by rw [hfe.out 6]; congr 1
    have n7 : numI sd t l (10 * (i : Int) + 1 + 2 + 4) = f 7 := by rw [hfe.out 7]; congr 1
    have n8 : numI sd t l (10 * (i : Int) + 1 + 7) = f 8 := by rw [hfe.out 8]; congr 1
    have hRi := Lib.hid (hRN.out i hil)
    generalize f 1 = A1 at *
    generalize f 2 = A2 at *
    generalize f 3 = A3 at *
    generalize f 4 = A4 at *
    generalize f 5 = A5 at *
    generalize f 6 = A6 at *
    generalize f 7 = A7 at *
    generalize f 8 = A8 at *
    replace n1 := Lib.hid n1
    replace n2 := Lib.hid n2
    replace n3 := Lib.hid n3
    replace n4 := Lib.hid n4
    replace n5 := Lib.hid n5
    replace n6 := Lib.hid n6
    replace n7 := Lib.hid n7
    replace n8 := Lib.hid n8
    have t1 : Int.tmod A1 4 = A1 % 4 := Int.tmod_eq_emod_of_nonneg q1.1
    have t2 : IntKind.u64.wrap (A1 % 4) = A1 % 4 := by rw [IntKind.wrap_u64]; omega
    clear hA hfe hK2
    have hzc : z0.cells = (zeroH ++ [Value.slice none 0 0]).toArray := by rw [← hz4]
    have hz1c : z0.cells.all (·.oneCell') = true := by
      rw [hzc]
      apply all_oneCell_toArray
      intro u hu
      rcases List.mem_append.1 hu with hu | hu
      · exact Fits.one zeroH_ok u hu
      · simp at hu
        subst hu
        rfl
    have hvb : v'.ownBlock ≠ some wr.heap.size := fun e => by
      have := (hN.out.row.lt _ e).2
      omega
    have kn := Lib.hid (Blk.new wr z0.cells 167)
    have hM4 : MidD w.heap.size w s0 (.slice wa wn wc) b3 SX RN i v' tvs wr.heap.size (.slice none 0 0) [] (wr.alloc (.cells z0.cells 167)) z0.cells := ⟨hN.out.below (below_alloc _ _), kn.out, .inl ⟨rfl, rfl⟩, hN.out.bel.size, hvb⟩
    have hM5 := Lib.hid ((hM4.setRow z0.cells).congr hzc)
    have kA4 := kA.out.below (below_alloc wr (.cells z0.cells 167)) kA.out.lt
    have hne0 : bA ≠ wr.heap.size := kA4.ne kn.out (by decide)
    have kA5 := Lib.hid (kA4.setRowNe z0.cells hne0)
    replace hne0 := Lib.hid hne0
    go_upto_region 12 with (first | refine wpList_val rfl (ex_build 167 #[] rfl [] rfl z0.cells hbn) ?_ | refine wpList_val rfl (ex_alloc 167 rfl i0 z0 hi hz0) ?_ | refine wpList_skp rfl (ex_store_row 167 (.tmp 12) (.tmp 44) rfl wr.heap.size z0.cells rfl rfl 167 z0.cells kn.out (by rw [rowSize2, hz3]) rfl hz1c) ?_ | fail)
    clear hN kA hM4 kA4 kn hvb
    generalize wr.heap.size = b6 at *
    generalize (wr.alloc (.cells z0.cells 167)).setRow b6 z0.cells = w5 at *
    generalize z0.cells = ZC0
    have z1 := kA5.out.cell (i := 1) rfl
    have lA := kA5.out.lt
    have hcase : (A1 % 4 = 0) ∨ (¬ A1 % 4 = 0 ∧ i < R.length) ∨ (¬ A1 % 4 = 0 ∧ ¬ i < R.length) := by omega
    rcases hcase with cz1 | ⟨cz1, cz2⟩ | ⟨cz1, cz2⟩
    · have y2 : (A1 % 4 != 0) = false := by simp [cz1]
      have hr : noiseRow sd t l R i = ⟨zeroH, []⟩ := by
        unfold noiseRow
        rw [n1.out, if_pos cz1]
      have hYt : Hid (([] : List (List Value)) = (noiseRow sd t l R i).tab) := by rw [hr]; rfl
      have hYe : Hid (zeroH ++ [Value.slice none 0 0] = (noiseRow sd t l R i).hd ++ [.slice none 0 0]) := by rw [hr]; rfl
      have hYo : Hid (HeldOk zeroH) := zeroH_ok
      clear hr cz1
      have hYl : (zeroH ++ [Value.slice none 0 0]).length = 57 := by simp [hYo.out.length]
      have hZo : Hid (∀ u ∈ zeroH ++ [Value.slice none 0 0], u.oneCell' = true) := fun u hu => by
        rcases List.mem_append.1 hu with hu | hu
        · exact Fits.one hYo.out u hu
        · simp at hu
          subst hu
          rfl
      have hM16 := hM5
      clear hM5 hzc
      generalize zeroH ++ [Value.slice none 0 0] = Y at *
      generalize hW : w5 = W16 at *
      clear hW
      generalize htv : Value.slice none 0 0 = tv0 at *
      clear htv
      generalize htab : ([] : List (List Value)) = tab0 at *
      clear htab
      go_upto_region 21 with fail
      have c1 : W16.cell? ⟨b3, 1, none⟩ = some v' := hM16.out.n.post.cell (i := 1) rfl
      have lb3 := hM16.out.n.post.lt
      have lb6 := hM16.out.k.lt
      have hO8 := Lib.hid (hM16.out.n.below (below_alloc W16 (.cells Y.toArray 167)))
      have hT8 := Lib.hid (hM16.out.t.below (below_alloc W16 (.cells Y.toArray 167)) (Nat.le_refl _))
      have kn8 := Lib.hid (Blk.new W16 Y.toArray 167)
      have hs8 := hO8.out.bel.size
      go_wp2_with (first | refine wpList_val rfl (ex_load_row 167 (.tmp 12) rfl b6 rfl 167 Y.toArray d0 hM16.out.k hd0 hd1 (by rw [rowSize2]; simp [hYl])) ?_ | refine wpList_val rfl (ex_buildSlice1 49 167 (.tmp 98) rfl i0 z0 Y.toArray Try.underlying49 hi hz0 (by rw [hz1]; simpa using hYl) (by omega) (by omega) rfl) ?_ | (at_builtin; refine wpList_append_own _ rfl _ _ 49 rfl w.heap.size 167 i0 z0 57 160 Try.underlying49 hi hz0 hz1 hz2 hz3 (by decide) _ i (rowsFlat (RN.take i) tvs) rfl hO8.out.row ⟨W16.heap.size, 0, none⟩ 1 1 Y rfl (by simpa using hYl) (fun j u hj => by rw [add_head]; exact kn8.out.cell (by simpa using hj)) hZo.out (by unfold maxLen; omega) (by omega) hs8 ?_) | fail)
      intro v1 w9 hown hg _
      obtain ⟨g1', cp1, rfl⟩ : ∃ g c, v1 = .slice (some ⟨g, 0, none⟩) (i + 1) c := by
        rcases hown.2 with ⟨_, h⟩ | ⟨g, c, _, h, _⟩
        · omega
        · exact ⟨g, c, h⟩
      rw [hYe.out] at hown
      obtain ⟨e1, e2, e3, hN9⟩ := hO8.out.append hRi.out (hYt.out ▸ hT8.out) hown hg
      replace hN9 := Lib.hid hN9
      clear hown hg hO8 hT8 kn8 hs8 c1 lb3 lb6 hM16
      go_wp2_with fail
      exact hK.out (m - (i + 1)) _ _ (by omega) ⟨i + 1, _, tvs ++ [tv0], by omega, hN9, by kernel_rfl, rfl, by kernel_rfl, by kernel_rfl, by kernel_rfl, by kernel_rfl, by kernel_rfl, by kernel_rfl⟩
    · have y2 : (A1 % 4 != 0) = true := by simp [cz1]
      obtain ⟨r, hr⟩ : ∃ r, R[i]? = some r := ⟨_, List.getElem?_eq_getElem cz2⟩
      obtain ⟨ad, rfl, tvr, htv, hcs⟩ : ∃ ad, wa = some ad ∧ RowAt 0 w (ad.add (i * 57)) r := by
        rcases hw.out with ⟨h1, h2⟩ | ⟨ad, cap', h1, _, _, _, h2⟩
        · rw [h2] at hr
          simp at hr
        · simp only [Value.slice.injEq] at h1
          exact ⟨ad, h1.1, h2 i r hr⟩
      have hrk := hk.out r (List.mem_of_getElem? hr)
      have hrt := ht.out r (List.mem_of_getElem? hr)
      have hYt : Hid (r.tab = (noiseRow sd t l R i).tab) := by
        show r.tab = (noiseRow sd t l R i).tab
        unfold noiseRow
        rw [n1.out, if_neg cz1, hr]
        rfl
      have hrow : Hid ((noiseRow sd t l R i).hd = noiseH sd t l (10 * (i : Int) + 1) r.hd) := by
        show (noiseRow sd t l R i).hd = noiseH sd t l (10 * (i : Int) + 1) r.hd
        unfold noiseRow
        rw [n1.out, if_neg cz1, hr]
        rfl
      have hk0 : Hid (HeldOk r.hd) := hrk.hd
      have h57 : (r.hd ++ [tvr]).length = 57 := by simp [hrk.hd.length]
      have y3 : decide ((i : Int) < (wn : Int)) = true := by have := hwn.out; simp; omega
      have y4 : (i : Int) < (wn : Int) := by have := hwn.out; omega
      have bx1 : w5.cell? ⟨w.heap.size, 1, none⟩ = some (.slice (some ad) wn wc) := hM5.out.n.box.cell (i := 1) rfl
      have lx := hM5.out.n.box.lt
      have hcs' : Hid (∀ j u, (r.hd ++ [tvr])[j]? = some u → w5.cell? ((ad.add (i * 57)).add j) = some u) := fun j u hj => below_cell (hcs j u hj) hM5.out.n.bel (World.block_lt_of_cell? w _ (hcs j u hj))
      have hC := Lib.hid (copyR2 w5 r tvr (htv.keep (KeepC.of_below hM5.out.n.bel)) hrk (by have := ht.out r (List.mem_of_getElem? hr); omega))
      clear hcs htv hr hrk hrt
      go_wp2_with (first | refine wpList_val rfl (ex_load 167 (.tmp 57) rfl (ad.add (i * 57)) rfl (r.hd ++ [tvr]) d0 hcs'.out hd0 hd1 (by rw [rowSize2, h57])) ?_ | fail)
      refine hC.out.mono ?_
      rintro e w6 ⟨tv0, rfl, hT6, hb6⟩
      have hT6' := hT6.mono hM5.out.n.bel.size
      have hM6 := hM5.out.below hb6
      have kA6 := kA5.out.below hb6 kA5.out.lt
      have k6 := Lib.hid hM6.k
      have h57' : (r.hd ++ [tv0]).length = 57 := by simp [hk0.out.length]
      have hone : (r.hd ++ [tv0]).toArray.all (·.oneCell') = true := by
        apply all_oneCell_toArray
        intro u hu
        rcases List.mem_append.1 hu with hu | hu
        · exact Fits.one hk0.out u hu
        · simp at hu
          subst hu
          obtain ⟨_, _, rfl, _⟩ := hT6'.out
          rfl
      have hM7 : Hid (MidD w.heap.size w s0 (.slice (some ad) wn wc) b3 SX RN i v' tvs b6 tv0 r.tab (w6.setRow b6 (r.hd ++ [tv0]).toArray) (r.hd ++ [tv0]).toArray) := by
        have h1 := hM6.setRow (r.hd ++ [tv0]).toArray
        exact ⟨h1.n, h1.k, hT6'.blk fun g2 c2 _ hg2 => hg2.setRowNe _ (hg2.ne hM6.k (by decide)), h1.ge, h1.ne⟩
      have kA7 := Lib.hid (kA6.setRowNe (r.hd ++ [tv0]).toArray hne0.out)
      have hz57 : (zeroH ++ [Value.slice none 0 0]).toArray.size = 57 := by simp [zeroH_ok.length]
      clear hT6 hT6' hM5 hM6 kA5 kA6 hb6 hC hcs' bx1 lx y3 y4 z1 lA
      generalize (zeroH ++ [Value.slice none 0 0]).toArray = ZA at *
      generalize r.tab = tab0 at *
      generalize r.hd = h0 at *
      generalize hLL : h0 ++ [tv0] = LL at *
      go_upto_region 15 with (first | refine wpList_skp rfl (ex_store_row 167 (.tmp 12) (.tmp 59) rfl b6 LL.toArray rfl rfl 167 ZA k6.out (by rw [rowSize2]; simp [h57']) (by rw [hz57]; simp [h57']) hone) ?_ | fail)
      clear k6 hone
      generalize w6.setRow b6 LL.toArray = W6 at *
      rw [← hLL] at hM7
      have hM6 := hM7
      have kA6 := kA7
      clear hM7 kA7 hLL h57'
      obtain ⟨bb, x, o0, o1, o2, o3, o4, o5, p0, p1, p2, p3, p4, p5, V, md, hpt, hV, hdr, hg1⟩ := hk0.out.parts
      have hrow2 : Hid ((noiseRow sd t l R i).hd ++ [tv0] = Value.bool true :: .int .i64 (IntKind.i64.wrap (x + (A2 % 16 - 8))) :: ([.bool (A3 % 2 == 1), .int .i64 (A4 % 16), .int .u8 (1 + A5 % 2), .int .u8 0, .int .u32 (A6 % 64), .int .u32 (A7 % 64)] ++ ([.bool (A3 % 2 == 1), .int .i64 (A4 % 16 + 1), .int .u8 (1 + A5 % 2), .int .u8 0, .int .u32 (A6 % 64), .int .u32 (A7 % 64)] ++ (V ++ [.int .u8 (A8 % 8), tv0])))) := by
        refine Lib.hid ?_
        rw [hrow.out]
        unfold noiseH mixH saidL
        rw [hdr, hg1, n2.out, n3.out, n4.out, n5.out, n6.out, n7.out, n8.out]
        simp [ageV]
      have hM6' : Hid (MidD w.heap.size w s0 (.slice (some ad) wn wc) b3 SX RN i v' tvs b6 tv0 tab0 W6 (Value.bool bb :: .int .i64 x :: o0 :: o1 :: o2 :: o3 :: o4 :: o5 :: p0 :: p1 :: p2 :: p3 :: p4 :: p5 :: (V ++ [md, tv0])).toArray) := hM6.out.congr (by rw [hpt]; simp)
      rw [← wrap_two] at hrow2
      have e2 : Int.tmod A2 16 = A2 % 16 := Int.tmod_eq_emod_of_nonneg q2.1
      have e8 : Int.tmod A8 8 = A8 % 8 := Int.tmod_eq_emod_of_nonneg q8.1
      have u2 : IntKind.u64.wrap (A2 % 16) = A2 % 16 := by rw [IntKind.wrap_u64]; omega
      have v2 : IntKind.i64.wrap (A2 % 16) = A2 % 16 := wrapI _ (by omega) (by omega)
      have u8' : IntKind.u64.wrap (A8 % 8) = A8 % 8 := by rw [IntKind.wrap_u64]; omega
      have v8 : IntKind.u8.wrap (A8 % 8) = A8 % 8 := by rw [IntKind.wrap_u8]; omega
      have v4 : IntKind.i64.wrap (A4 % 16 + 1) = A4 % 16 + 1 := wrapI _ (by omega) (by omega)
      clear hM6 hpt hdr hg1 hrow hk0 cz1 cz2
      generalize hX8 : IntKind.i64.wrap (x - 8) = X8 at *
      generalize hAG : IntKind.i64.wrap (X8 + A2 % 16) = AG at *
      have f6 := hM6'.out.k.free
      have l6 := hM6'.out.k.lt
      have hM6 := hM6'
      clear hM6'
      have y0 : W6.cell? ⟨b6, 0, none⟩ = some (.bool bb) := hM6.out.cell (j := 0) (by simp)
      go_upto_region 16 with fail
      have hM7 := Lib.hid ((hM6.out.set 0 (.bool true)).congr (c' := (Value.bool true :: .int .i64 x :: o0 :: o1 :: o2 :: o3 :: o4 :: o5 :: p0 :: p1 :: p2 :: p3 :: p4 :: p5 :: (V ++ [md, tv0])).toArray) (by simp))
      have kA7 := Lib.hid (kA6.out.setNe (a := ⟨b6, 0, none⟩) hne0.out (.bool true))
      clear hM6 kA6 f6 l6
      generalize (W6.setCell ⟨b6, 0, none⟩ (.bool true)) = W7 at *
      have f7 := hM7.out.k.free
      have l7 := hM7.out.k.lt
      have la7 := kA7.out.lt
      clear y0
      have y1 : W7.cell? ⟨b6, 1, none⟩ = some (.int .i64 x) := hM7.out.cell (j := 1) (by simp)
      have z2 := kA7.out.cell (i := 2) rfl
      go_upto_region 17 with fail
      have hM8 := Lib.hid ((hM7.out.set 1 (.int .i64 AG)).congr (c' := (Value.bool true :: .int .i64 AG :: o0 :: o1 :: o2 :: o3 :: o4 :: o5 :: p0 :: p1 :: p2 :: p3 :: p4 :: p5 :: (V ++ [md, tv0])).toArray) (by simp))
      have kA8 := Lib.hid (kA7.out.setNe (a := ⟨b6, 1, none⟩) hne0.out (.int .i64 AG))
      clear hM7 kA7 f7 l7
      generalize (W7.setCell ⟨b6, 1, none⟩ (.int .i64 AG)) = W8 at *
      have f8 := hM8.out.k.free
      have l8 := hM8.out.k.lt
      have la8 := kA8.out.lt
      clear y1
      clear z2
      have z0 := kA8.out.cell (i := 0) rfl
      have z1 := kA8.out.cell (i := 1) rfl
      have z2 := kA8.out.cell (i := 2) rfl
      have z3 := kA8.out.cell (i := 3) rfl
      have z4 := kA8.out.cell (i := 4) rfl
      have z5 := kA8.out.cell (i := 5) rfl
      have z6 := kA8.out.cell (i := 6) rfl
      have z7 := kA8.out.cell (i := 7) rfl
      have z8 := kA8.out.cell (i := 8) rfl
      have z9 := kA8.out.cell (i := 9) rfl
      have z10 := kA8.out.cell (i := 10) rfl
      have z11 := kA8.out.cell (i := 11) rfl
      have z12 := kA8.out.cell (i := 12) rfl
      have z13 := kA8.out.cell (i := 13) rfl
      have z14 := kA8.out.cell (i := 14) rfl
      have z15 := kA8.out.cell (i := 15) rfl
      have hSd := Lib.hid (saidD W8 A1 A2 A3 A4 A5 A6 A7 A8 q3 q4 q5 q6 q7)
      go_wp2_with fail
      refine hSd.out.mono ?_
      rintro e W10 ⟨rfl, hb10⟩
      have hM10 := Lib.hid (hM8.out.below hb10)
      have kA10 := Lib.hid (kA8.out.below hb10 kA8.out.lt)
      clear hM8 kA8 f8 l8 la8 hb10 hSd
      clear z0 z1 z2 z3 z4 z5 z6 z7 z8 z9 z10 z11 z12 z13 z14 z15
      have f10 := hM10.out.k.free
      have l10 := hM10.out.k.lt
      have y2 : W10.cell? ⟨b6, 2, none⟩ = some (o0) := hM10.out.cell (j := 2) (by simp)
      have y3 : W10.cell? ⟨b6, 3, none⟩ = some (o1) := hM10.out.cell (j := 3) (by simp)
      have y4 : W10.cell? ⟨b6, 4, none⟩ = some (o2) := hM10.out.cell (j := 4) (by simp)
      have y5 : W10.cell? ⟨b6, 5, none⟩ = some (o3) := hM10.out.cell (j := 5) (by simp)
      have y6 : W10.cell? ⟨b6, 6, none⟩ = some (o4) := hM10.out.cell (j := 6) (by simp)
      have y7 : W10.cell? ⟨b6, 7, none⟩ = some (o5) := hM10.out.cell (j := 7) (by simp)
      go_upto_region 18 with fail
      have hM11 := Lib.hid (((((((hM10.out.set 2 (.bool (A3 % 2 == 1))).set 3 (.int .i64 (A4 % 16))).set 4 (.int .u8 (1 + A5 % 2))).set 5 (.int .u8 0)).set 6 (.int .u32 (A6 % 64))).set 7 (.int .u32 (A7 % 64))).congr (c' := (Value.bool true :: .int .i64 AG :: .bool (A3 % 2 == 1) :: .int .i64 (A4 % 16) :: .int .u8 (1 + A5 % 2) :: .int .u8 0 :: .int .u32 (A6 % 64) :: .int .u32 (A7 % 64) :: p0 :: p1 :: p2 :: p3 :: p4 :: p5 :: (V ++ [md, tv0])).toArray) (by simp))
      have kA11 := Lib.hid ((((((kA10.out.setNe (a := ⟨b6, 2, none⟩) hne0.out (.bool (A3 % 2 == 1))).setNe (a := ⟨b6, 3, none⟩) hne0.out (.int .i64 (A4 % 16))).setNe (a := ⟨b6, 4, none⟩) hne0.out (.int .u8 (1 + A5 % 2))).setNe (a := ⟨b6, 5, none⟩) hne0.out (.int .u8 0)).setNe (a := ⟨b6, 6, none⟩) hne0.out (.int .u32 (A6 % 64))).setNe (a := ⟨b6, 7, none⟩) hne0.out (.int .u32 (A7 % 64)))
      clear hM10 kA10 f10 l10
      generalize ((((((W10.setCell ⟨b6, 2, none⟩ (.bool (A3 % 2 == 1))).setCell ⟨b6, 3, none⟩ (.int .i64 (A4 % 16))).setCell ⟨b6, 4, none⟩ (.int .u8 (1 + A5 % 2))).setCell ⟨b6, 5, none⟩ (.int .u8 0)).setCell ⟨b6, 6, none⟩ (.int .u32 (A6 % 64))).setCell ⟨b6, 7, none⟩ (.int .u32 (A7 % 64))) = W11 at *
      have f11 := hM11.out.k.free
      have l11 := hM11.out.k.lt
      have la11 := kA11.out.lt
      clear y2 y3 y4 y5 y6 y7
      have y2 : W11.cell? ⟨b6, 2, none⟩ = some (.bool (A3 % 2 == 1)) := hM11.out.cell (j := 2) (by simp)
      have y3 : W11.cell? ⟨b6, 3, none⟩ = some (.int .i64 (A4 % 16)) := hM11.out.cell (j := 3) (by simp)
      have y4 : W11.cell? ⟨b6, 4, none⟩ = some (.int .u8 (1 + A5 % 2)) := hM11.out.cell (j := 4) (by simp)
      have y5 : W11.cell? ⟨b6, 5, none⟩ = some (.int .u8 0) := hM11.out.cell (j := 5) (by simp)
      have y6 : W11.cell? ⟨b6, 6, none⟩ = some (.int .u32 (A6 % 64)) := hM11.out.cell (j := 6) (by simp)
      have y7 : W11.cell? ⟨b6, 7, none⟩ = some (.int .u32 (A7 % 64)) := hM11.out.cell (j := 7) (by simp)
      have y8 : W11.cell? ⟨b6, 8, none⟩ = some (p0) := hM11.out.cell (j := 8) (by simp)
      have y9 : W11.cell? ⟨b6, 9, none⟩ = some (p1) := hM11.out.cell (j := 9) (by simp)
      have y10 : W11.cell? ⟨b6, 10, none⟩ = some (p2) := hM11.out.cell (j := 10) (by simp)
      have y11 : W11.cell? ⟨b6, 11, none⟩ = some (p3) := hM11.out.cell (j := 11) (by simp)
      have y12 : W11.cell? ⟨b6, 12, none⟩ = some (p4) := hM11.out.cell (j := 12) (by simp)
      have y13 : W11.cell? ⟨b6, 13, none⟩ = some (p5) := hM11.out.cell (j := 13) (by simp)
      go_upto_region 19 with fail
      have hM12 := Lib.hid (((((((hM11.out.set 8 (.bool (A3 % 2 == 1))).set 9 (.int .i64 (A4 % 16))).set 10 (.int .u8 (1 + A5 % 2))).set 11 (.int .u8 0)).set 12 (.int .u32 (A6 % 64))).set 13 (.int .u32 (A7 % 64))).congr (c' := (Value.bool true :: .int .i64 AG :: .bool (A3 % 2 == 1) :: .int .i64 (A4 % 16) :: .int .u8 (1 + A5 % 2) :: .int .u8 0 :: .int .u32 (A6 % 64) :: .int .u32 (A7 % 64) :: .bool (A3 % 2 == 1) :: .int .i64 (A4 % 16) :: .int .u8 (1 + A5 % 2) :: .int .u8 0 :: .int .u32 (A6 % 64) :: .int .u32 (A7 % 64) :: (V ++ [md, tv0])).toArray) (by simp))
      have kA12 := Lib.hid ((((((kA11.out.setNe (a := ⟨b6, 8, none⟩) hne0.out (.bool (A3 % 2 == 1))).setNe (a := ⟨b6, 9, none⟩) hne0.out (.int .i64 (A4 % 16))).setNe (a := ⟨b6, 10, none⟩) hne0.out (.int .u8 (1 + A5 % 2))).setNe (a := ⟨b6, 11, none⟩) hne0.out (.int .u8 0)).setNe (a := ⟨b6, 12, none⟩) hne0.out (.int .u32 (A6 % 64))).setNe (a := ⟨b6, 13, none⟩) hne0.out (.int .u32 (A7 % 64)))
      clear hM11 kA11 f11 l11
      generalize ((((((W11.setCell ⟨b6, 8, none⟩ (.bool (A3 % 2 == 1))).setCell ⟨b6, 9, none⟩ (.int .i64 (A4 % 16))).setCell ⟨b6, 10, none⟩ (.int .u8 (1 + A5 % 2))).setCell ⟨b6, 11, none⟩ (.int .u8 0)).setCell ⟨b6, 12, none⟩ (.int .u32 (A6 % 64))).setCell ⟨b6, 13, none⟩ (.int .u32 (A7 % 64))) = W12 at *
      have f12 := hM12.out.k.free
      have l12 := hM12.out.k.lt
      have la12 := kA12.out.lt
      clear y2 y3 y4 y5 y6 y7 y8 y9 y10 y11 y12 y13
      have y3 : W12.cell? ⟨b6, 3, none⟩ = some (.int .i64 (A4 % 16)) := hM12.out.cell (j := 3) (by simp)
      have y9 : W12.cell? ⟨b6, 9, none⟩ = some (.int .i64 (A4 % 16)) := hM12.out.cell (j := 9) (by simp)
      go_upto_region 20 with fail
      have hM14 := Lib.hid ((hM12.out.set 9 (.int .i64 (A4 % 16 + 1))).congr (c' := (Value.bool true :: .int .i64 AG :: .bool (A3 % 2 == 1) :: .int .i64 (A4 % 16) :: .int .u8 (1 + A5 % 2) :: .int .u8 0 :: .int .u32 (A6 % 64) :: .int .u32 (A7 % 64) :: .bool (A3 % 2 == 1) :: .int .i64 (A4 % 16 + 1) :: .int .u8 (1 + A5 % 2) :: .int .u8 0 :: .int .u32 (A6 % 64) :: .int .u32 (A7 % 64) :: (V ++ [md, tv0])).toArray) (by simp))
      have kA14 := Lib.hid (kA12.out.setNe (a := ⟨b6, 9, none⟩) hne0.out (.int .i64 (A4 % 16 + 1)))
      clear hM12 kA12 f12 l12
      generalize (W12.setCell ⟨b6, 9, none⟩ (.int .i64 (A4 % 16 + 1))) = W14 at *
      have f14 := hM14.out.k.free
      have l14 := hM14.out.k.lt
      have la14 := kA14.out.lt
      clear y3 y9
      have y55 : W14.cell? ⟨b6, 55, none⟩ = some (md) := hM14.out.cell (j := 55) (by simp [hV])
      have z8 := kA14.out.cell (i := 8) rfl
      go_upto_region 21 with fail
      have hM16 := Lib.hid ((hM14.out.set 55 (.int .u8 (A8 % 8))).congr (c' := (Value.bool true :: .int .i64 AG :: .bool (A3 % 2 == 1) :: .int .i64 (A4 % 16) :: .int .u8 (1 + A5 % 2) :: .int .u8 0 :: .int .u32 (A6 % 64) :: .int .u32 (A7 % 64) :: .bool (A3 % 2 == 1) :: .int .i64 (A4 % 16 + 1) :: .int .u8 (1 + A5 % 2) :: .int .u8 0 :: .int .u32 (A6 % 64) :: .int .u32 (A7 % 64) :: (V ++ [.int .u8 (A8 % 8), tv0])).toArray) (by simp [hV]))
      have kA16 := Lib.hid (kA14.out.setNe (a := ⟨b6, 55, none⟩) hne0.out (.int .u8 (A8 % 8)))
      clear hM14 kA14 f14 l14
      generalize (W14.setCell ⟨b6, 55, none⟩ (.int .u8 (A8 % 8))) = W16 at *
      have f16 := hM16.out.k.free
      have l16 := hM16.out.k.lt
      have la16 := kA16.out.lt
      have hYe0 : (Value.bool true :: .int .i64 AG :: .bool (A3 % 2 == 1) :: .int .i64 (A4 % 16) :: .int .u8 (1 + A5 % 2) :: .int .u8 0 :: .int .u32 (A6 % 64) :: .int .u32 (A7 % 64) :: .bool (A3 % 2 == 1) :: .int .i64 (A4 % 16 + 1) :: .int .u8 (1 + A5 % 2) :: .int .u8 0 :: .int .u32 (A6 % 64) :: .int .u32 (A7 % 64) :: (V ++ [.int .u8 (A8 % 8), tv0])) = (noiseRow sd t l R i).hd ++ [tv0] := by
        rw [hrow2.out]
        rfl
      have hYl0 : ((Value.bool true :: .int .i64 AG :: .bool (A3 % 2 == 1) :: .int .i64 (A4 % 16) :: .int .u8 (1 + A5 % 2) :: .int .u8 0 :: .int .u32 (A6 % 64) :: .int .u32 (A7 % 64) :: .bool (A3 % 2 == 1) :: .int .i64 (A4 % 16 + 1) :: .int .u8 (1 + A5 % 2) :: .int .u8 0 :: .int .u32 (A6 % 64) :: .int .u32 (A7 % 64) :: (V ++ [.int .u8 (A8 % 8), tv0]))).length = 57 := by simp [hV]
      clear y55 z8 f16 l16 la16 hrow2 kA16
      generalize (Value.bool true :: .int .i64 AG :: .bool (A3 % 2 == 1) :: .int .i64 (A4 % 16) :: .int .u8 (1 + A5 % 2) :: .int .u8 0 :: .int .u32 (A6 % 64) :: .int .u32 (A7 % 64) :: .bool (A3 % 2 == 1) :: .int .i64 (A4 % 16 + 1) :: .int .u8 (1 + A5 % 2) :: .int .u8 0 :: .int .u32 (A6 % 64) :: .int .u32 (A7 % 64) :: (V ++ [.int .u8 (A8 % 8), tv0])) = Y at *
      have hYe : Hid (Y = (noiseRow sd t l R i).hd ++ [tv0]) := hYe0
      have hYl := hYl0
      clear hYe0 hYl0
      have hZo : Hid (∀ u ∈ Y, u.oneCell' = true) := fun u hu => by
        rw [hYe.out] at hu
        rcases List.mem_append.1 hu with hu | hu
        · exact Fits.one (noiseRow_ok hk.out sd t l i).hd u hu
        · simp at hu
          subst hu
          obtain ⟨_, _, rfl, _⟩ := hM16.out.t.out
          rfl
      have c1 : W16.cell? ⟨b3, 1, none⟩ = some v' := hM16.out.n.post.cell (i := 1) rfl
      have lb3 := hM16.out.n.post.lt
      have lb6 := hM16.out.k.lt
      have hO8 := Lib.hid (hM16.out.n.below (below_alloc W16 (.cells Y.toArray 167)))
      have hT8 := Lib.hid (hM16.out.t.below (below_alloc W16 (.cells Y.toArray 167)) (Nat.le_refl _))
      have kn8 := Lib.hid (Blk.new W16 Y.toArray 167)
      have hs8 := hO8.out.bel.size
      go_wp2_with (first | refine wpList_val rfl (ex_load_row 167 (.tmp 12) rfl b6 rfl 167 Y.toArray d0 hM16.out.k hd0 hd1 (by rw [rowSize2]; simp [hYl])) ?_ | refine wpList_val rfl (ex_buildSlice1 49 167 (.tmp 98) rfl i0 z0 Y.toArray Try.underlying49 hi hz0 (by rw [hz1]; simpa using hYl) (by omega) (by omega) rfl) ?_ | (at_builtin; refine wpList_append_own _ rfl _ _ 49 rfl w.heap.size 167 i0 z0 57 160 Try.underlying49 hi hz0 hz1 hz2 hz3 (by decide) _ i (rowsFlat (RN.take i) tvs) rfl hO8.out.row ⟨W16.heap.size, 0, none⟩ 1 1 Y rfl (by simpa using hYl) (fun j u hj => by rw [add_head]; exact kn8.out.cell (by simpa using hj)) hZo.out (by unfold maxLen; omega) (by omega) hs8 ?_) | fail)
      intro v1 w9 hown hg _
      obtain ⟨g1', cp1, rfl⟩ : ∃ g c, v1 = .slice (some ⟨g, 0, none⟩) (i + 1) c := by
        rcases hown.2 with ⟨_, h⟩ | ⟨g, c, _, h, _⟩
        · omega
        · exact ⟨g, c, h⟩
      rw [hYe.out] at hown
      obtain ⟨e1, e2, e3, hN9⟩ := hO8.out.append hRi.out (hYt.out ▸ hT8.out) hown hg
      replace hN9 := Lib.hid hN9
      clear hown hg hO8 hT8 kn8 hs8 c1 lb3 lb6 hM16
      go_wp2_with fail
      exact hK.out (m - (i + 1)) _ _ (by omega) ⟨i + 1, _, tvs ++ [tv0], by omega, hN9, by kernel_rfl, rfl, by kernel_rfl, by kernel_rfl, by kernel_rfl, by kernel_rfl, by kernel_rfl, by kernel_rfl⟩
    · have y2 : (A1 % 4 != 0) = true := by simp [cz1]
      have hr : R[i]? = none := by simp; omega
      have hYt : Hid (([] : List (List Value)) = (noiseRow sd t l R i).tab) := by
        show ([] : List (List Value)) = (noiseRow sd t l R i).tab
        unfold noiseRow
        rw [n1.out, if_neg cz1, hr]
        rfl
      have hrow : Hid ((noiseRow sd t l R i).hd = noiseH sd t l (10 * (i : Int) + 1) zeroH) := by
        show (noiseRow sd t l R i).hd = noiseH sd t l (10 * (i : Int) + 1) zeroH
        unfold noiseRow
        rw [n1.out, if_neg cz1, hr]
        rfl
      have hk0 : Hid (HeldOk zeroH) := zeroH_ok
      have y3 : decide ((i : Int) < (wn : Int)) = false := by have := hwn.out; simp; omega
      have y4 : ¬ (i : Int) < (wn : Int) := by have := hwn.out; omega
      have bx1 : w5.cell? ⟨w.heap.size, 1, none⟩ = some (.slice wa wn wc) := hM5.out.n.box.cell (i := 1) rfl
      have lx := hM5.out.n.box.lt
      have hM6 := hM5
      have kA6 := kA5
      clear hM5 kA5 hr hzc
      generalize hh0 : zeroH = h0 at *
      clear hh0
      generalize htv : Value.slice none 0 0 = tv0 at *
      clear htv
      generalize htab : ([] : List (List Value)) = tab0 at *
      clear htab
      go_upto_region 15 with fail
      clear bx1 lx y3 y4 z1 lA
      generalize hW : w5 = W6 at *
      clear hW
      obtain ⟨bb, x, o0, o1, o2, o3, o4, o5, p0, p1, p2, p3, p4, p5, V, md, hpt, hV, hdr, hg1⟩ := hk0.out.parts
      have hrow2 : Hid ((noiseRow sd t l R i).hd ++ [tv0] = Value.bool true :: .int .i64 (IntKind.i64.wrap (x + (A2 % 16 - 8))) :: ([.bool (A3 % 2 == 1), .int .i64 (A4 % 16), .int .u8 (1 + A5 % 2), .int .u8 0, .int .u32 (A6 % 64), .int .u32 (A7 % 64)] ++ ([.bool (A3 % 2 == 1), .int .i64 (A4 % 16 + 1), .int .u8 (1 + A5 % 2), .int .u8 0, .int .u32 (A6 % 64), .int .u32 (A7 % 64)] ++ (V ++ [.int .u8 (A8 % 8), tv0])))) := by
        refine Lib.hid ?_
        rw [hrow.out]
        unfold noiseH mixH saidL
        rw [hdr, hg1, n2.out, n3.out, n4.out, n5.out, n6.out, n7.out, n8.out]
        simp [ageV]
      have hM6' : Hid (MidD w.heap.size w s0 (.slice wa wn wc) b3 SX RN i v' tvs b6 tv0 tab0 W6 (Value.bool bb :: .int .i64 x :: o0 :: o1 :: o2 :: o3 :: o4 :: o5 :: p0 :: p1 :: p2 :: p3 :: p4 :: p5 :: (V ++ [md, tv0])).toArray) := hM6.out.congr (by rw [hpt]; simp)
      rw [← wrap_two] at hrow2
      have e2 : Int.tmod A2 16 = A2 % 16 := Int.tmod_eq_emod_of_nonneg q2.1
      have e8 : Int.tmod A8 8 = A8 % 8 := Int.tmod_eq_emod_of_nonneg q8.1
      have u2 : IntKind.u64.wrap (A2 % 16) = A2 % 16 := by rw [IntKind.wrap_u64]; omega
      have v2 : IntKind.i64.wrap (A2 % 16) = A2 % 16 := wrapI _ (by omega) (by omega)
      have u8' : IntKind.u64.wrap (A8 % 8) = A8 % 8 := by rw [IntKind.wrap_u64]; omega
      have v8 : IntKind.u8.wrap (A8 % 8) = A8 % 8 := by rw [IntKind.wrap_u8]; omega
      have v4 : IntKind.i64.wrap (A4 % 16 + 1) = A4 % 16 + 1 := wrapI _ (by omega) (by omega)
      clear hM6 hpt hdr hg1 hrow hk0 cz1 cz2
      generalize hX8 : IntKind.i64.wrap (x - 8) = X8 at *
      generalize hAG : IntKind.i64.wrap (X8 + A2 % 16) = AG at *
      have f6 := hM6'.out.k.free
      have l6 := hM6'.out.k.lt
      have hM6 := hM6'
      clear hM6'
      have y0 : W6.cell? ⟨b6, 0, none⟩ = some (.bool bb) := hM6.out.cell (j := 0) (by simp)
      go_upto_region 16 with fail
      have hM7 := Lib.hid ((hM6.out.set 0 (.bool true)).congr (c' := (Value.bool true :: .int .i64 x :: o0 :: o1 :: o2 :: o3 :: o4 :: o5 :: p0 :: p1 :: p2 :: p3 :: p4 :: p5 :: (V ++ [md, tv0])).toArray) (by simp))
      have kA7 := Lib.hid (kA6.out.setNe (a := ⟨b6, 0, none⟩) hne0.out (.bool true))
      clear hM6 kA6 f6 l6
      generalize (W6.setCell ⟨b6, 0, none⟩ (.bool true)) = W7 at *
      have f7 := hM7.out.k.free
      have l7 := hM7.out.k.lt
      have la7 := kA7.out.lt
      clear y0
      have y1 : W7.cell? ⟨b6, 1, none⟩ = some (.int .i64 x) := hM7.out.cell (j := 1) (by simp)
      have z2 := kA7.out.cell (i := 2) rfl
      go_upto_region 17 with fail
      have hM8 := Lib.hid ((hM7.out.set 1 (.int .i64 AG)).congr (c' := (Value.bool true :: .int .i64 AG :: o0 :: o1 :: o2 :: o3 :: o4 :: o5 :: p0 :: p1 :: p2 :: p3 :: p4 :: p5 :: (V ++ [md, tv0])).toArray) (by simp))
      have kA8 := Lib.hid (kA7.out.setNe (a := ⟨b6, 1, none⟩) hne0.out (.int .i64 AG))
      clear hM7 kA7 f7 l7
      generalize (W7.setCell ⟨b6, 1, none⟩ (.int .i64 AG)) = W8 at *
      have f8 := hM8.out.k.free
      have l8 := hM8.out.k.lt
      have la8 := kA8.out.lt
      clear y1
      clear z2
      have z0 := kA8.out.cell (i := 0) rfl
      have z1 := kA8.out.cell (i := 1) rfl
      have z2 := kA8.out.cell (i := 2) rfl
      have z3 := kA8.out.cell (i := 3) rfl
      have z4 := kA8.out.cell (i := 4) rfl
      have z5 := kA8.out.cell (i := 5) rfl
      have z6 := kA8.out.cell (i := 6) rfl
      have z7 := kA8.out.cell (i := 7) rfl
      have z8 := kA8.out.cell (i := 8) rfl
      have z9 := kA8.out.cell (i := 9) rfl
      have z10 := kA8.out.cell (i := 10) rfl
      have z11 := kA8.out.cell (i := 11) rfl
      have z12 := kA8.out.cell (i := 12) rfl
      have z13 := kA8.out.cell (i := 13) rfl
      have z14 := kA8.out.cell (i := 14) rfl
      have z15 := kA8.out.cell (i := 15) rfl
      have hSd := Lib.hid (saidD W8 A1 A2 A3 A4 A5 A6 A7 A8 q3 q4 q5 q6 q7)
      go_wp2_with fail
      refine hSd.out.mono ?_
      rintro e W10 ⟨rfl, hb10⟩
      have hM10 := Lib.hid (hM8.out.below hb10)
      have kA10 := Lib.hid (kA8.out.below hb10 kA8.out.lt)
      clear hM8 kA8 f8 l8 la8 hb10 hSd
      clear z0 z1 z2 z3 z4 z5 z6 z7 z8 z9 z10 z11 z12 z13 z14 z15
      have f10 := hM10.out.k.free
      have l10 := hM10.out.k.lt
      have y2 : W10.cell? ⟨b6, 2, none⟩ = some (o0) := hM10.out.cell (j := 2) (by simp)
      have y3 : W10.cell? ⟨b6, 3, none⟩ = some (o1) := hM10.out.cell (j := 3) (by simp)
      have y4 : W10.cell? ⟨b6, 4, none⟩ = some (o2) := hM10.out.cell (j := 4) (by simp)
      have y5 : W10.cell? ⟨b6, 5, none⟩ = some (o3) := hM10.out.cell (j := 5) (by simp)
      have y6 : W10.cell? ⟨b6, 6, none⟩ = some (o4) := hM10.out.cell (j := 6) (by simp)
      have y7 : W10.cell? ⟨b6, 7, none⟩ = some (o5) := hM10.out.cell (j := 7) (by simp)
      go_upto_region 18 with fail
      have hM11 := Lib.hid (((((((hM10.out.set 2 (.bool (A3 % 2 == 1))).set 3 (.int .i64 (A4 % 16))).set 4 (.int .u8 (1 + A5 % 2))).set 5 (.int .u8 0)).set 6 (.int .u32 (A6 % 64))).set 7 (.int .u32 (A7 % 64))).congr (c' := (Value.bool true :: .int .i64 AG :: .bool (A3 % 2 == 1) :: .int .i64 (A4 % 16) :: .int .u8 (1 + A5 % 2) :: .int .u8 0 :: .int .u32 (A6 % 64) :: .int .u32 (A7 % 64) :: p0 :: p1 :: p2 :: p3 :: p4 :: p5 :: (V ++ [md, tv0])).toArray) (by simp))
      have kA11 := Lib.hid ((((((kA10.out.setNe (a := ⟨b6, 2, none⟩) hne0.out (.bool (A3 % 2 == 1))).setNe (a := ⟨b6, 3, none⟩) hne0.out (.int .i64 (A4 % 16))).setNe (a := ⟨b6, 4, none⟩) hne0.out (.int .u8 (1 + A5 % 2))).setNe (a := ⟨b6, 5, none⟩) hne0.out (.int .u8 0)).setNe (a := ⟨b6, 6, none⟩) hne0.out (.int .u32 (A6 % 64))).setNe (a := ⟨b6, 7, none⟩) hne0.out (.int .u32 (A7 % 64)))
      clear hM10 kA10 f10 l10
      generalize ((((((W10.setCell ⟨b6, 2, none⟩ (.bool (A3 % 2 == 1))).setCell ⟨b6, 3, none⟩ (.int .i64 (A4 % 16))).setCell ⟨b6, 4, none⟩ (.int .u8 (1 + A5 % 2))).setCell ⟨b6, 5, none⟩ (.int .u8 0)).setCell ⟨b6, 6, none⟩ (.int .u32 (A6 % 64))).setCell ⟨b6, 7, none⟩ (.int .u32 (A7 % 64))) = W11 at *
      have f11 := hM11.out.k.free
      have l11 := hM11.out.k.lt
      have la11 := kA11.out.lt
      clear y2 y3 y4 y5 y6 y7
      have y2 : W11.cell? ⟨b6, 2, none⟩ = some (.bool (A3 % 2 == 1)) := hM11.out.cell (j := 2) (by simp)
      have y3 : W11.cell? ⟨b6, 3, none⟩ = some (.int .i64 (A4 % 16)) := hM11.out.cell (j := 3) (by simp)
      have y4 : W11.cell? ⟨b6, 4, none⟩ = some (.int .u8 (1 + A5 % 2)) := hM11.out.cell (j := 4) (by simp)
      have y5 : W11.cell? ⟨b6, 5, none⟩ = some (.int .u8 0) := hM11.out.cell (j := 5) (by simp)
      have y6 : W11.cell? ⟨b6, 6, none⟩ = some (.int .u32 (A6 % 64)) := hM11.out.cell (j := 6) (by simp)
      have y7 : W11.cell? ⟨b6, 7, none⟩ = some (.int .u32 (A7 % 64)) := hM11.out.cell (j := 7) (by simp)
      have y8 : W11.cell? ⟨b6, 8, none⟩ = some (p0) := hM11.out.cell (j := 8) (by simp)
      have y9 : W11.cell? ⟨b6, 9, none⟩ = some (p1) := hM11.out.cell (j := 9) (by simp)
      have y10 : W11.cell? ⟨b6, 10, none⟩ = some (p2) := hM11.out.cell (j := 10) (by simp)
      have y11 : W11.cell? ⟨b6, 11, none⟩ = some (p3) := hM11.out.cell (j := 11) (by simp)
      have y12 : W11.cell? ⟨b6, 12, none⟩ = some (p4) := hM11.out.cell (j := 12) (by simp)
      have y13 : W11.cell? ⟨b6, 13, none⟩ = some (p5) := hM11.out.cell (j := 13) (by simp)
      go_upto_region 19 with fail
      have hM12 := Lib.hid (((((((hM11.out.set 8 (.bool (A3 % 2 == 1))).set 9 (.int .i64 (A4 % 16))).set 10 (.int .u8 (1 + A5 % 2))).set 11 (.int .u8 0)).set 12 (.int .u32 (A6 % 64))).set 13 (.int .u32 (A7 % 64))).congr (c' := (Value.bool true :: .int .i64 AG :: .bool (A3 % 2 == 1) :: .int .i64 (A4 % 16) :: .int .u8 (1 + A5 % 2) :: .int .u8 0 :: .int .u32 (A6 % 64) :: .int .u32 (A7 % 64) :: .bool (A3 % 2 == 1) :: .int .i64 (A4 % 16) :: .int .u8 (1 + A5 % 2) :: .int .u8 0 :: .int .u32 (A6 % 64) :: .int .u32 (A7 % 64) :: (V ++ [md, tv0])).toArray) (by simp))
      have kA12 := Lib.hid ((((((kA11.out.setNe (a := ⟨b6, 8, none⟩) hne0.out (.bool (A3 % 2 == 1))).setNe (a := ⟨b6, 9, none⟩) hne0.out (.int .i64 (A4 % 16))).setNe (a := ⟨b6, 10, none⟩) hne0.out (.int .u8 (1 + A5 % 2))).setNe (a := ⟨b6, 11, none⟩) hne0.out (.int .u8 0)).setNe (a := ⟨b6, 12, none⟩) hne0.out (.int .u32 (A6 % 64))).setNe (a := ⟨b6, 13, none⟩) hne0.out (.int .u32 (A7 % 64)))
      clear hM11 kA11 f11 l11
      generalize ((((((W11.setCell ⟨b6, 8, none⟩ (.bool (A3 % 2 == 1))).setCell ⟨b6, 9, none⟩ (.int .i64 (A4 % 16))).setCell ⟨b6, 10, none⟩ (.int .u8 (1 + A5 % 2))).setCell ⟨b6, 11, none⟩ (.int .u8 0)).setCell ⟨b6, 12, none⟩ (.int .u32 (A6 % 64))).setCell ⟨b6, 13, none⟩ (.int .u32 (A7 % 64))) = W12 at *
      have f12 := hM12.out.k.free
      have l12 := hM12.out.k.lt
      have la12 := kA12.out.lt
      clear y2 y3 y4 y5 y6 y7 y8 y9 y10 y11 y12 y13
      have y3 : W12.cell? ⟨b6, 3, none⟩ = some (.int .i64 (A4 % 16)) := hM12.out.cell (j := 3) (by simp)
      have y9 : W12.cell? ⟨b6, 9, none⟩ = some (.int .i64 (A4 % 16)) := hM12.out.cell (j := 9) (by simp)
      go_upto_region 20 with fail
      have hM14 := Lib.hid ((hM12.out.set 9 (.int .i64 (A4 % 16 + 1))).congr (c' := (Value.bool true :: .int .i64 AG :: .bool (A3 % 2 == 1) :: .int .i64 (A4 % 16) :: .int .u8 (1 + A5 % 2) :: .int .u8 0 :: .int .u32 (A6 % 64) :: .int .u32 (A7 % 64) :: .bool (A3 % 2 == 1) :: .int .i64 (A4 % 16 + 1) :: .int .u8 (1 + A5 % 2) :: .int .u8 0 :: .int .u32 (A6 % 64) :: .int .u32 (A7 % 64) :: (V ++ [md, tv0])).toArray) (by simp))
      have kA14 := Lib.hid (kA12.out.setNe (a := ⟨b6, 9, none⟩) hne0.out (.int .i64 (A4 % 16 + 1)))
      clear hM12 kA12 f12 l12
      generalize (W12.setCell ⟨b6, 9, none⟩ (.int .i64 (A4 % 16 + 1))) = W14 at *
      have f14 := hM14.out.k.free
      have l14 := hM14.out.k.lt
      have la14 := kA14.out.lt
      clear y3 y9
      have y55 : W14.cell? ⟨b6, 55, none⟩ = some (md) := hM14.out.cell (j := 55) (by simp [hV])
      have z8 := kA14.out.cell (i := 8) rfl
      go_upto_region 21 with fail
      have hM16 := Lib.hid ((hM14.out.set 55 (.int .u8 (A8 % 8))).congr (c' := (Value.bool true :: .int .i64 AG :: .bool (A3 % 2 == 1) :: .int .i64 (A4 % 16) :: .int .u8 (1 + A5 % 2) :: .int .u8 0 :: .int .u32 (A6 % 64) :: .int .u32 (A7 % 64) :: .bool (A3 % 2 == 1) :: .int .i64 (A4 % 16 + 1) :: .int .u8 (1 + A5 % 2) :: .int .u8 0 :: .int .u32 (A6 % 64) :: .int .u32 (A7 % 64) :: (V ++ [.int .u8 (A8 % 8), tv0])).toArray) (by simp [hV]))
      have kA16 := Lib.hid (kA14.out.setNe (a := ⟨b6, 55, none⟩) hne0.out (.int .u8 (A8 % 8)))
      clear hM14 kA14 f14 l14
      generalize (W14.setCell ⟨b6, 55, none⟩ (.int .u8 (A8 % 8))) = W16 at *
      have f16 := hM16.out.k.free
      have l16 := hM16.out.k.lt
      have la16 := kA16.out.lt
      have hYe0 : (Value.bool true :: .int .i64 AG :: .bool (A3 % 2 == 1) :: .int .i64 (A4 % 16) :: .int .u8 (1 + A5 % 2) :: .int .u8 0 :: .int .u32 (A6 % 64) :: .int .u32 (A7 % 64) :: .bool (A3 % 2 == 1) :: .int .i64 (A4 % 16 + 1) :: .int .u8 (1 + A5 % 2) :: .int .u8 0 :: .int .u32 (A6 % 64) :: .int .u32 (A7 % 64) :: (V ++ [.int .u8 (A8 % 8), tv0])) = (noiseRow sd t l R i).hd ++ [tv0] := by
        rw [hrow2.out]
        rfl
      have hYl0 : ((Value.bool true :: .int .i64 AG :: .bool (A3 % 2 == 1) :: .int .i64 (A4 % 16) :: .int .u8 (1 + A5 % 2) :: .int .u8 0 :: .int .u32 (A6 % 64) :: .int .u32 (A7 % 64) :: .bool (A3 % 2 == 1) :: .int .i64 (A4 % 16 + 1) :: .int .u8 (1 + A5 % 2) :: .int .u8 0 :: .int .u32 (A6 % 64) :: .int .u32 (A7 % 64) :: (V ++ [.int .u8 (A8 % 8), tv0]))).length = 57 := by simp [hV]
      clear y55 z8 f16 l16 la16 hrow2 kA16
      generalize (Value.bool true :: .int .i64 AG :: .bool (A3 % 2 == 1) :: .int .i64 (A4 % 16) :: .int .u8 (1 + A5 % 2) :: .int .u8 0 :: .int .u32 (A6 % 64) :: .int .u32 (A7 % 64) :: .bool (A3 % 2 == 1) :: .int .i64 (A4 % 16 + 1) :: .int .u8 (1 + A5 % 2) :: .int .u8 0 :: .int .u32 (A6 % 64) :: .int .u32 (A7 % 64) :: (V ++ [.int .u8 (A8 % 8), tv0])) = Y at *
      have hYe : Hid (Y = (noiseRow sd t l R i).hd ++ [tv0]) := hYe0
      have hYl := hYl0
      clear hYe0 hYl0
      have hZo : Hid (∀ u ∈ Y, u.oneCell' = true) := fun u hu => by
        rw [hYe.out] at hu
        rcases List.mem_append.1 hu with hu | hu
        · exact Fits.one (noiseRow_ok hk.out sd t l i).hd u hu
        · simp at hu
          subst hu
          obtain ⟨_, _, rfl, _⟩ := hM16.out.t.out
          rfl
      have c1 : W16.cell? ⟨b3, 1, none⟩ = some v' := hM16.out.n.post.cell (i := 1) rfl
      have lb3 := hM16.out.n.post.lt
      have lb6 := hM16.out.k.lt
      have hO8 := Lib.hid (hM16.out.n.below (below_alloc W16 (.cells Y.toArray 167)))
      have hT8 := Lib.hid (hM16.out.t.below (below_alloc W16 (.cells Y.toArray 167)) (Nat.le_refl _))
      have kn8 := Lib.hid (Blk.new W16 Y.toArray 167)
      have hs8 := hO8.out.bel.size
      go_wp2_with (first | refine wpList_val rfl (ex_load_row 167 (.tmp 12) rfl b6 rfl 167 Y.toArray d0 hM16.out.k hd0 hd1 (by rw [rowSize2]; simp [hYl])) ?_ | refine wpList_val rfl (ex_buildSlice1 49 167 (.tmp 98) rfl i0 z0 Y.toArray Try.underlying49 hi hz0 (by rw [hz1]; simpa using hYl) (by omega) (by omega) rfl) ?_ | (at_builtin; refine wpList_append_own _ rfl _ _ 49 rfl w.heap.size 167 i0 z0 57 160 Try.underlying49 hi hz0 hz1 hz2 hz3 (by decide) _ i (rowsFlat (RN.take i) tvs) rfl hO8.out.row ⟨W16.heap.size, 0, none⟩ 1 1 Y rfl (by simpa using hYl) (fun j u hj => by rw [add_head]; exact kn8.out.cell (by simpa using hj)) hZo.out (by unfold maxLen; omega) (by omega) hs8 ?_) | fail)
      intro v1 w9 hown hg _
      obtain ⟨g1', cp1, rfl⟩ : ∃ g c, v1 = .slice (some ⟨g, 0, none⟩) (i + 1) c := by
        rcases hown.2 with ⟨_, h⟩ | ⟨g, c, _, h, _⟩
        · omega
        · exact ⟨g, c, h⟩
      rw [hYe.out] at hown
      obtain ⟨e1, e2, e3, hN9⟩ := hO8.out.append hRi.out (hYt.out ▸ hT8.out) hown hg
      replace hN9 := Lib.hid hN9
      clear hown hg hO8 hT8 kn8 hs8 c1 lb3 lb6 hM16
      go_wp2_with fail
      exact hK.out (m - (i + 1)) _ _ (by omega) ⟨i + 1, _, tvs ++ [tv0], by omega, hN9, by kernel_rfl, rfl, by kernel_rfl, by kernel_rfl, by kernel_rfl, by kernel_rfl, by kernel_rfl, by kernel_rfl⟩
  have g1 : decide ((i : Int) < (m : Int)) = false := by simp; omega
  have g2 : ¬ (i : Int) < (m : Int) := by omega
  obtain rfl : i = m := by omega
  obtain ⟨va, vn, vc, rfl⟩ : ∃ a n c, v' = .slice a n c := by
    rcases hN.out.row.2 with ⟨rfl, _⟩ | ⟨_, _, _, rfl, _⟩
    · exact ⟨_, _, _, rfl⟩
    · exact ⟨_, _, _, rfl⟩
  have s0' := hN.out.post.cell (i := 0) rfl
  have s1' := hN.out.post.cell (i := 1) rfl
  have ls := hN.out.post.lt
  have r0 := hN.out.out.cell (i := 0) rfl
  have r1 := hN.out.out.cell (i := 1) rfl
  have rf := hN.out.out.free
  have rl := hN.out.out.lt
  have kr := Lib.hid hN.out.out
  have hF : Hid (OwnWord 167 204 w.heap.size wr (.slice va vn vc) RN) := by
    have h1 := hN.out
    rw [← hlenN] at h1
    exact h1.fin (Nat.le_refl _)
  have hbF := Lib.hid hN.out.bel
  clear hN hlenN hK
  go_wp2_with fail
  have hT : Touch [w.heap.size + 1] wr ((wr.setCell ⟨w.heap.size + 1, 0, none⟩ (.int .u8 SX)).setCell ⟨w.heap.size + 1, 1, none⟩ (.slice va vn vc)) := ((Touch.refl [w.heap.size + 1] wr).setCell (p := ⟨w.heap.size + 1, 0, none⟩) (.inl (by simp)) (.int .u8 SX)).setCell (p := ⟨w.heap.size + 1, 1, none⟩) (.inl (by simp)) (.slice va vn vc)
  refine postRet2 6 (by kernel_rfl) (w.heap.size + 1) SX _ rfl (((kr.out.set 0 (.int .u8 SX)).set 1 (.slice va vn vc)).congr rfl) rfl ?_
  rw [hnc.out]
  exact ⟨_, rfl, hF.out.blk (fun g c U hU hg => hg.touch hT (by simpa using hg.ne kr.out (by rcases hU with rfl | rfl <;> decide))), hT.below hbF.out hbF.out.size (by simp)⟩
end Go.Proofs.Ytmdohnbhogfopaa
