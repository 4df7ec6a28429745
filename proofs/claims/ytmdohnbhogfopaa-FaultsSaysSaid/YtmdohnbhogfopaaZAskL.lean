/- noise. -/
import Derived.Test.YtmdohnbhogfopaaZAskFK
namespace Go.Proofs.Ytmdohnbhogfopaa
open Go.RowKit Go.Maps
set_option linter.unusedSimpArgs false
set_option linter.unusedVariables false
set_option maxRecDepth 100000
theorem idx_four (W : World) (X : Int) (hX : 0 ≤ X ∧ X < 4) : (Instr.index 219 (.agg #[.int .u8 0, .int .u8 1, .int .u8 2, .int .u8 2]) (.int .u64 X)).run Try.prog W = .ok (.int .u8 (symN X)) W := by
  have h1 := Try.underlying219
  have hx : X = 0 ∨ X = 1 ∨ X = 2 ∨ X = 3 := by omega
  rcases hx with rfl | rfl | rfl | rfl <;> simp [Instr.index, go_sem, run_underlying h1, symN]
def InvNoise (B : Nat) (w : World) (b3 : Nat) (s : Int) (R : List RowC) (pa m : Nat) (k : Nat) (a : Act) (wr : World) : Prop :=
  ∃ i v tvs, i + k = m ∧ Hid (NoiseAt B w b3 s R i v tvs wr) ∧ a.tmps.size = 97 ∧ a.defers = [] ∧ slot a 0 = .pointer (some ⟨pa, 0, none⟩) ∧ slot a 2 = .pointer (some ⟨w.heap.size, 0, none⟩) ∧ slot a 3 = .pointer (some ⟨b3, 0, none⟩) ∧ slot a 18 = .int .i64 m ∧ slot a 19 = .int .i64 i
set_option maxHeartbeats 8000000 in
theorem noiseR {B : Nat} {w : World} {pa pm : Nat} {l t : Int} {sp : SpellC} {s : Int} {v : Value} {R : List RowC} (h : AskAt B w pa pm l t sp s v R) (hB : B ≤ w.heap.size) (m : Nat) (hm : 4 ≤ m ∧ m ≤ 16) (hpm : w.cell? ⟨pm, 0, none⟩ = some (.int .i64 m)) (hn : R.length ≤ 1000000) :
    Calls Try.prog 108 #[.pointer (some ⟨pa, 0, none⟩)] w fun e w' => PostR B w (noiseC sp.sd t l m R) e w' := by
  obtain ⟨i0, z0, hi, hz0, hz1, hz2, hz3, hz4⟩ := rowInfo
  obtain ⟨d0, hd0, hd1⟩ := rowRow
  have hA : Hid (∀ W, Below w.heap.size w W → AskAt B W pa pm l t sp s v R ∧ W.cell? ⟨pm, 0, none⟩ = some (.int .i64 m)) := fun W hW => ⟨h.below hW (Nat.le_refl _), below_cell hpm hW (World.block_lt_of_cell? w _ hpm)⟩
  have hRok : Hid (∀ r ∈ R, RowOk r) := h.ok
  have hO : Hid (∀ W n k, Below w.heap.size w W → 0 < n ∧ n ≤ 1000 → Calls Try.prog 131 #[.pointer (some ⟨pa, 0, none⟩), .int .u64 n, .int .i64 k] W fun e w' => e = .returned (.int .u64 (numI sp.sd t l k % n)) ∧ ∃ q, w' = W.drewN q) := fun W n k hW hn => ofR (hA.out W hW).1 n k hn
  have hP : Hid (∀ W k, Below w.heap.size w W → 0 ≤ k ∧ k ≤ 1000 → Calls Try.prog 132 #[.pointer (some ⟨pa, 0, none⟩), .int .i64 k] W fun e w' => e = .returned (.agg (saidL sp.sd t l k).toArray) ∧ Below W.heap.size W w') := fun W k hW hk => payloadR (hA.out W hW).1 k hk
  have hb1 := below_alloc w (.cells #[.int .u8 0, .slice none 0 0] 40)
  have r0 := numI_range sp.sd t l 0
  have hX : Hid (0 ≤ numI sp.sd t l 0 % 4 ∧ numI sp.sd t l 0 % 4 < 4) := by
    have : 0 ≤ numI sp.sd t l 0 % 4 ∧ numI sp.sd t l 0 % 4 < 4 := by omega
    exact this
  have O1 := Lib.hid (hO.out _ 4 0 hb1 (by omega))
  have hnc : Hid (noiseC sp.sd t l m R = ⟨symN (numI sp.sd t l 0 % 4), (List.range m).map (noiseRow sp.sd t l R)⟩) := rfl
  have hRN : Hid (∀ i, i < m → ((List.range m).map (noiseRow sp.sd t l R))[i]? = some (noiseRow sp.sd t l R i)) := fun i hi => by simp [hi]
  have hlenN : ((List.range m).map (noiseRow sp.sd t l R)).length = m := by simp
  generalize (List.range m).map (noiseRow sp.sd t l R) = RN at *
  generalize numI sp.sd t l 0 % 4 = X at *
  have hidx := fun W => idx_four W X hX.out
  generalize symN X = SX at *
  have hlt := h.blk.lt
  clear hpm r0 h
  go_enter Try.func108, Try.ntmps108
  go_wp2_with fail
  refine O1.out.mono ?_
  rintro e w2 ⟨rfl, q, rfl⟩
  have hb2 := Lib.hid (bdrewN hb1 q)
  have k2 := Lib.hid ((Blk.new w #[.int .u8 0, .slice none 0 0] 40).drewN q)
  have hsz2 : Hid (((w.alloc (.cells #[.int .u8 0, .slice none 0 0] 40)).drewN q).heap.size = w.heap.size + 1) := by
    show ((w.alloc (.cells #[.int .u8 0, .slice none 0 0] 40)).drewN q).heap.size = w.heap.size + 1
    simp
  generalize (w.alloc (.cells #[.int .u8 0, .slice none 0 0] 40)).drewN q = w2 at *
  clear O1 hb1
  go_upto_region 2 with fail
  have hb3 : Below w.heap.size w (w2.alloc (.cells #[.int .u8 SX, .slice none 0 0] 40)) := hb2.out.trans ((below_alloc _ _).mono hb2.out.size)
  have hN0 : Hid (NoiseAt B w w2.heap.size SX RN 0 (.slice none 0 0) [] (w2.alloc (.cells #[.int .u8 SX, .slice none 0 0] 40))) := ⟨hb3, Blk.new _ _ _, k2.out.alloc _, by have := hsz2.out; omega, by simpa [rowsFlat] using World.ownsRow_nil _ _ _ _, rfl, by simp⟩
  obtain ⟨hA3, cm⟩ := hA.out _ hb3
  obtain ⟨c0, c1, c2, c3, c6, c7, c8, c9, lt⟩ := askCells hA3
  have ltm := World.block_lt_of_cell? _ _ cm
  simp only at ltm
  clear hA3 hidx hX
  have hb3g : Hid (w.heap.size < w2.heap.size) := by show w.heap.size < w2.heap.size; have := hsz2.out; omega
  generalize w2.alloc (.cells #[.int .u8 SX, .slice none 0 0] 40) = w3 at *
  generalize w2.heap.size = b3 at *
  go_wp2_with fail
  refine wp_loop_k (InvNoise B w b3 SX RN pa m) m ?_ ?_
  · exact ⟨0, _, _, by omega, hN0, by kernel_rfl, rfl, by kernel_rfl, by kernel_rfl, by kernel_rfl, by kernel_rfl, by kernel_rfl⟩
  clear hN0 c0 c1 c2 c3 c6 c7 c8 c9 lt cm ltm hb3 k2 hsz2 hb2 w2 w3
  intro gk a wr hI K hK
  obtain ⟨i, v', tvs, hi0, hN, hs', hd', k0', k2', k3', k18', k19'⟩ := hI
  rw [fr97 a hs' hd']; simp only [k0', k2', k3', k18', k19']; clear hs' hd' k0' k2' k3' k18' k19'
  by_cases hil : i < m
  · have g1 : decide ((i : Int) < (m : Int)) = true := by simp; omega
    have g2 : (i : Int) < (m : Int) := by omega
    have g3 : IntKind.i64.wrap ((i : Int) + 1) = ((i + 1 : Nat) : Int) := by rw [wrap_i64_small _ (by omega) (by omega)]; omega
    have g4 : IntKind.i64.wrap (10 * (i : Int)) = 10 * (i : Int) := wrapI _ (by omega) (by omega)
    have g5 : IntKind.i64.wrap (10 * (i : Int) + 1) = 10 * (i : Int) + 1 := wrapI _ (by omega) (by omega)
    have hRi := hRN.out i hil
    have hz : z0.cells.toList = zeroH ++ [.slice none 0 0] := hz4
    have O2 := Lib.hid (fun W hW => hO.out W 4 (10 * (i : Int) + 1) hW (by omega))
    have hX2 : 0 ≤ numI sp.sd t l (10 * (i : Int) + 1) % 4 := by have := numI_range sp.sd t l (10 * (i : Int) + 1); omega
    have hbN := hN.out.bel
    have hb4 : Below w.heap.size w (wr.alloc (.cells z0.cells 97)) := bthen hbN (below_alloc _ _)
    have k4 := Lib.hid (Blk.new wr z0.cells 97)
    have hN4 := Lib.hid (hN.out.below (below_alloc wr (.cells z0.cells 97)))
    replace hX2 := Lib.hid hX2
    replace hRi := Lib.hid hRi
    go_upto_region 7 with (first | refine wpList_val rfl (ex_alloc 97 rfl i0 z0 hi hz0) ?_ | fail)
    have hvb : v'.ownBlock ≠ some wr.heap.size := fun e => by
      have := (hN.out.row.lt _ e).2
      omega
    have hzc : z0.cells = (zeroH ++ [Value.slice none 0 0]).toArray := by rw [← hz4]
    have hM4 : Hid (MidAt B w b3 SX RN i v' tvs wr.heap.size (.slice none 0 0) [] (wr.alloc (.cells z0.cells 97)) (zeroH ++ [Value.slice none 0 0]).toArray) := ⟨hN4.out, hzc ▸ k4.out, .inl ⟨rfl, rfl⟩, hbN.size, hvb⟩
    have hO4 := Lib.hid (O2.out _ hb4)
    clear hN hbN hN4 k4 hz hvb hb4 O2
    generalize wr.heap.size = b6 at *
    generalize wr.alloc (.cells z0.cells 97) = w4 at *
    go_wp2_with fail
    refine hO4.out.mono ?_
    rintro e w5 ⟨rfl, q5, rfl⟩
    have hM5 := Lib.hid (hM4.out.below (below_drewN w4 q5))
    clear hM4 hO4
    generalize w4.drewN q5 = w5 at *
    have hcase : (numI sp.sd t l (10 * (i : Int) + 1) % 4 = 0) ∨ (¬ numI sp.sd t l (10 * (i : Int) + 1) % 4 = 0 ∧ i < R.length) ∨ (¬ numI sp.sd t l (10 * (i : Int) + 1) % 4 = 0 ∧ ¬ i < R.length) := by omega
    rcases hcase with q1 | ⟨q1, q2⟩ | ⟨q1, q2⟩
    · have t1 : decide (0 < numI sp.sd t l (10 * (i : Int) + 1) % 4) = false := by simp; omega
      have hr : noiseRow sp.sd t l R i = ⟨zeroH, []⟩ := by
        unfold noiseRow
        rw [if_pos q1]
      have hYt : Hid (([] : List (List Value)) = (noiseRow sp.sd t l R i).tab) := by rw [hr]; rfl
      have hYe : Hid (zeroH ++ [Value.slice none 0 0] = (noiseRow sp.sd t l R i).hd ++ [.slice none 0 0]) := by rw [hr]; rfl
      have hYo : Hid (HeldOk zeroH) := zeroH_ok
      generalize numI sp.sd t l (10 * (i : Int) + 1) % 4 = Z at *
      clear hr
      replace q1 := Lib.hid q1
      have hYl : (zeroH ++ [Value.slice none 0 0]).length = 57 := by simp [hYo.out.length]
      have hZo : Hid (∀ u ∈ zeroH ++ [Value.slice none 0 0], u.oneCell' = true) := fun u hu => by
        rcases List.mem_append.1 hu with hu | hu
        · exact Fits.one hYo.out u hu
        · simp at hu
          subst hu
          rfl
      have hM16 := hM5
      clear hM5
      generalize zeroH ++ [Value.slice none 0 0] = Y at *
      generalize hW : w5 = W16 at *
      clear hW
      generalize htv : Value.slice none 0 0 = tv0 at *
      clear htv
      generalize htab : ([] : List (List Value)) = tab0 at *
      clear htab
      go_upto_region 16 with fail
      have c1 : W16.cell? ⟨b3, 1, none⟩ = some v' := hM16.out.n.post.cell (i := 1) rfl
      have lb3 := hM16.out.n.post.lt
      have lb6 := hM16.out.k.lt
      have hO8 := Lib.hid (hM16.out.n.below (below_alloc W16 (.cells Y.toArray 97)))
      have hT8 := Lib.hid (hM16.out.t.below (below_alloc W16 (.cells Y.toArray 97)) (Nat.le_refl _))
      have kn8 := Lib.hid (Blk.new W16 Y.toArray 97)
      have hs8 := hO8.out.bel.size
      go_wp2_with (first | refine wpList_val rfl (ex_load_row 97 (.tmp 6) rfl b6 rfl 97 Y.toArray d0 hM16.out.k hd0 hd1 (by rw [rowSize]; simp [hYl])) ?_ | refine wpList_val rfl (ex_buildSlice1 36 97 (.tmp 90) rfl i0 z0 Y.toArray Try.underlying36 hi hz0 (by rw [hz1]; simpa using hYl) (by omega) (by omega) rfl) ?_ | (at_builtin; refine wpList_append_own _ rfl _ _ 36 rfl w.heap.size 97 i0 z0 57 160 Try.underlying36 hi hz0 hz1 hz2 hz3 (by decide) _ i (rowsFlat (RN.take i) tvs) rfl hO8.out.row ⟨W16.heap.size, 0, none⟩ 1 1 Y rfl (by simpa using hYl) (fun j u hj => by rw [add_head]; exact kn8.out.cell (by simpa using hj)) hZo.out (by unfold maxLen; omega) (by omega) hs8 ?_) | fail)
      intro v1 w9 hown hg _
      obtain ⟨g1', cp1, rfl⟩ : ∃ g c, v1 = .slice (some ⟨g, 0, none⟩) (i + 1) c := by
        rcases hown.2 with ⟨_, h⟩ | ⟨g, c, _, h, _⟩
        · omega
        · exact ⟨g, c, h⟩
      rw [hYe.out] at hown
      obtain ⟨e1, e2, e3, hN9⟩ := hO8.out.append hRi.out (hYt.out ▸ hT8.out) hown hg
      replace hN9 := Lib.hid hN9
      clear hown hg hO8 hT8 kn8 hs8 c1 lb3 lb6 hM16
      go_wp2_with fail
      exact hK (m - (i + 1)) _ _ (by omega) ⟨i + 1, _, tvs ++ [tv0], by omega, hN9, by kernel_rfl, rfl, by kernel_rfl, by kernel_rfl, by kernel_rfl, by kernel_rfl, by kernel_rfl⟩
    · have t1 : decide (0 < numI sp.sd t l (10 * (i : Int) + 1) % 4) = true := by have := hX2.out; simp; omega
      obtain ⟨r, hr⟩ : ∃ r, R[i]? = some r := ⟨_, List.getElem?_eq_getElem q2⟩
      have hA5 := (hA.out w5 hM5.out.n.bel).1
      obtain ⟨g, n, cap, tv0, rfl, hnl, htv, hcs⟩ := hA5.own.row hA5.ok hr
      have hrk := hA5.ok r (List.mem_of_getElem? hr)
      have hYt : Hid (r.tab = (noiseRow sp.sd t l R i).tab) := by
        show r.tab = (noiseRow sp.sd t l R i).tab
        unfold noiseRow
        rw [if_neg q1, hr]
        rfl
      have hrow : Hid ((noiseRow sp.sd t l R i).hd = noiseH sp.sd t l (10 * (i : Int) + 1) r.hd) := by
        show (noiseRow sp.sd t l R i).hd = noiseH sp.sd t l (10 * (i : Int) + 1) r.hd
        unfold noiseRow
        rw [if_neg q1, hr]
        rfl
      have hk0 : Hid (HeldOk r.hd) := hrk.hd
      have h57 : (r.hd ++ [tv0]).length = 57 := by simp [hrk.hd.length]
      have hone : (r.hd ++ [tv0]).toArray.all (·.oneCell') = true := by
        apply all_oneCell_toArray
        intro u hu
        rcases List.mem_append.1 hu with hu | hu
        · exact Fits.one hrk.hd u hu
        · simp at hu
          subst hu
          obtain ⟨_, _, rfl, _⟩ := htv.out
          rfl
      obtain ⟨b0, b1, b2, b3', b6', b7, b8, b9, lb⟩ := askCells hA5
      have q3 : decide ((i : Int) < (n : Int)) = true := by simp; omega
      have q4 : (i : Int) < (n : Int) := by omega
      have hcs' : Hid (∀ j u, (r.hd ++ [tv0])[j]? = some u → w5.cell? ((⟨g, i * 57, none⟩ : Addr).add j) = some u) := fun j u hj => by
        have e : (⟨g, i * 57, none⟩ : Addr).add j = ⟨g, i * 57 + j, none⟩ := Addr.add_mid _ _ _
        rw [e]
        exact hcs j u hj
      have hM6 : Hid (MidAt B w b3 SX RN i v' tvs b6 tv0 r.tab (w5.setRow b6 (r.hd ++ [tv0]).toArray) (r.hd ++ [tv0]).toArray) := by
        have h1 := hM5.out.setRow (r.hd ++ [tv0]).toArray
        exact ⟨h1.n, h1.k, htv.blk fun g2 c2 _ hg2 => hg2.setRowNe _ (hg2.ne hM5.out.k (by decide)), h1.ge, h1.ne⟩
      have k5 := Lib.hid hM5.out.k
      have hz57 : (zeroH ++ [Value.slice none 0 0]).toArray.size = 57 := by simp [zeroH_ok.length]
      clear hM5 hA5 hrk hcs htv hr hnl
      generalize numI sp.sd t l (10 * (i : Int) + 1) % 4 = Z at *
      replace q1 := Lib.hid q1
      replace q2 := Lib.hid q2
      generalize r.tab = tab0 at *
      generalize r.hd = h0 at *
      replace hX2 := Lib.hid hX2
      generalize (zeroH ++ [Value.slice none 0 0]).toArray = ZA at *
      generalize hLL : h0 ++ [tv0] = LL at *
      go_upto_region 10 with (first | refine wpList_val rfl (ex_load 97 (.tmp 45) rfl ⟨g, i * 57, none⟩ rfl LL d0 hcs'.out hd0 hd1 (by rw [rowSize, h57])) ?_ | refine wpList_skp rfl (ex_store_row 97 (.tmp 6) (.tmp 46) rfl b6 LL.toArray rfl rfl 97 ZA k5.out (by rw [rowSize]; simp [h57]) (by rw [hz57]; simp [h57]) hone) ?_ | fail)
      clear b0 b1 b2 b3' b6' b7 b8 b9 lb q3 q4 hcs' k5 hone
      generalize w5.setRow b6 LL.toArray = W6 at *
      rw [← hLL] at hM6
      clear hLL h57
      obtain ⟨bb, x, o0, o1, o2, o3, o4, o5, p0, p1, p2, p3, p4, p5, V, md, hpt, hV, hdr, hg1⟩ := hk0.out.parts
      have hrow2 : Hid ((noiseRow sp.sd t l R i).hd ++ [tv0] = Value.bool true :: .int .i64 (IntKind.i64.wrap (x + (numI sp.sd t l (10 * (i : Int) + 1 + 1) % 16 - 8))) :: (saidL sp.sd t l (10 * (i : Int) + 1 + 2) ++ ((saidL sp.sd t l (10 * (i : Int) + 1 + 2)).set 1 (.int .i64 (numI sp.sd t l (10 * (i : Int) + 1 + 2 + 1) % 16 + 1)) ++ (V ++ [.int .u8 (numI sp.sd t l (10 * (i : Int) + 1 + 7) % 8), tv0])))) := by
        refine Lib.hid ?_
        rw [hrow.out]
        unfold noiseH mixH
        rw [hdr, hg1]
        simp [ageV]
      have hM6' : Hid (MidAt B w b3 SX RN i v' tvs b6 tv0 tab0 W6 (Value.bool bb :: .int .i64 x :: o0 :: o1 :: o2 :: o3 :: o4 :: o5 :: p0 :: p1 :: p2 :: p3 :: p4 :: p5 :: (V ++ [md, tv0])).toArray) := hM6.out.congr (by rw [hpt]; simp)
      have r1 := modR (numI sp.sd t l (10 * (i : Int) + 1 + 1)) 16 (by decide)
      have r3 := modR (numI sp.sd t l (10 * (i : Int) + 1 + 2 + 1)) 16 (by decide)
      have r7 := modR (numI sp.sd t l (10 * (i : Int) + 1 + 7)) 8 (by decide)
      have g6 : IntKind.i64.wrap (10 * (i : Int) + 1 + 1) = 10 * (i : Int) + 1 + 1 := wrapI _ (by omega) (by omega)
      have g7 : IntKind.i64.wrap (10 * (i : Int) + 1 + 2) = 10 * (i : Int) + 1 + 2 := wrapI _ (by omega) (by omega)
      have g8 : IntKind.i64.wrap (10 * (i : Int) + 1 + 7) = 10 * (i : Int) + 1 + 7 := wrapI _ (by omega) (by omega)
      have O3 := Lib.hid (fun W hW => hO.out W 16 (10 * (i : Int) + 1 + 1) hW (by omega))
      have O8 := Lib.hid (fun W hW => hO.out W 8 (10 * (i : Int) + 1 + 7) hW (by omega))
      have P5 := Lib.hid (fun W hW => hP.out W (10 * (i : Int) + 1 + 2) hW (by omega))
      unfold saidL at P5 hrow2
      clear hM6 hpt hdr hg1 hrow hk0
      generalize numI sp.sd t l (10 * (i : Int) + 1 + 1) % 16 = YA at *
      generalize numI sp.sd t l (10 * (i : Int) + 1 + 2) % 2 = Y1 at *
      generalize numI sp.sd t l (10 * (i : Int) + 1 + 2 + 1) % 16 = Y2 at *
      generalize 1 + numI sp.sd t l (10 * (i : Int) + 1 + 2 + 2) % 2 = Y3 at *
      generalize numI sp.sd t l (10 * (i : Int) + 1 + 2 + 3) % 64 = Y4 at *
      generalize numI sp.sd t l (10 * (i : Int) + 1 + 2 + 4) % 64 = Y5 at *
      generalize numI sp.sd t l (10 * (i : Int) + 1 + 7) % 8 = Y7 at *
      have u1 : IntKind.i64.wrap YA = YA := wrapI _ (by omega) (by omega)
      have u2 : IntKind.i64.wrap (YA - 8) = YA - 8 := wrapI _ (by omega) (by omega)
      have u3 : IntKind.i64.wrap (Y2 + 1) = Y2 + 1 := wrapI _ (by omega) (by omega)
      have u4 : IntKind.u8.wrap Y7 = Y7 := by rw [IntKind.wrap_u8]; omega
      clear r1 r3 r7
      generalize hAG : IntKind.i64.wrap (x + (YA - 8)) = AG at *
      have f6 := hM6'.out.k.free
      have l6 := hM6'.out.k.lt
      have hM6 := hM6'
      clear hM6'
      have y0 : W6.cell? ⟨b6, 0, none⟩ = some (.bool bb) := hM6.out.cell (j := 0) (by simp)
      go_upto_region 11 with fail
      have hM7 := Lib.hid ((hM6.out.set 0 (.bool true)).congr (c' := (Value.bool true :: .int .i64 x :: o0 :: o1 :: o2 :: o3 :: o4 :: o5 :: p0 :: p1 :: p2 :: p3 :: p4 :: p5 :: (V ++ [md, tv0])).toArray) (by simp))
      clear hM6 f6 l6
      generalize (W6.setCell ⟨b6, 0, none⟩ (.bool true)) = W7 at *
      have f7 := hM7.out.k.free
      have l7 := hM7.out.k.lt
      clear y0
      have y1 : W7.cell? ⟨b6, 1, none⟩ = some (.int .i64 x) := hM7.out.cell (j := 1) (by simp)
      have hb7 : Below w.heap.size w W7 := hM7.out.n.bel
      have hb7d : Below w.heap.size w W7.drew := bdrewN hb7 1
      have O3' := Lib.hid (O3.out W7.drew hb7d)
      clear O3 hb7 hb7d
      refine wp_region_held_drew (S := fun _ => True) (by kernel_rfl) trivial (fun hHeld => ?_)
      refine wpAnyH_take (i := 0) (oi := { dst := some 48, op := .fieldAddr _ (.tmp 6) 1, type := _, pos := _, after := _, guard := _ }) (v := ?_) rfl (by kernel_rfl) (by kernel_rfl) (by kernel_rfl) (fun _ _ _ h => h) (Or.inl ⟨by rfl, ?_⟩) (by assumption) ?_
      rotate_left
      · (intro w hSw; (try dsimp only at hSw); go_simp) <;> with_reducible rfl
      try simp only [Act.put, List.setIfInBounds_toArray, List.set_cons_zero, List.set_cons_succ]
      refine wpAnyH_take (i := 1) (oi := { dst := some 49, op := .fieldAddr _ (.tmp 48) 0, type := _, pos := _, after := _, guard := _ }) (v := ?_) rfl (by kernel_rfl) (by kernel_rfl) (by kernel_rfl) (fun _ _ _ h => h) (Or.inl ⟨by rfl, ?_⟩) (by assumption) ?_
      rotate_left
      · (intro w hSw; (try dsimp only at hSw); go_simp) <;> with_reducible rfl
      try simp only [Act.put, List.setIfInBounds_toArray, List.set_cons_zero, List.set_cons_succ]
      refine wpAnyH_take (i := 3) (oi := { dst := some 51, op := .move (.tmp 0), type := _, pos := _, after := _, guard := _ }) (v := ?_) rfl (by kernel_rfl) (by kernel_rfl) (by kernel_rfl) (fun _ _ _ h => h) (Or.inl ⟨by rfl, ?_⟩) (by assumption) ?_
      rotate_left
      · (intro w hSw; (try dsimp only at hSw); go_simp) <;> with_reducible rfl
      try simp only [Act.put, List.setIfInBounds_toArray, List.set_cons_zero, List.set_cons_succ]
      refine wpAnyH_take (i := 4) (oi := { dst := some 52, op := .move (.tmp 5), type := _, pos := _, after := _, guard := _ }) (v := ?_) rfl (by kernel_rfl) (by kernel_rfl) (by kernel_rfl) (fun _ _ _ h => h) (Or.inl ⟨by rfl, ?_⟩) (by assumption) ?_
      rotate_left
      · (intro w hSw; (try dsimp only at hSw); go_simp) <;> with_reducible rfl
      try simp only [Act.put, List.setIfInBounds_toArray, List.set_cons_zero, List.set_cons_succ]
      refine wpAnyH_take (i := 5) (oi := { dst := some 53, op := .binOp _ _ (.tmp 52) _ _, type := _, pos := _, after := _, guard := _ }) (v := ?_) rfl (by kernel_rfl) (by kernel_rfl) (by kernel_rfl) (fun _ _ _ h => h) (Or.inl ⟨by rfl, ?_⟩) (by assumption) ?_
      rotate_left
      · (intro w hSw; (try dsimp only at hSw); go_simp) <;> with_reducible rfl
      try simp only [Act.put, List.setIfInBounds_toArray, List.set_cons_zero, List.set_cons_succ]
      refine wpAnyH_ready (rs := [2, 6]) (by kernel_rfl) (by simp) ?_
      refine AllReadyH.cons (o := { dst := some 50, op := .load _ (.tmp 49), type := _, pos := _, after := _, guard := _ }) rfl (fun K6 hK6 => ?_) (AllReadyH.cons (o := { dst := some 54, op := .call { callee := .value (.func 131), args := _, argTypes := _ }, type := _, pos := _, after := _, guard := _ }) rfl (fun K6 hK6 => ?_) AllReadyH.nil)
      focus
        go_simp
        refine hK6.out _ _ trivial (fun hHeld => ?_)
        clear hK6 K6
        try simp only [Act.put, List.setIfInBounds_toArray, List.set_cons_zero, List.set_cons_succ]
        refine wpAnyH_ready (rs := [6]) (by kernel_rfl) (by simp) ?_
        refine AllReadyH.cons (o := { dst := some 54, op := .call { callee := .value (.func 131), args := _, argTypes := _ }, type := _, pos := _, after := _, guard := _ }) rfl (fun K6 hK6 => ?_) AllReadyH.nil
        go_simp
        refine O3'.out.mono ?_
        rintro e W8 ⟨rfl, q8, rfl⟩
        refine hK6.out _ _ trivial (fun hHeld => ?_)
        clear hK6 K6
        try simp only [Act.put, List.setIfInBounds_toArray, List.set_cons_zero, List.set_cons_succ]
        refine wpAnyH_take (i := 7) (oi := { dst := some 55, op := .convert _ _ (.tmp 54), type := _, pos := _, after := _, guard := _ }) (v := ?_) rfl (by kernel_rfl) (by kernel_rfl) (by kernel_rfl) (fun _ _ _ h => h) (Or.inl ⟨by rfl, ?_⟩) (by assumption) ?_
        rotate_left
        · (intro w hSw; (try dsimp only at hSw); go_simp) <;> with_reducible rfl
        try simp only [Act.put, List.setIfInBounds_toArray, List.set_cons_zero, List.set_cons_succ]
        refine wpAnyH_take (i := 8) (oi := { dst := some 56, op := .binOp _ _ (.tmp 55) _ _, type := _, pos := _, after := _, guard := _ }) (v := ?_) rfl (by kernel_rfl) (by kernel_rfl) (by kernel_rfl) (fun _ _ _ h => h) (Or.inl ⟨by rfl, ?_⟩) (by assumption) ?_
        rotate_left
        · (intro w hSw; (try dsimp only at hSw); go_simp) <;> with_reducible rfl
        try simp only [Act.put, List.setIfInBounds_toArray, List.set_cons_zero, List.set_cons_succ]
        refine wpAnyH_take (i := 9) (oi := { dst := some 57, op := .binOp _ _ (.tmp 50) (.tmp 56) _, type := _, pos := _, after := _, guard := _ }) (v := ?_) rfl (by kernel_rfl) (by kernel_rfl) (by kernel_rfl) (fun _ _ _ h => h) (Or.inl ⟨by rfl, ?_⟩) (by assumption) ?_
        rotate_left
        · (intro w hSw; (try dsimp only at hSw); go_simp) <;> with_reducible rfl
        try simp only [Act.put, List.setIfInBounds_toArray, List.set_cons_zero, List.set_cons_succ]
        refine wpAnyH_take (i := 10) (oi := { dst := some 58, op := .fieldAddr _ (.tmp 6) 1, type := _, pos := _, after := _, guard := _ }) (v := ?_) rfl (by kernel_rfl) (by kernel_rfl) (by kernel_rfl) (fun _ _ _ h => h) (Or.inl ⟨by rfl, ?_⟩) (by assumption) ?_
        rotate_left
        · (intro w hSw; (try dsimp only at hSw); go_simp) <;> with_reducible rfl
        try simp only [Act.put, List.setIfInBounds_toArray, List.set_cons_zero, List.set_cons_succ]
        refine wpAnyH_take (i := 11) (oi := { dst := some 59, op := .fieldAddr _ (.tmp 58) 0, type := _, pos := _, after := _, guard := _ }) (v := ?_) rfl (by kernel_rfl) (by kernel_rfl) (by kernel_rfl) (fun _ _ _ h => h) (Or.inl ⟨by rfl, ?_⟩) (by assumption) ?_
        rotate_left
        · (intro w hSw; (try dsimp only at hSw); go_simp) <;> with_reducible rfl
        try simp only [Act.put, List.setIfInBounds_toArray, List.set_cons_zero, List.set_cons_succ]
        refine wpAnyH_ready (rs := [12]) (by kernel_rfl) (by simp) ?_
        refine AllReadyH.cons (o := { dst := none, op := .store _ (.tmp 59) (.tmp 57), type := _, pos := _, after := _, guard := _ }) rfl (fun K6 hK6 => ?_) AllReadyH.nil
        go_simp
        refine hK6.out _ _ trivial (fun hHeld => ?_)
        clear hK6 K6
        try simp only [Act.put, List.setIfInBounds_toArray, List.set_cons_zero, List.set_cons_succ]
        refine wpAnyH_done (by kernel_rfl) ?_ _
      rotate_left
      focus
        go_simp
        refine O3'.out.mono ?_
        rintro e W8 ⟨rfl, q8, rfl⟩
        refine hK6.out _ _ trivial (fun hHeld => ?_)
        clear hK6 K6
        try simp only [Act.put, List.setIfInBounds_toArray, List.set_cons_zero, List.set_cons_succ]
        refine wpAnyH_take (i := 7) (oi := { dst := some 55, op := .convert _ _ (.tmp 54), type := _, pos := _, after := _, guard := _ }) (v := ?_) rfl (by kernel_rfl) (by kernel_rfl) (by kernel_rfl) (fun _ _ _ h => h) (Or.inl ⟨by rfl, ?_⟩) (by assumption) ?_
        rotate_left
        · (intro w hSw; (try dsimp only at hSw); go_simp) <;> with_reducible rfl
        try simp only [Act.put, List.setIfInBounds_toArray, List.set_cons_zero, List.set_cons_succ]
        refine wpAnyH_take (i := 8) (oi := { dst := some 56, op := .binOp _ _ (.tmp 55) _ _, type := _, pos := _, after := _, guard := _ }) (v := ?_) rfl (by kernel_rfl) (by kernel_rfl) (by kernel_rfl) (fun _ _ _ h => h) (Or.inl ⟨by rfl, ?_⟩) (by assumption) ?_
        rotate_left
        · (intro w hSw; (try dsimp only at hSw); go_simp) <;> with_reducible rfl
        try simp only [Act.put, List.setIfInBounds_toArray, List.set_cons_zero, List.set_cons_succ]
        refine wpAnyH_ready (rs := [2]) (by kernel_rfl) (by simp) ?_
        refine AllReadyH.cons (o := { dst := some 50, op := .load _ (.tmp 49), type := _, pos := _, after := _, guard := _ }) rfl (fun K6 hK6 => ?_) AllReadyH.nil
        go_simp
        refine hK6.out _ _ trivial (fun hHeld => ?_)
        clear hK6 K6
        try simp only [Act.put, List.setIfInBounds_toArray, List.set_cons_zero, List.set_cons_succ]
        refine wpAnyH_take (i := 9) (oi := { dst := some 57, op := .binOp _ _ (.tmp 50) (.tmp 56) _, type := _, pos := _, after := _, guard := _ }) (v := ?_) rfl (by kernel_rfl) (by kernel_rfl) (by kernel_rfl) (fun _ _ _ h => h) (Or.inl ⟨by rfl, ?_⟩) (by assumption) ?_
        rotate_left
        · (intro w hSw; (try dsimp only at hSw); go_simp) <;> with_reducible rfl
        try simp only [Act.put, List.setIfInBounds_toArray, List.set_cons_zero, List.set_cons_succ]
        refine wpAnyH_take (i := 10) (oi := { dst := some 58, op := .fieldAddr _ (.tmp 6) 1, type := _, pos := _, after := _, guard := _ }) (v := ?_) rfl (by kernel_rfl) (by kernel_rfl) (by kernel_rfl) (fun _ _ _ h => h) (Or.inl ⟨by rfl, ?_⟩) (by assumption) ?_
        rotate_left
        · (intro w hSw; (try dsimp only at hSw); go_simp) <;> with_reducible rfl
        try simp only [Act.put, List.setIfInBounds_toArray, List.set_cons_zero, List.set_cons_succ]
        refine wpAnyH_take (i := 11) (oi := { dst := some 59, op := .fieldAddr _ (.tmp 58) 0, type := _, pos := _, after := _, guard := _ }) (v := ?_) rfl (by kernel_rfl) (by kernel_rfl) (by kernel_rfl) (fun _ _ _ h => h) (Or.inl ⟨by rfl, ?_⟩) (by assumption) ?_
        rotate_left
        · (intro w hSw; (try dsimp only at hSw); go_simp) <;> with_reducible rfl
        try simp only [Act.put, List.setIfInBounds_toArray, List.set_cons_zero, List.set_cons_succ]
        refine wpAnyH_ready (rs := [12]) (by kernel_rfl) (by simp) ?_
        refine AllReadyH.cons (o := { dst := none, op := .store _ (.tmp 59) (.tmp 57), type := _, pos := _, after := _, guard := _ }) rfl (fun K6 hK6 => ?_) AllReadyH.nil
        go_simp
        refine hK6.out _ _ trivial (fun hHeld => ?_)
        clear hK6 K6
        try simp only [Act.put, List.setIfInBounds_toArray, List.set_cons_zero, List.set_cons_succ]
        refine wpAnyH_done (by kernel_rfl) ?_ _
      all_goals
        have hM8 := Lib.hid (hM7.out.below (W' := W7.drewN (1 + q8)) (below_drewN W7 (1 + q8)))
        clear hM7 f7 l7 y1 O3'
        have f8 := hM8.out.k.free
        have l8 := hM8.out.k.lt
        have hM9 := Lib.hid ((hM8.out.set 1 (.int .i64 AG)).congr (c' := (Value.bool true :: .int .i64 AG :: o0 :: o1 :: o2 :: o3 :: o4 :: o5 :: p0 :: p1 :: p2 :: p3 :: p4 :: p5 :: (V ++ [md, tv0])).toArray) (by simp))
        clear hM8 f8 l8
        generalize ((W7.drewN (1 + q8)).setCell ⟨b6, 1, none⟩ (.int .i64 AG)) = W9 at *
        have f9 := hM9.out.k.free
        have l9 := hM9.out.k.lt
        have hb9 : Below w.heap.size w W9 := hM9.out.n.bel
        go_wp2_with fail
        refine (P5.out _ hb9).mono ?_
        rintro e W10 ⟨rfl, hb10⟩
        have hM10 := Lib.hid (hM9.out.below hb10)
        clear hM9 f9 l9 hb9 hb10 P5
        have f10 := hM10.out.k.free
        have l10 := hM10.out.k.lt
        have y2 : W10.cell? ⟨b6, 2, none⟩ = some (o0) := hM10.out.cell (j := 2) (by simp)
        have y3 : W10.cell? ⟨b6, 3, none⟩ = some (o1) := hM10.out.cell (j := 3) (by simp)
        have y4 : W10.cell? ⟨b6, 4, none⟩ = some (o2) := hM10.out.cell (j := 4) (by simp)
        have y5 : W10.cell? ⟨b6, 5, none⟩ = some (o3) := hM10.out.cell (j := 5) (by simp)
        have y6 : W10.cell? ⟨b6, 6, none⟩ = some (o4) := hM10.out.cell (j := 6) (by simp)
        have y7 : W10.cell? ⟨b6, 7, none⟩ = some (o5) := hM10.out.cell (j := 7) (by simp)
        go_upto_region 13 with fail
        have hM11 := Lib.hid (((((((hM10.out.set 2 (.bool (Y1 == 1))).set 3 (.int .i64 Y2)).set 4 (.int .u8 Y3)).set 5 (.int .u8 0)).set 6 (.int .u32 Y4)).set 7 (.int .u32 Y5)).congr (c' := (Value.bool true :: .int .i64 AG :: .bool (Y1 == 1) :: .int .i64 Y2 :: .int .u8 Y3 :: .int .u8 0 :: .int .u32 Y4 :: .int .u32 Y5 :: p0 :: p1 :: p2 :: p3 :: p4 :: p5 :: (V ++ [md, tv0])).toArray) (by simp))
        clear hM10 f10 l10
        generalize ((((((W10.setCell ⟨b6, 2, none⟩ (.bool (Y1 == 1))).setCell ⟨b6, 3, none⟩ (.int .i64 Y2)).setCell ⟨b6, 4, none⟩ (.int .u8 Y3)).setCell ⟨b6, 5, none⟩ (.int .u8 0)).setCell ⟨b6, 6, none⟩ (.int .u32 Y4)).setCell ⟨b6, 7, none⟩ (.int .u32 Y5)) = W11 at *
        have f11 := hM11.out.k.free
        have l11 := hM11.out.k.lt
        clear y2 y3 y4 y5 y6 y7
        have y2 : W11.cell? ⟨b6, 2, none⟩ = some (.bool (Y1 == 1)) := hM11.out.cell (j := 2) (by simp)
        have y3 : W11.cell? ⟨b6, 3, none⟩ = some (.int .i64 Y2) := hM11.out.cell (j := 3) (by simp)
        have y4 : W11.cell? ⟨b6, 4, none⟩ = some (.int .u8 Y3) := hM11.out.cell (j := 4) (by simp)
        have y5 : W11.cell? ⟨b6, 5, none⟩ = some (.int .u8 0) := hM11.out.cell (j := 5) (by simp)
        have y6 : W11.cell? ⟨b6, 6, none⟩ = some (.int .u32 Y4) := hM11.out.cell (j := 6) (by simp)
        have y7 : W11.cell? ⟨b6, 7, none⟩ = some (.int .u32 Y5) := hM11.out.cell (j := 7) (by simp)
        have y8 : W11.cell? ⟨b6, 8, none⟩ = some (p0) := hM11.out.cell (j := 8) (by simp)
        have y9 : W11.cell? ⟨b6, 9, none⟩ = some (p1) := hM11.out.cell (j := 9) (by simp)
        have y10 : W11.cell? ⟨b6, 10, none⟩ = some (p2) := hM11.out.cell (j := 10) (by simp)
        have y11 : W11.cell? ⟨b6, 11, none⟩ = some (p3) := hM11.out.cell (j := 11) (by simp)
        have y12 : W11.cell? ⟨b6, 12, none⟩ = some (p4) := hM11.out.cell (j := 12) (by simp)
        have y13 : W11.cell? ⟨b6, 13, none⟩ = some (p5) := hM11.out.cell (j := 13) (by simp)
        go_upto_region 14 with fail
        have hM12 := Lib.hid (((((((hM11.out.set 8 (.bool (Y1 == 1))).set 9 (.int .i64 Y2)).set 10 (.int .u8 Y3)).set 11 (.int .u8 0)).set 12 (.int .u32 Y4)).set 13 (.int .u32 Y5)).congr (c' := (Value.bool true :: .int .i64 AG :: .bool (Y1 == 1) :: .int .i64 Y2 :: .int .u8 Y3 :: .int .u8 0 :: .int .u32 Y4 :: .int .u32 Y5 :: .bool (Y1 == 1) :: .int .i64 Y2 :: .int .u8 Y3 :: .int .u8 0 :: .int .u32 Y4 :: .int .u32 Y5 :: (V ++ [md, tv0])).toArray) (by simp))
        clear hM11 f11 l11
        generalize ((((((W11.setCell ⟨b6, 8, none⟩ (.bool (Y1 == 1))).setCell ⟨b6, 9, none⟩ (.int .i64 Y2)).setCell ⟨b6, 10, none⟩ (.int .u8 Y3)).setCell ⟨b6, 11, none⟩ (.int .u8 0)).setCell ⟨b6, 12, none⟩ (.int .u32 Y4)).setCell ⟨b6, 13, none⟩ (.int .u32 Y5)) = W12 at *
        have f12 := hM12.out.k.free
        have l12 := hM12.out.k.lt
        clear y2 y3 y4 y5 y6 y7 y8 y9 y10 y11 y12 y13
        have y9 : W12.cell? ⟨b6, 9, none⟩ = some (.int .i64 Y2) := hM12.out.cell (j := 9) (by simp)
        go_upto_region 15 with fail
        have hM13 := Lib.hid ((hM12.out.set 9 (.int .i64 (Y2 + 1))).congr (c' := (Value.bool true :: .int .i64 AG :: .bool (Y1 == 1) :: .int .i64 Y2 :: .int .u8 Y3 :: .int .u8 0 :: .int .u32 Y4 :: .int .u32 Y5 :: .bool (Y1 == 1) :: .int .i64 (Y2 + 1) :: .int .u8 Y3 :: .int .u8 0 :: .int .u32 Y4 :: .int .u32 Y5 :: (V ++ [md, tv0])).toArray) (by simp))
        clear hM12 f12 l12
        generalize (W12.setCell ⟨b6, 9, none⟩ (.int .i64 (Y2 + 1))) = W13 at *
        have f13 := hM13.out.k.free
        have l13 := hM13.out.k.lt
        clear y9
        have hb13 : Below w.heap.size w W13 := hM13.out.n.bel
        go_wp2_with fail
        refine (O8.out _ hb13).mono ?_
        rintro e W14' ⟨rfl, q14, rfl⟩
        have hM14 := Lib.hid (hM13.out.below (below_drewN W13 q14))
        clear hM13 f13 l13 hb13 O8
        generalize W13.drewN q14 = W14 at *
        have f14 := hM14.out.k.free
        have l14 := hM14.out.k.lt
        have y55 : W14.cell? ⟨b6, 55, none⟩ = some (md) := hM14.out.cell (j := 55) (by simp [hV])
        go_upto_region 16 with fail
        have hM16 := Lib.hid ((hM14.out.set 55 (.int .u8 Y7)).congr (c' := (Value.bool true :: .int .i64 AG :: .bool (Y1 == 1) :: .int .i64 Y2 :: .int .u8 Y3 :: .int .u8 0 :: .int .u32 Y4 :: .int .u32 Y5 :: .bool (Y1 == 1) :: .int .i64 (Y2 + 1) :: .int .u8 Y3 :: .int .u8 0 :: .int .u32 Y4 :: .int .u32 Y5 :: (V ++ [.int .u8 Y7, tv0])).toArray) (by simp [hV]))
        clear hM14 f14 l14
        generalize (W14.setCell ⟨b6, 55, none⟩ (.int .u8 Y7)) = W16 at *
        have f16 := hM16.out.k.free
        have l16 := hM16.out.k.lt
        have hYe0 : (Value.bool true :: .int .i64 AG :: .bool (Y1 == 1) :: .int .i64 Y2 :: .int .u8 Y3 :: .int .u8 0 :: .int .u32 Y4 :: .int .u32 Y5 :: .bool (Y1 == 1) :: .int .i64 (Y2 + 1) :: .int .u8 Y3 :: .int .u8 0 :: .int .u32 Y4 :: .int .u32 Y5 :: (V ++ [.int .u8 Y7, tv0])) = (noiseRow sp.sd t l R i).hd ++ [tv0] := by
          rw [hrow2.out]
          rfl
        have hYl0 : ((Value.bool true :: .int .i64 AG :: .bool (Y1 == 1) :: .int .i64 Y2 :: .int .u8 Y3 :: .int .u8 0 :: .int .u32 Y4 :: .int .u32 Y5 :: .bool (Y1 == 1) :: .int .i64 (Y2 + 1) :: .int .u8 Y3 :: .int .u8 0 :: .int .u32 Y4 :: .int .u32 Y5 :: (V ++ [.int .u8 Y7, tv0]))).length = 57 := by simp [hV]
        clear y55 f16 l16 hrow2
        generalize (Value.bool true :: .int .i64 AG :: .bool (Y1 == 1) :: .int .i64 Y2 :: .int .u8 Y3 :: .int .u8 0 :: .int .u32 Y4 :: .int .u32 Y5 :: .bool (Y1 == 1) :: .int .i64 (Y2 + 1) :: .int .u8 Y3 :: .int .u8 0 :: .int .u32 Y4 :: .int .u32 Y5 :: (V ++ [.int .u8 Y7, tv0])) = Y at *
        have hYe : Hid (Y = (noiseRow sp.sd t l R i).hd ++ [tv0]) := hYe0
        have hYl := hYl0
        clear hYe0 hYl0
        have hZo : Hid (∀ u ∈ Y, u.oneCell' = true) := fun u hu => by
          rw [hYe.out] at hu
          rcases List.mem_append.1 hu with hu | hu
          · exact Fits.one (noiseRow_ok hRok.out sp.sd t l i).hd u hu
          · simp at hu
            subst hu
            obtain ⟨_, _, rfl, _⟩ := hM16.out.t.out
            rfl
        have c1 : W16.cell? ⟨b3, 1, none⟩ = some v' := hM16.out.n.post.cell (i := 1) rfl
        have lb3 := hM16.out.n.post.lt
        have lb6 := hM16.out.k.lt
        have hO8 := Lib.hid (hM16.out.n.below (below_alloc W16 (.cells Y.toArray 97)))
        have hT8 := Lib.hid (hM16.out.t.below (below_alloc W16 (.cells Y.toArray 97)) (Nat.le_refl _))
        have kn8 := Lib.hid (Blk.new W16 Y.toArray 97)
        have hs8 := hO8.out.bel.size
        go_wp2_with (first | refine wpList_val rfl (ex_load_row 97 (.tmp 6) rfl b6 rfl 97 Y.toArray d0 hM16.out.k hd0 hd1 (by rw [rowSize]; simp [hYl])) ?_ | refine wpList_val rfl (ex_buildSlice1 36 97 (.tmp 90) rfl i0 z0 Y.toArray Try.underlying36 hi hz0 (by rw [hz1]; simpa using hYl) (by omega) (by omega) rfl) ?_ | (at_builtin; refine wpList_append_own _ rfl _ _ 36 rfl w.heap.size 97 i0 z0 57 160 Try.underlying36 hi hz0 hz1 hz2 hz3 (by decide) _ i (rowsFlat (RN.take i) tvs) rfl hO8.out.row ⟨W16.heap.size, 0, none⟩ 1 1 Y rfl (by simpa using hYl) (fun j u hj => by rw [add_head]; exact kn8.out.cell (by simpa using hj)) hZo.out (by unfold maxLen; omega) (by omega) hs8 ?_) | fail)
        intro v1 w9 hown hg _
        obtain ⟨g1', cp1, rfl⟩ : ∃ g c, v1 = .slice (some ⟨g, 0, none⟩) (i + 1) c := by
          rcases hown.2 with ⟨_, h⟩ | ⟨g, c, _, h, _⟩
          · omega
          · exact ⟨g, c, h⟩
        rw [hYe.out] at hown
        obtain ⟨e1, e2, e3, hN9⟩ := hO8.out.append hRi.out (hYt.out ▸ hT8.out) hown hg
        replace hN9 := Lib.hid hN9
        clear hown hg hO8 hT8 kn8 hs8 c1 lb3 lb6 hM16
        go_wp2_with fail
        exact hK (m - (i + 1)) _ _ (by omega) ⟨i + 1, _, tvs ++ [tv0], by omega, hN9, by kernel_rfl, rfl, by kernel_rfl, by kernel_rfl, by kernel_rfl, by kernel_rfl, by kernel_rfl⟩
    · have t1 : decide (0 < numI sp.sd t l (10 * (i : Int) + 1) % 4) = true := by have := hX2.out; simp; omega
      have hA5 := (hA.out w5 hM5.out.n.bel).1
      have hr : R[i]? = none := by simp; omega
      have hYt : Hid (([] : List (List Value)) = (noiseRow sp.sd t l R i).tab) := by
        show ([] : List (List Value)) = (noiseRow sp.sd t l R i).tab
        unfold noiseRow
        rw [if_neg q1, hr]
        rfl
      have hrow : Hid ((noiseRow sp.sd t l R i).hd = noiseH sp.sd t l (10 * (i : Int) + 1) zeroH) := by
        show (noiseRow sp.sd t l R i).hd = noiseH sp.sd t l (10 * (i : Int) + 1) zeroH
        unfold noiseRow
        rw [if_neg q1, hr]
        rfl
      have hk0 : Hid (HeldOk zeroH) := zeroH_ok
      obtain ⟨n, hvs, hnl⟩ : ∃ n, (∃ a c, v = .slice a n c) ∧ n = R.length := by
        rcases hA5.own with ⟨rfl, h1⟩ | ⟨_, _, _, _, h1, _⟩
        · exact ⟨0, ⟨_, _, rfl⟩, by rw [h1]; rfl⟩
        · exact ⟨_, ⟨_, _, h1⟩, rfl⟩
      obtain ⟨av, cv, rfl⟩ := hvs
      obtain ⟨b0, b1, b2, b3', b6', b7, b8, b9, lb⟩ := askCells hA5
      have q3 : decide ((i : Int) < (n : Int)) = false := by simp; omega
      have q4 : ¬ (i : Int) < (n : Int) := by omega
      generalize numI sp.sd t l (10 * (i : Int) + 1) % 4 = Z at *
      replace q1 := Lib.hid q1
      replace q2 := Lib.hid q2
      replace hnl := Lib.hid hnl
      have hM6 := hM5
      clear hM5 hA5 hr
      generalize hh0 : zeroH = h0 at *
      clear hh0
      generalize htv : Value.slice none 0 0 = tv0 at *
      clear htv
      generalize htab : ([] : List (List Value)) = tab0 at *
      clear htab
      go_upto_region 10 with fail
      clear b0 b1 b2 b3' b6' b7 b8 b9 lb q3 q4
      generalize hW : w5 = W6 at *
      clear hW
      obtain ⟨bb, x, o0, o1, o2, o3, o4, o5, p0, p1, p2, p3, p4, p5, V, md, hpt, hV, hdr, hg1⟩ := hk0.out.parts
      have hrow2 : Hid ((noiseRow sp.sd t l R i).hd ++ [tv0] = Value.bool true :: .int .i64 (IntKind.i64.wrap (x + (numI sp.sd t l (10 * (i : Int) + 1 + 1) % 16 - 8))) :: (saidL sp.sd t l (10 * (i : Int) + 1 + 2) ++ ((saidL sp.sd t l (10 * (i : Int) + 1 + 2)).set 1 (.int .i64 (numI sp.sd t l (10 * (i : Int) + 1 + 2 + 1) % 16 + 1)) ++ (V ++ [.int .u8 (numI sp.sd t l (10 * (i : Int) + 1 + 7) % 8), tv0])))) := by
        refine Lib.hid ?_
        rw [hrow.out]
        unfold noiseH mixH
        rw [hdr, hg1]
        simp [ageV]
      have hM6' : Hid (MidAt B w b3 SX RN i v' tvs b6 tv0 tab0 W6 (Value.bool bb :: .int .i64 x :: o0 :: o1 :: o2 :: o3 :: o4 :: o5 :: p0 :: p1 :: p2 :: p3 :: p4 :: p5 :: (V ++ [md, tv0])).toArray) := hM6.out.congr (by rw [hpt]; simp)
      have r1 := modR (numI sp.sd t l (10 * (i : Int) + 1 + 1)) 16 (by decide)
      have r3 := modR (numI sp.sd t l (10 * (i : Int) + 1 + 2 + 1)) 16 (by decide)
      have r7 := modR (numI sp.sd t l (10 * (i : Int) + 1 + 7)) 8 (by decide)
      have g6 : IntKind.i64.wrap (10 * (i : Int) + 1 + 1) = 10 * (i : Int) + 1 + 1 := wrapI _ (by omega) (by omega)
      have g7 : IntKind.i64.wrap (10 * (i : Int) + 1 + 2) = 10 * (i : Int) + 1 + 2 := wrapI _ (by omega) (by omega)
      have g8 : IntKind.i64.wrap (10 * (i : Int) + 1 + 7) = 10 * (i : Int) + 1 + 7 := wrapI _ (by omega) (by omega)
      have O3 := Lib.hid (fun W hW => hO.out W 16 (10 * (i : Int) + 1 + 1) hW (by omega))
      have O8 := Lib.hid (fun W hW => hO.out W 8 (10 * (i : Int) + 1 + 7) hW (by omega))
      have P5 := Lib.hid (fun W hW => hP.out W (10 * (i : Int) + 1 + 2) hW (by omega))
      unfold saidL at P5 hrow2
      clear hM6 hpt hdr hg1 hrow hk0
      generalize numI sp.sd t l (10 * (i : Int) + 1 + 1) % 16 = YA at *
      generalize numI sp.sd t l (10 * (i : Int) + 1 + 2) % 2 = Y1 at *
      generalize numI sp.sd t l (10 * (i : Int) + 1 + 2 + 1) % 16 = Y2 at *
      generalize 1 + numI sp.sd t l (10 * (i : Int) + 1 + 2 + 2) % 2 = Y3 at *
      generalize numI sp.sd t l (10 * (i : Int) + 1 + 2 + 3) % 64 = Y4 at *
      generalize numI sp.sd t l (10 * (i : Int) + 1 + 2 + 4) % 64 = Y5 at *
      generalize numI sp.sd t l (10 * (i : Int) + 1 + 7) % 8 = Y7 at *
      have u1 : IntKind.i64.wrap YA = YA := wrapI _ (by omega) (by omega)
      have u2 : IntKind.i64.wrap (YA - 8) = YA - 8 := wrapI _ (by omega) (by omega)
      have u3 : IntKind.i64.wrap (Y2 + 1) = Y2 + 1 := wrapI _ (by omega) (by omega)
      have u4 : IntKind.u8.wrap Y7 = Y7 := by rw [IntKind.wrap_u8]; omega
      clear r1 r3 r7
      generalize hAG : IntKind.i64.wrap (x + (YA - 8)) = AG at *
      have f6 := hM6'.out.k.free
      have l6 := hM6'.out.k.lt
      have hM6 := hM6'
      clear hM6'
      have y0 : W6.cell? ⟨b6, 0, none⟩ = some (.bool bb) := hM6.out.cell (j := 0) (by simp)
      go_upto_region 11 with fail
      have hM7 := Lib.hid ((hM6.out.set 0 (.bool true)).congr (c' := (Value.bool true :: .int .i64 x :: o0 :: o1 :: o2 :: o3 :: o4 :: o5 :: p0 :: p1 :: p2 :: p3 :: p4 :: p5 :: (V ++ [md, tv0])).toArray) (by simp))
      clear hM6 f6 l6
      generalize (W6.setCell ⟨b6, 0, none⟩ (.bool true)) = W7 at *
      have f7 := hM7.out.k.free
      have l7 := hM7.out.k.lt
      clear y0
      have y1 : W7.cell? ⟨b6, 1, none⟩ = some (.int .i64 x) := hM7.out.cell (j := 1) (by simp)
      have hb7 : Below w.heap.size w W7 := hM7.out.n.bel
      have hb7d : Below w.heap.size w W7.drew := bdrewN hb7 1
      have O3' := Lib.hid (O3.out W7.drew hb7d)
      clear O3 hb7 hb7d
      refine wp_region_held_drew (S := fun _ => True) (by kernel_rfl) trivial (fun hHeld => ?_)
      refine wpAnyH_take (i := 0) (oi := { dst := some 48, op := .fieldAddr _ (.tmp 6) 1, type := _, pos := _, after := _, guard := _ }) (v := ?_) rfl (by kernel_rfl) (by kernel_rfl) (by kernel_rfl) (fun _ _ _ h => h) (Or.inl ⟨by rfl, ?_⟩) (by assumption) ?_
      rotate_left
      · (intro w hSw; (try dsimp only at hSw); go_simp) <;> with_reducible rfl
      try simp only [Act.put, List.setIfInBounds_toArray, List.set_cons_zero, List.set_cons_succ]
      refine wpAnyH_take (i := 1) (oi := { dst := some 49, op := .fieldAddr _ (.tmp 48) 0, type := _, pos := _, after := _, guard := _ }) (v := ?_) rfl (by kernel_rfl) (by kernel_rfl) (by kernel_rfl) (fun _ _ _ h => h) (Or.inl ⟨by rfl, ?_⟩) (by assumption) ?_
      rotate_left
      · (intro w hSw; (try dsimp only at hSw); go_simp) <;> with_reducible rfl
      try simp only [Act.put, List.setIfInBounds_toArray, List.set_cons_zero, List.set_cons_succ]
      refine wpAnyH_take (i := 3) (oi := { dst := some 51, op := .move (.tmp 0), type := _, pos := _, after := _, guard := _ }) (v := ?_) rfl (by kernel_rfl) (by kernel_rfl) (by kernel_rfl) (fun _ _ _ h => h) (Or.inl ⟨by rfl, ?_⟩) (by assumption) ?_
      rotate_left
      · (intro w hSw; (try dsimp only at hSw); go_simp) <;> with_reducible rfl
      try simp only [Act.put, List.setIfInBounds_toArray, List.set_cons_zero, List.set_cons_succ]
      refine wpAnyH_take (i := 4) (oi := { dst := some 52, op := .move (.tmp 5), type := _, pos := _, after := _, guard := _ }) (v := ?_) rfl (by kernel_rfl) (by kernel_rfl) (by kernel_rfl) (fun _ _ _ h => h) (Or.inl ⟨by rfl, ?_⟩) (by assumption) ?_
      rotate_left
      · (intro w hSw; (try dsimp only at hSw); go_simp) <;> with_reducible rfl
      try simp only [Act.put, List.setIfInBounds_toArray, List.set_cons_zero, List.set_cons_succ]
      refine wpAnyH_take (i := 5) (oi := { dst := some 53, op := .binOp _ _ (.tmp 52) _ _, type := _, pos := _, after := _, guard := _ }) (v := ?_) rfl (by kernel_rfl) (by kernel_rfl) (by kernel_rfl) (fun _ _ _ h => h) (Or.inl ⟨by rfl, ?_⟩) (by assumption) ?_
      rotate_left
      · (intro w hSw; (try dsimp only at hSw); go_simp) <;> with_reducible rfl
      try simp only [Act.put, List.setIfInBounds_toArray, List.set_cons_zero, List.set_cons_succ]
      refine wpAnyH_ready (rs := [2, 6]) (by kernel_rfl) (by simp) ?_
      refine AllReadyH.cons (o := { dst := some 50, op := .load _ (.tmp 49), type := _, pos := _, after := _, guard := _ }) rfl (fun K6 hK6 => ?_) (AllReadyH.cons (o := { dst := some 54, op := .call { callee := .value (.func 131), args := _, argTypes := _ }, type := _, pos := _, after := _, guard := _ }) rfl (fun K6 hK6 => ?_) AllReadyH.nil)
      focus
        go_simp
        refine hK6.out _ _ trivial (fun hHeld => ?_)
        clear hK6 K6
        try simp only [Act.put, List.setIfInBounds_toArray, List.set_cons_zero, List.set_cons_succ]
        refine wpAnyH_ready (rs := [6]) (by kernel_rfl) (by simp) ?_
        refine AllReadyH.cons (o := { dst := some 54, op := .call { callee := .value (.func 131), args := _, argTypes := _ }, type := _, pos := _, after := _, guard := _ }) rfl (fun K6 hK6 => ?_) AllReadyH.nil
        go_simp
        refine O3'.out.mono ?_
        rintro e W8 ⟨rfl, q8, rfl⟩
        refine hK6.out _ _ trivial (fun hHeld => ?_)
        clear hK6 K6
        try simp only [Act.put, List.setIfInBounds_toArray, List.set_cons_zero, List.set_cons_succ]
        refine wpAnyH_take (i := 7) (oi := { dst := some 55, op := .convert _ _ (.tmp 54), type := _, pos := _, after := _, guard := _ }) (v := ?_) rfl (by kernel_rfl) (by kernel_rfl) (by kernel_rfl) (fun _ _ _ h => h) (Or.inl ⟨by rfl, ?_⟩) (by assumption) ?_
        rotate_left
        · (intro w hSw; (try dsimp only at hSw); go_simp) <;> with_reducible rfl
        try simp only [Act.put, List.setIfInBounds_toArray, List.set_cons_zero, List.set_cons_succ]
        refine wpAnyH_take (i := 8) (oi := { dst := some 56, op := .binOp _ _ (.tmp 55) _ _, type := _, pos := _, after := _, guard := _ }) (v := ?_) rfl (by kernel_rfl) (by kernel_rfl) (by kernel_rfl) (fun _ _ _ h => h) (Or.inl ⟨by rfl, ?_⟩) (by assumption) ?_
        rotate_left
        · (intro w hSw; (try dsimp only at hSw); go_simp) <;> with_reducible rfl
        try simp only [Act.put, List.setIfInBounds_toArray, List.set_cons_zero, List.set_cons_succ]
        refine wpAnyH_take (i := 9) (oi := { dst := some 57, op := .binOp _ _ (.tmp 50) (.tmp 56) _, type := _, pos := _, after := _, guard := _ }) (v := ?_) rfl (by kernel_rfl) (by kernel_rfl) (by kernel_rfl) (fun _ _ _ h => h) (Or.inl ⟨by rfl, ?_⟩) (by assumption) ?_
        rotate_left
        · (intro w hSw; (try dsimp only at hSw); go_simp) <;> with_reducible rfl
        try simp only [Act.put, List.setIfInBounds_toArray, List.set_cons_zero, List.set_cons_succ]
        refine wpAnyH_take (i := 10) (oi := { dst := some 58, op := .fieldAddr _ (.tmp 6) 1, type := _, pos := _, after := _, guard := _ }) (v := ?_) rfl (by kernel_rfl) (by kernel_rfl) (by kernel_rfl) (fun _ _ _ h => h) (Or.inl ⟨by rfl, ?_⟩) (by assumption) ?_
        rotate_left
        · (intro w hSw; (try dsimp only at hSw); go_simp) <;> with_reducible rfl
        try simp only [Act.put, List.setIfInBounds_toArray, List.set_cons_zero, List.set_cons_succ]
        refine wpAnyH_take (i := 11) (oi := { dst := some 59, op := .fieldAddr _ (.tmp 58) 0, type := _, pos := _, after := _, guard := _ }) (v := ?_) rfl (by kernel_rfl) (by kernel_rfl) (by kernel_rfl) (fun _ _ _ h => h) (Or.inl ⟨by rfl, ?_⟩) (by assumption) ?_
        rotate_left
        · (intro w hSw; (try dsimp only at hSw); go_simp) <;> with_reducible rfl
        try simp only [Act.put, List.setIfInBounds_toArray, List.set_cons_zero, List.set_cons_succ]
        refine wpAnyH_ready (rs := [12]) (by kernel_rfl) (by simp) ?_
        refine AllReadyH.cons (o := { dst := none, op := .store _ (.tmp 59) (.tmp 57), type := _, pos := _, after := _, guard := _ }) rfl (fun K6 hK6 => ?_) AllReadyH.nil
        go_simp
        refine hK6.out _ _ trivial (fun hHeld => ?_)
        clear hK6 K6
        try simp only [Act.put, List.setIfInBounds_toArray, List.set_cons_zero, List.set_cons_succ]
        refine wpAnyH_done (by kernel_rfl) ?_ _
      rotate_left
      focus
        go_simp
        refine O3'.out.mono ?_
        rintro e W8 ⟨rfl, q8, rfl⟩
        refine hK6.out _ _ trivial (fun hHeld => ?_)
        clear hK6 K6
        try simp only [Act.put, List.setIfInBounds_toArray, List.set_cons_zero, List.set_cons_succ]
        refine wpAnyH_take (i := 7) (oi := { dst := some 55, op := .convert _ _ (.tmp 54), type := _, pos := _, after := _, guard := _ }) (v := ?_) rfl (by kernel_rfl) (by kernel_rfl) (by kernel_rfl) (fun _ _ _ h => h) (Or.inl ⟨by rfl, ?_⟩) (by assumption) ?_
        rotate_left
        · (intro w hSw; (try dsimp only at hSw); go_simp) <;> with_reducible rfl
        try simp only [Act.put, List.setIfInBounds_toArray, List.set_cons_zero, List.set_cons_succ]
        refine wpAnyH_take (i := 8) (oi := { dst := some 56, op := .binOp _ _ (.tmp 55) _ _, type := _, pos := _, after := _, guard := _ }) (v := ?_) rfl (by kernel_rfl) (by kernel_rfl) (by kernel_rfl) (fun _ _ _ h => h) (Or.inl ⟨by rfl, ?_⟩) (by assumption) ?_
        rotate_left
        · (intro w hSw; (try dsimp only at hSw); go_simp) <;> with_reducible rfl
        try simp only [Act.put, List.setIfInBounds_toArray, List.set_cons_zero, List.set_cons_succ]
        refine wpAnyH_ready (rs := [2]) (by kernel_rfl) (by simp) ?_
        refine AllReadyH.cons (o := { dst := some 50, op := .load _ (.tmp 49), type := _, pos := _, after := _, guard := _ }) rfl (fun K6 hK6 => ?_) AllReadyH.nil
        go_simp
        refine hK6.out _ _ trivial (fun hHeld => ?_)
        clear hK6 K6
        try simp only [Act.put, List.setIfInBounds_toArray, List.set_cons_zero, List.set_cons_succ]
        refine wpAnyH_take (i := 9) (oi := { dst := some 57, op := .binOp _ _ (.tmp 50) (.tmp 56) _, type := _, pos := _, after := _, guard := _ }) (v := ?_) rfl (by kernel_rfl) (by kernel_rfl) (by kernel_rfl) (fun _ _ _ h => h) (Or.inl ⟨by rfl, ?_⟩) (by assumption) ?_
        rotate_left
        · (intro w hSw; (try dsimp only at hSw); go_simp) <;> with_reducible rfl
        try simp only [Act.put, List.setIfInBounds_toArray, List.set_cons_zero, List.set_cons_succ]
        refine wpAnyH_take (i := 10) (oi := { dst := some 58, op := .fieldAddr _ (.tmp 6) 1, type := _, pos := _, after := _, guard := _ }) (v := ?_) rfl (by kernel_rfl) (by kernel_rfl) (by kernel_rfl) (fun _ _ _ h => h) (Or.inl ⟨by rfl, ?_⟩) (by assumption) ?_
        rotate_left
        · (intro w hSw; (try dsimp only at hSw); go_simp) <;> with_reducible rfl
        try simp only [Act.put, List.setIfInBounds_toArray, List.set_cons_zero, List.set_cons_succ]
        refine wpAnyH_take (i := 11) (oi := { dst := some 59, op := .fieldAddr _ (.tmp 58) 0, type := _, pos := _, after := _, guard := _ }) (v := ?_) rfl (by kernel_rfl) (by kernel_rfl) (by kernel_rfl) (fun _ _ _ h => h) (Or.inl ⟨by rfl, ?_⟩) (by assumption) ?_
        rotate_left
        · (intro w hSw; (try dsimp only at hSw); go_simp) <;> with_reducible rfl
        try simp only [Act.put, List.setIfInBounds_toArray, List.set_cons_zero, List.set_cons_succ]
        refine wpAnyH_ready (rs := [12]) (by kernel_rfl) (by simp) ?_
        refine AllReadyH.cons (o := { dst := none, op := .store _ (.tmp 59) (.tmp 57), type := _, pos := _, after := _, guard := _ }) rfl (fun K6 hK6 => ?_) AllReadyH.nil
        go_simp
        refine hK6.out _ _ trivial (fun hHeld => ?_)
        clear hK6 K6
        try simp only [Act.put, List.setIfInBounds_toArray, List.set_cons_zero, List.set_cons_succ]
        refine wpAnyH_done (by kernel_rfl) ?_ _
      all_goals
        have hM8 := Lib.hid (hM7.out.below (W' := W7.drewN (1 + q8)) (below_drewN W7 (1 + q8)))
        clear hM7 f7 l7 y1 O3'
        have f8 := hM8.out.k.free
        have l8 := hM8.out.k.lt
        have hM9 := Lib.hid ((hM8.out.set 1 (.int .i64 AG)).congr (c' := (Value.bool true :: .int .i64 AG :: o0 :: o1 :: o2 :: o3 :: o4 :: o5 :: p0 :: p1 :: p2 :: p3 :: p4 :: p5 :: (V ++ [md, tv0])).toArray) (by simp))
        clear hM8 f8 l8
        generalize ((W7.drewN (1 + q8)).setCell ⟨b6, 1, none⟩ (.int .i64 AG)) = W9 at *
        have f9 := hM9.out.k.free
        have l9 := hM9.out.k.lt
        have hb9 : Below w.heap.size w W9 := hM9.out.n.bel
        go_wp2_with fail
        refine (P5.out _ hb9).mono ?_
        rintro e W10 ⟨rfl, hb10⟩
        have hM10 := Lib.hid (hM9.out.below hb10)
        clear hM9 f9 l9 hb9 hb10 P5
        have f10 := hM10.out.k.free
        have l10 := hM10.out.k.lt
        have y2 : W10.cell? ⟨b6, 2, none⟩ = some (o0) := hM10.out.cell (j := 2) (by simp)
        have y3 : W10.cell? ⟨b6, 3, none⟩ = some (o1) := hM10.out.cell (j := 3) (by simp)
        have y4 : W10.cell? ⟨b6, 4, none⟩ = some (o2) := hM10.out.cell (j := 4) (by simp)
        have y5 : W10.cell? ⟨b6, 5, none⟩ = some (o3) := hM10.out.cell (j := 5) (by simp)
        have y6 : W10.cell? ⟨b6, 6, none⟩ = some (o4) := hM10.out.cell (j := 6) (by simp)
        have y7 : W10.cell? ⟨b6, 7, none⟩ = some (o5) := hM10.out.cell (j := 7) (by simp)
        go_upto_region 13 with fail
        have hM11 := Lib.hid (((((((hM10.out.set 2 (.bool (Y1 == 1))).set 3 (.int .i64 Y2)).set 4 (.int .u8 Y3)).set 5 (.int .u8 0)).set 6 (.int .u32 Y4)).set 7 (.int .u32 Y5)).congr (c' := (Value.bool true :: .int .i64 AG :: .bool (Y1 == 1) :: .int .i64 Y2 :: .int .u8 Y3 :: .int .u8 0 :: .int .u32 Y4 :: .int .u32 Y5 :: p0 :: p1 :: p2 :: p3 :: p4 :: p5 :: (V ++ [md, tv0])).toArray) (by simp))
        clear hM10 f10 l10
        generalize ((((((W10.setCell ⟨b6, 2, none⟩ (.bool (Y1 == 1))).setCell ⟨b6, 3, none⟩ (.int .i64 Y2)).setCell ⟨b6, 4, none⟩ (.int .u8 Y3)).setCell ⟨b6, 5, none⟩ (.int .u8 0)).setCell ⟨b6, 6, none⟩ (.int .u32 Y4)).setCell ⟨b6, 7, none⟩ (.int .u32 Y5)) = W11 at *
        have f11 := hM11.out.k.free
        have l11 := hM11.out.k.lt
        clear y2 y3 y4 y5 y6 y7
        have y2 : W11.cell? ⟨b6, 2, none⟩ = some (.bool (Y1 == 1)) := hM11.out.cell (j := 2) (by simp)
        have y3 : W11.cell? ⟨b6, 3, none⟩ = some (.int .i64 Y2) := hM11.out.cell (j := 3) (by simp)
        have y4 : W11.cell? ⟨b6, 4, none⟩ = some (.int .u8 Y3) := hM11.out.cell (j := 4) (by simp)
        have y5 : W11.cell? ⟨b6, 5, none⟩ = some (.int .u8 0) := hM11.out.cell (j := 5) (by simp)
        have y6 : W11.cell? ⟨b6, 6, none⟩ = some (.int .u32 Y4) := hM11.out.cell (j := 6) (by simp)
        have y7 : W11.cell? ⟨b6, 7, none⟩ = some (.int .u32 Y5) := hM11.out.cell (j := 7) (by simp)
        have y8 : W11.cell? ⟨b6, 8, none⟩ = some (p0) := hM11.out.cell (j := 8) (by simp)
        have y9 : W11.cell? ⟨b6, 9, none⟩ = some (p1) := hM11.out.cell (j := 9) (by simp)
        have y10 : W11.cell? ⟨b6, 10, none⟩ = some (p2) := hM11.out.cell (j := 10) (by simp)
        have y11 : W11.cell? ⟨b6, 11, none⟩ = some (p3) := hM11.out.cell (j := 11) (by simp)
        have y12 : W11.cell? ⟨b6, 12, none⟩ = some (p4) := hM11.out.cell (j := 12) (by simp)
        have y13 : W11.cell? ⟨b6, 13, none⟩ = some (p5) := hM11.out.cell (j := 13) (by simp)
        go_upto_region 14 with fail
        have hM12 := Lib.hid (((((((hM11.out.set 8 (.bool (Y1 == 1))).set 9 (.int .i64 Y2)).set 10 (.int .u8 Y3)).set 11 (.int .u8 0)).set 12 (.int .u32 Y4)).set 13 (.int .u32 Y5)).congr (c' := (Value.bool true :: .int .i64 AG :: .bool (Y1 == 1) :: .int .i64 Y2 :: .int .u8 Y3 :: .int .u8 0 :: .int .u32 Y4 :: .int .u32 Y5 :: .bool (Y1 == 1) :: .int .i64 Y2 :: .int .u8 Y3 :: .int .u8 0 :: .int .u32 Y4 :: .int .u32 Y5 :: (V ++ [md, tv0])).toArray) (by simp))
        clear hM11 f11 l11
        generalize ((((((W11.setCell ⟨b6, 8, none⟩ (.bool (Y1 == 1))).setCell ⟨b6, 9, none⟩ (.int .i64 Y2)).setCell ⟨b6, 10, none⟩ (.int .u8 Y3)).setCell ⟨b6, 11, none⟩ (.int .u8 0)).setCell ⟨b6, 12, none⟩ (.int .u32 Y4)).setCell ⟨b6, 13, none⟩ (.int .u32 Y5)) = W12 at *
        have f12 := hM12.out.k.free
        have l12 := hM12.out.k.lt
        clear y2 y3 y4 y5 y6 y7 y8 y9 y10 y11 y12 y13
        have y9 : W12.cell? ⟨b6, 9, none⟩ = some (.int .i64 Y2) := hM12.out.cell (j := 9) (by simp)
        go_upto_region 15 with fail
        have hM13 := Lib.hid ((hM12.out.set 9 (.int .i64 (Y2 + 1))).congr (c' := (Value.bool true :: .int .i64 AG :: .bool (Y1 == 1) :: .int .i64 Y2 :: .int .u8 Y3 :: .int .u8 0 :: .int .u32 Y4 :: .int .u32 Y5 :: .bool (Y1 == 1) :: .int .i64 (Y2 + 1) :: .int .u8 Y3 :: .int .u8 0 :: .int .u32 Y4 :: .int .u32 Y5 :: (V ++ [md, tv0])).toArray) (by simp))
        clear hM12 f12 l12
        generalize (W12.setCell ⟨b6, 9, none⟩ (.int .i64 (Y2 + 1))) = W13 at *
        have f13 := hM13.out.k.free
        have l13 := hM13.out.k.lt
        clear y9
        have hb13 : Below w.heap.size w W13 := hM13.out.n.bel
        go_wp2_with fail
        refine (O8.out _ hb13).mono ?_
        rintro e W14' ⟨rfl, q14, rfl⟩
        have hM14 := Lib.hid (hM13.out.below (below_drewN W13 q14))
        clear hM13 f13 l13 hb13 O8
        generalize W13.drewN q14 = W14 at *
        have f14 := hM14.out.k.free
        have l14 := hM14.out.k.lt
        have y55 : W14.cell? ⟨b6, 55, none⟩ = some (md) := hM14.out.cell (j := 55) (by simp [hV])
        go_upto_region 16 with fail
        have hM16 := Lib.hid ((hM14.out.set 55 (.int .u8 Y7)).congr (c' := (Value.bool true :: .int .i64 AG :: .bool (Y1 == 1) :: .int .i64 Y2 :: .int .u8 Y3 :: .int .u8 0 :: .int .u32 Y4 :: .int .u32 Y5 :: .bool (Y1 == 1) :: .int .i64 (Y2 + 1) :: .int .u8 Y3 :: .int .u8 0 :: .int .u32 Y4 :: .int .u32 Y5 :: (V ++ [.int .u8 Y7, tv0])).toArray) (by simp [hV]))
        clear hM14 f14 l14
        generalize (W14.setCell ⟨b6, 55, none⟩ (.int .u8 Y7)) = W16 at *
        have f16 := hM16.out.k.free
        have l16 := hM16.out.k.lt
        have hYe0 : (Value.bool true :: .int .i64 AG :: .bool (Y1 == 1) :: .int .i64 Y2 :: .int .u8 Y3 :: .int .u8 0 :: .int .u32 Y4 :: .int .u32 Y5 :: .bool (Y1 == 1) :: .int .i64 (Y2 + 1) :: .int .u8 Y3 :: .int .u8 0 :: .int .u32 Y4 :: .int .u32 Y5 :: (V ++ [.int .u8 Y7, tv0])) = (noiseRow sp.sd t l R i).hd ++ [tv0] := by
          rw [hrow2.out]
          rfl
        have hYl0 : ((Value.bool true :: .int .i64 AG :: .bool (Y1 == 1) :: .int .i64 Y2 :: .int .u8 Y3 :: .int .u8 0 :: .int .u32 Y4 :: .int .u32 Y5 :: .bool (Y1 == 1) :: .int .i64 (Y2 + 1) :: .int .u8 Y3 :: .int .u8 0 :: .int .u32 Y4 :: .int .u32 Y5 :: (V ++ [.int .u8 Y7, tv0]))).length = 57 := by simp [hV]
        clear y55 f16 l16 hrow2
        generalize (Value.bool true :: .int .i64 AG :: .bool (Y1 == 1) :: .int .i64 Y2 :: .int .u8 Y3 :: .int .u8 0 :: .int .u32 Y4 :: .int .u32 Y5 :: .bool (Y1 == 1) :: .int .i64 (Y2 + 1) :: .int .u8 Y3 :: .int .u8 0 :: .int .u32 Y4 :: .int .u32 Y5 :: (V ++ [.int .u8 Y7, tv0])) = Y at *
        have hYe : Hid (Y = (noiseRow sp.sd t l R i).hd ++ [tv0]) := hYe0
        have hYl := hYl0
        clear hYe0 hYl0
        have hZo : Hid (∀ u ∈ Y, u.oneCell' = true) := fun u hu => by
          rw [hYe.out] at hu
          rcases List.mem_append.1 hu with hu | hu
          · exact Fits.one (noiseRow_ok hRok.out sp.sd t l i).hd u hu
          · simp at hu
            subst hu
            obtain ⟨_, _, rfl, _⟩ := hM16.out.t.out
            rfl
        have c1 : W16.cell? ⟨b3, 1, none⟩ = some v' := hM16.out.n.post.cell (i := 1) rfl
        have lb3 := hM16.out.n.post.lt
        have lb6 := hM16.out.k.lt
        have hO8 := Lib.hid (hM16.out.n.below (below_alloc W16 (.cells Y.toArray 97)))
        have hT8 := Lib.hid (hM16.out.t.below (below_alloc W16 (.cells Y.toArray 97)) (Nat.le_refl _))
        have kn8 := Lib.hid (Blk.new W16 Y.toArray 97)
        have hs8 := hO8.out.bel.size
        go_wp2_with (first | refine wpList_val rfl (ex_load_row 97 (.tmp 6) rfl b6 rfl 97 Y.toArray d0 hM16.out.k hd0 hd1 (by rw [rowSize]; simp [hYl])) ?_ | refine wpList_val rfl (ex_buildSlice1 36 97 (.tmp 90) rfl i0 z0 Y.toArray Try.underlying36 hi hz0 (by rw [hz1]; simpa using hYl) (by omega) (by omega) rfl) ?_ | (at_builtin; refine wpList_append_own _ rfl _ _ 36 rfl w.heap.size 97 i0 z0 57 160 Try.underlying36 hi hz0 hz1 hz2 hz3 (by decide) _ i (rowsFlat (RN.take i) tvs) rfl hO8.out.row ⟨W16.heap.size, 0, none⟩ 1 1 Y rfl (by simpa using hYl) (fun j u hj => by rw [add_head]; exact kn8.out.cell (by simpa using hj)) hZo.out (by unfold maxLen; omega) (by omega) hs8 ?_) | fail)
        intro v1 w9 hown hg _
        obtain ⟨g1', cp1, rfl⟩ : ∃ g c, v1 = .slice (some ⟨g, 0, none⟩) (i + 1) c := by
          rcases hown.2 with ⟨_, h⟩ | ⟨g, c, _, h, _⟩
          · omega
          · exact ⟨g, c, h⟩
        rw [hYe.out] at hown
        obtain ⟨e1, e2, e3, hN9⟩ := hO8.out.append hRi.out (hYt.out ▸ hT8.out) hown hg
        replace hN9 := Lib.hid hN9
        clear hown hg hO8 hT8 kn8 hs8 c1 lb3 lb6 hM16
        go_wp2_with fail
        exact hK (m - (i + 1)) _ _ (by omega) ⟨i + 1, _, tvs ++ [tv0], by omega, hN9, by kernel_rfl, rfl, by kernel_rfl, by kernel_rfl, by kernel_rfl, by kernel_rfl, by kernel_rfl⟩
  have g1 : decide ((i : Int) < (m : Int)) = false := by simp; omega
  have g2 : ¬ (i : Int) < (m : Int) := by omega
  obtain rfl : i = m := by omega
  obtain ⟨va, vn, vc, rfl⟩ : ∃ a n c, v' = .slice a n c := by
    rcases hN.out.row.2 with ⟨rfl, _⟩ | ⟨_, _, _, rfl, _⟩
    · exact ⟨_, _, _, rfl⟩
    · exact ⟨_, _, _, rfl⟩
  have s0 := hN.out.post.cell (i := 0) rfl
  have s1 := hN.out.post.cell (i := 1) rfl
  have ls := hN.out.post.lt
  have r0 := hN.out.out.cell (i := 0) rfl
  have r1 := hN.out.out.cell (i := 1) rfl
  have rf := hN.out.out.free
  have rl := hN.out.out.lt
  have kr := Lib.hid hN.out.out
  have hF : Hid (OwnWord 97 163 B wr (.slice va vn vc) RN) := by
    have h1 := hN.out
    rw [← hlenN] at h1
    exact h1.fin hB
  have hbF := Lib.hid hN.out.bel
  have hfin := Lib.hid (fun w9 hT => PostR.laid (w := w) (r := ⟨SX, RN⟩) (w2 := w9) hF.out (hbF.out.mono hB) (KeepU.of_below hbF.out) hB (b := w.heap.size) (Nat.le_refl _) kr.out hT)
  clear hN hF hlenN
  go_wp2_with fail
  refine postRet 2 (by kernel_rfl) w.heap.size SX _ rfl (((kr.out.set 0 (.int .u8 SX)).set 1 (.slice va vn vc)).congr rfl) rfl ?_
  have hq := hfin.out _ (((Touch.refl [w.heap.size] wr).setCell (p := ⟨w.heap.size, 0, none⟩) (.inl (by simp)) (.int .u8 SX)).setCell (p := ⟨w.heap.size, 1, none⟩) (.inl (by simp)) (.slice va vn vc))
  rw [hnc.out]
  exact hq
end Go.Proofs.Ytmdohnbhogfopaa
