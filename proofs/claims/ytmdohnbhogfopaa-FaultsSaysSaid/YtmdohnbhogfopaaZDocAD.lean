/- Several texts, one behind the other: DocA DocB DocC DocD. -/
import Derived.Test.YtmdohnbhogfopaaZLivAC
import Derived.Test.YtmdohnbhogfopaaZLowA
/- The document's copy of a row. -/
namespace Go.Proofs.Ytmdohnbhogfopaa
open Go.RowKit Go.Maps
set_option linter.unusedSimpArgs false
set_option linter.unusedVariables false
set_option maxRecDepth 100000
theorem append_srcB {P : Program} {w : World} {ops : Array Oper} {rest : List Oper} {o : Oper} {a : Act} {Q : Exit → Act → World → Prop} (hgd : o.guard = none) (s x : Operand) (t : TypeId)
    (ho : o.op = .call { callee := .builtin .append, args := #[s, x], argTypes := #[t, t] })
    (base : Nat) (e : TypeId) (i : TypeInfo) (z : Value) (size bytes : Nat) (ht : P.underlying t = some (.slice e)) (hi : P.info? e = some i) (hz : i.zero = some z)
    (hsize : i.size = size) (hby : i.bytes = bytes) (hzs : z.cells.size = size) (hsz : 0 < size)
    (v : Value) (n : Nat) (xs : List Value) (hs : a.eval s = v) (hown : w.ownsRow base e size v n xs)
    (sp : Option Addr) (m c : Nat) (news : List Value) (hx : a.eval x = .slice sp m c) (hnil : sp = none → m = 0 ∧ c = 0) (hl : news.length = m * size) (hnews : ∀ ad, sp = some ad → ∀ j u, news[j]? = some u → w.cell? (ad.add j) = some u) (h1 : ∀ u ∈ news, u.oneCell' = true)
    (h63 : n + m ≤ maxLen) (hbytes : (n + m) * bytes ≤ 140737488355328) (hbase : base ≤ w.heap.size)
    (h : ∀ v' w', w'.ownsRow base e size v' (n + m) (xs ++ news) → w.grownBy w' v.ownBlock → wpList P ops Q rest (a.put o.dst v') w') : wpList P ops Q (o :: rest) a w := by
  cases sp with
  | none =>
    obtain ⟨rfl, rfl⟩ := hnil rfl
    obtain rfl : news = [] := List.eq_nil_of_length_eq_zero (by simpa using hl)
    exact wpList_append_own_none hgd s x t ho base e i size ht hi v n xs hs hown hx (h v w (by simpa using hown) (grown_refl _ _))
  | some ad => exact wpList_append_own w hgd s x t ho base e i z size bytes ht hi hz hsize hby hzs hsz v n xs hs hown ad m c news hx hl (hnews ad rfl) h1 h63 hbytes hbase fun v' w' h1 h2 _ => h v' w' h1 h2
/-- A table that may be read: its parts. -/
theorem TabAt.parts {lo : Nat} {w : World} {v : Value} {Ts : List (List Value)} (h : TabAt lo w v Ts) : ∃ sp cap, v = .slice sp Ts.length cap ∧ (sp = none → Ts.length = 0 ∧ cap = 0) ∧ Ts.length ≤ cap ∧ cap ≤ maxLen ∧ ∀ ad, sp = some ad → ∀ j u, Ts.flatten[j]? = some u → w.cell? (ad.add j) = some u := by
  rcases h with ⟨rfl, rfl⟩ | ⟨ad, cap, rfl, h1, h2, _, h3⟩
  · exact ⟨none, 0, rfl, fun _ => ⟨rfl, rfl⟩, Nat.le_refl _, Nat.zero_le _, fun ad h => by cases h⟩
  · exact ⟨some ad, cap, rfl, (fun h => by cases h), h1, h2, (fun ad' h => by cases h; exact h3)⟩
set_option maxHeartbeats 1000000 in
theorem copyR2 (w : World) (r : RowC) (tv : Value) (ht : TabAt 0 w tv r.tab) (hk : RowOk r) (hn : r.tab.length ≤ 1000000) :
    Calls Try.prog 119 #[.agg (r.hd ++ [tv]).toArray] w fun e w' => ∃ tv', e = .returned (.agg (r.hd ++ [tv']).toArray) ∧ OwnTab 204 w.heap.size w' tv' r.tab ∧ Below w.heap.size w w' := by
  obtain ⟨i0, z0, hi, hz0, hz1, hz2, hz3, -⟩ := rowInfo2
  obtain ⟨i2, z2, hi2, hy0, hy1, hy2, hy3, -⟩ := heldInfo2
  obtain ⟨d0, hd0, hd1⟩ := rowRow2
  obtain ⟨sp, cp, rfl, hnil, hcl, hcm, hcs⟩ := ht.parts
  have hl := hk.hd.length
  have hlF := flat_length hk.tab
  have h1c := Lib.hid (flat_one hk.tab)
  have hone : ∀ v', (∃ a n c, v' = Value.slice a n c) → (r.hd ++ [v']).toArray.all (·.oneCell') = true := fun v' hv' => by
    apply all_oneCell_toArray
    intro u hu
    rcases List.mem_append.1 hu with hu | hu
    · exact Fits.one hk.hd u hu
    · simp at hu
      obtain ⟨a, n, c, rfl⟩ := hv'
      subst hu
      rfl
  have hsz : ∀ v', (r.hd ++ [v']).toArray.size = 57 := fun v' => by simp [hl]
  have hX : (r.hd ++ [Value.slice sp r.tab.length cp]).toArray[56]? = some (.slice sp r.tab.length cp) := by simp [hl]
  have hset : ∀ v', (r.hd ++ [Value.slice sp r.tab.length cp]).toArray.setIfInBounds 56 v' = (r.hd ++ [v']).toArray := fun v' => set_last hl
  have hXs := hsz (.slice sp r.tab.length cp)
  replace hone := Lib.hid hone
  replace hsz := Lib.hid hsz
  replace hset := Lib.hid hset
  have hrow : Hid (∀ v' W, W.ownsRow w.heap.size 204 56 v' r.tab.length r.tab.flatten → OwnTab 204 w.heap.size W v' r.tab) := fun v' W h => .of_row h
  replace hcs := Lib.hid hcs
  replace hnil := Lib.hid hnil
  clear hk ht
  generalize hXe : (r.hd ++ [Value.slice sp r.tab.length cp]).toArray = X at *
  replace hXe := Lib.hid hXe
  replace hX := Lib.hid hX
  go_enter Try.func119, Try.ntmps119
  go_upto_region 1 with (first | refine wpList_val rfl (ex_box 167 (.tmp 0) rfl X rfl) ?_ | refine wpList_val rfl (ex_alloc 167 rfl i0 z0 hi hz0) ?_ | fail)
  have hb1 : Below w.heap.size w ((w.alloc (.cells X 167)).alloc (.cells z0.cells 167)) := blk_alloc2 _ _
  have k0 : Blk ((w.alloc (.cells X 167)).alloc (.cells z0.cells 167)) w.heap.size X 167 := (Blk.new w _ _).alloc _
  have k1 : Blk ((w.alloc (.cells X 167)).alloc (.cells z0.cells 167)) (w.heap.size + 1) z0.cells 167 := by
    have := Blk.new (w.alloc (.cells X 167)) z0.cells 167
    simpa using this
  have hlen : w.heap.size + 1 < ((w.alloc (.cells X 167)).alloc (.cells z0.cells 167)).heap.size := k1.lt
  replace hb1 := Lib.hid hb1
  replace k0 := Lib.hid k0
  replace k1 := Lib.hid k1
  generalize (w.alloc (.cells X 167)).alloc (.cells z0.cells 167) = W1 at *
  have c56 : W1.cell? ⟨w.heap.size, 56, none⟩ = some (.slice sp r.tab.length cp) := k0.out.cell hX.out
  obtain ⟨hBs, hBl⟩ : w.heap.size < W1.heap.size ∧ w.heap.size + 1 < W1.heap.size := ⟨by omega, hlen⟩
  have fr1 : W1.frozen? ⟨w.heap.size, 56, none⟩ = false := k0.out.free 56
  generalize hnT : r.tab.length = n at *
  have hcs1 : Hid (∀ ad, sp = some ad → ∀ j u, r.tab.flatten[j]? = some u → W1.cell? (ad.add j) = some u) := fun ad h j u hj => by
    have h0 := hcs.out ad h j u hj
    exact below_cell h0 hb1.out (World.block_lt_of_cell? w _ h0)
  generalize r.tab.flatten = FL at *
  go_wp2_with (at_builtin; refine append_srcB rfl _ _ 165 rfl w.heap.size 204 i2 z2 56 136 Try.underlying165 hi2 hy0 hy1 hy2 hy3 (by decide) _ 0 [] rfl (World.ownsRow_nil _ _ _ _) sp n cp FL rfl hnil.out (by omega) hcs1.out h1c.out (by unfold maxLen; omega) (by omega) (by omega) ?_)
  intro v2 w2 hown hg
  try simp only [Nat.zero_add, List.nil_append] at hown
  have hT := hrow.out v2 w2 hown
  have hb2 : Below w.heap.size w w2 := Below.grown hb1.out hg (by omega) (by simp [Value.ownBlock])
  have k02 : Blk w2 w.heap.size X 167 := (hg.block _ k0.out.lt (by simp [Value.ownBlock])).trans k0.out
  have k12 : Blk w2 (w.heap.size + 1) z0.cells 167 := (hg.block _ k1.out.lt (by simp [Value.ownBlock])).trans k1.out
  obtain ⟨a2, n2, c2, rfl⟩ : ∃ a n c, v2 = .slice a n c := by
    rcases hT with ⟨rfl, _⟩ | ⟨_, _, _, rfl, _⟩
    · exact ⟨_, _, _, rfl⟩
    · exact ⟨_, _, _, rfl⟩
  have fr2 : w2.frozen? ⟨w.heap.size, 56, none⟩ = false := k02.free 56
  have c562 : w2.cell? ⟨w.heap.size, 56, none⟩ = some (.slice sp n cp) := k02.cell hX.out
  have hlt2 := k02.lt
  replace k02 := Lib.hid k02
  replace k12 := Lib.hid k12
  replace hT := Lib.hid hT
  replace hb2 := Lib.hid hb2
  clear hown hg hb1 k0 k1 c56 hBs hBl fr1 hcs1 hlen
  go_upto_region 2 with fail
  have k03 := Lib.hid ((k02.out.set 56 (.slice a2 n2 c2)).congr (hset.out _))
  have k13 := Lib.hid (k12.out.setNe (a := ⟨w.heap.size, 56, none⟩) (by simp) (.slice a2 n2 c2))
  have hb3 := Lib.hid (hb2.out.setCell (show w.heap.size ≤ (⟨w.heap.size, 56, none⟩ : Addr).block from Nat.le_refl _) (.slice a2 n2 c2))
  have ho4 := Lib.hid (hT.out.blk (w' := w2.setCell ⟨w.heap.size, 56, none⟩ (.slice a2 n2 c2)) (fun g c _ hg => hg.setNe (fun e => (hg.ne k02.out (by decide)) e) _))
  clear c562 fr2 k02 k12 hT hlt2 hb2
  generalize w2.setCell ⟨w.heap.size, 56, none⟩ (.slice a2 n2 c2) = w3 at *
  have hs3 := hsz.out (.slice a2 n2 c2)
  have ho5 := hone.out (.slice a2 n2 c2) ⟨_, _, _, rfl⟩
  generalize hYe : (r.hd ++ [Value.slice a2 n2 c2]).toArray = Y at *
  go_wp2_with (first | refine wpList_val rfl (ex_load_row 167 (.tmp 1) rfl w.heap.size rfl 167 Y d0 k03.out hd0 hd1 (by rw [rowSize2, hs3])) ?_ | refine wpList_skp rfl (ex_store_row 167 (.tmp 2) (.tmp 7) rfl (w.heap.size + 1) Y rfl rfl 167 z0.cells k13.out (by rw [rowSize2, hs3]) (by rw [hz3, hs3]) ho5) ?_ | fail)
  have k14 := k13.out.setRow Y
  refine bodyPost_ret (v := .agg Y) (results_cell_row (p := 2) (ty := 167) (by kernel_rfl) _ _ (w.heap.size + 1) 167 Y (0, 0) d0 (by rfl) k14.out hd0 (by cases d0 <;> simp_all) (by rw [rowSize2, hs3])) rfl ⟨_, by rw [hYe], ho4.out.blk (fun g c _ hg => hg.setRowNe Y (fun e => (hg.ne k13.out (by decide)) e)), brow hb3.out (by omega) Y⟩
end Go.Proofs.Ytmdohnbhogfopaa
/- The document's copy of a post. -/
namespace Go.Proofs.Ytmdohnbhogfopaa
open Go.RowKit Go.Maps
set_option linter.unusedSimpArgs false
set_option linter.unusedVariables false
set_option maxRecDepth 100000
structure CopAt (w : World) (s : Int) (wv : Value) (R : List RowC) (i : Nat) (v : Value) (tvs : List Value) (wr : World) : Prop where
  oth : OthsAt w R i v tvs wr
  blk : Blk wr w.heap.size #[.int .u8 s, wv] 77
  out : Blk wr (w.heap.size + 1) #[.int .u8 0, .slice none 0 0] 77
theorem CopAt.below {w : World} {s : Int} {wv : Value} {R : List RowC} {i : Nat} {v : Value} {tvs : List Value} {wr W : World} (h : CopAt w s wv R i v tvs wr) (hb : Below wr.heap.size wr W) : CopAt w s wv R i v tvs W :=
  ⟨h.oth.below hb, h.blk.below hb h.blk.lt, h.out.below hb h.out.lt⟩
theorem CopAt.append {w : World} {s : Int} {wv : Value} {R : List RowC} {i : Nat} {v : Value} {tvs : List Value} {W w8 : World} {r : RowC} {tv' v1 : Value} (h : CopAt w s wv R i v tvs W) (hr : R[i]? = some r) (ht' : OwnTab 204 w.heap.size W tv' r.tab)
    (hown : w8.ownsRow w.heap.size 167 57 v1 (i + 1) (rowsFlat (R.take i) tvs ++ (r.hd ++ [tv']))) (hg : W.grownBy w8 v.ownBlock) : CopAt w s wv R (i + 1) v1 (tvs ++ [tv']) w8 := by
  have hkeep : ∀ b c T, Blk W b c T → T ≠ 167 → Blk w8 b c T := fun b c T hb hT => (hg.block b hb.lt (fun e => by
    obtain ⟨cur, hc⟩ := ownsRow_blk h.oth.row e.symm
    exact hT (by
      have := hb.out.symm.trans hc.out
      simp at this
      exact this.2))).trans hb
  exact ⟨h.oth.append hr ht' hown hg, hkeep _ _ _ h.blk (by decide), hkeep _ _ _ h.out (by decide)⟩
def InvCop (w : World) (s : Int) (wv : Value) (R : List RowC) (n : Nat) (k : Nat) (a : Act) (wr : World) : Prop :=
  ∃ i v tvs, i + k = n ∧ Hid (CopAt w s wv R i v tvs wr) ∧ a.tmps.size = 24 ∧ a.defers = [] ∧ slot a 1 = .pointer (some ⟨w.heap.size, 0, none⟩) ∧ slot a 2 = .pointer (some ⟨w.heap.size + 1, 0, none⟩) ∧ slot a 3 = v ∧ slot a 4 = .int .i64 i
set_option maxHeartbeats 4000000 in
theorem copyP2 (w : World) (s : Int) (wv : Value) (R : List RowC) (hw : WordAt 0 w wv R) (hk : ∀ r ∈ R, RowOk r) (hn : R.length ≤ 1000000) (ht : ∀ r ∈ R, r.tab.length ≤ 1000000) :
    Calls Try.prog 79 #[.agg #[.int .u8 s, wv]] w fun e w' => ∃ v', e = .returned (.agg #[.int .u8 s, v']) ∧ OwnWord 167 204 w.heap.size w' v' R ∧ Below w.heap.size w w' := by
  obtain ⟨i0, z0, hi, hz0, hz1, hz2, hz3, hz4⟩ := rowInfo2
  obtain ⟨d0, hd0, hd1⟩ := rowRow2
  obtain ⟨ao, n, cap, rfl, hnR⟩ : ∃ ao n cap, wv = .slice ao n cap ∧ n = R.length := by
    rcases hw with ⟨rfl, rfl⟩ | ⟨ad, cap, rfl, _⟩
    · exact ⟨_, _, _, rfl, rfl⟩
    · exact ⟨_, _, _, rfl, rfl⟩
  replace hw := Lib.hid hw
  replace hk := Lib.hid hk
  replace ht := Lib.hid ht
  rw [← hnR] at hn
  replace hnR := Lib.hid hnR
  go_enter Try.func79, Try.ntmps79
  go_wp2_with fail
  refine wp_loop_k (InvCop w s (.slice ao n cap) R n) n ?_ ?_
  · refine ⟨0, .slice none 0 0, [], by omega, ⟨⟨blk_alloc2 _ _, by simpa [rowsFlat] using World.ownsRow_nil _ _ _ _, rfl, by simp⟩, (Blk.new w _ _).alloc _, ?_⟩, by kernel_rfl, rfl, by kernel_rfl, by kernel_rfl, by kernel_rfl, by kernel_rfl⟩
    have := Blk.new (w.alloc (.cells #[.int .u8 s, .slice ao n cap] 77)) #[.int .u8 0, .slice none 0 0] 77
    simpa using this
  intro gk a wr hI K hK
  obtain ⟨i, v, tvs, hi0, hO, hs', hd', k1', k2', k3', k4'⟩ := hI
  rw [fr24 a hs' hd']; simp only [k1', k2', k3', k4']; clear hs' hd' k1' k2' k3' k4'
  have c1 : wr.cell? ⟨w.heap.size, 1, none⟩ = some (.slice ao n cap) := hO.out.blk.cell (i := 1) rfl
  have lc := hO.out.blk.lt
  by_cases hl : i < n
  · have g1 : decide ((i : Int) < (n : Int)) = true := by simp; omega
    have g2 : (i : Int) < (n : Int) := by omega
    have g3 : IntKind.i64.wrap ((i : Int) + 1) = ((i + 1 : Nat) : Int) := by rw [wrap_i64_small _ (by omega) (by omega)]; omega
    obtain ⟨r, hr⟩ : ∃ r, R[i]? = some r := ⟨_, List.getElem?_eq_getElem (by have := hnR.out; omega)⟩
    obtain ⟨ad, rfl, tv, htv, hcs⟩ : ∃ ad, ao = some ad ∧ RowAt 0 w (ad.add (i * 57)) r := by
      rcases hw.out with ⟨h1, h2⟩ | ⟨ad, cap', h1, _, _, _, h2⟩
      · rw [h2] at hr
        simp at hr
      · simp only [Value.slice.injEq] at h1
        exact ⟨ad, h1.1, h2 i r hr⟩
    have hkr := hk.out r (List.mem_of_getElem? hr)
    have htr := ht.out r (List.mem_of_getElem? hr)
    have hcs' : ∀ j u, (r.hd ++ [tv])[j]? = some u → wr.cell? ((ad.add (i * 57)).add j) = some u := fun j u hj => below_cell (hcs j u hj) hO.out.oth.bel (World.block_lt_of_cell? w _ (hcs j u hj))
    have hlen : (r.hd ++ [tv]).length = 57 := by simp [hkr.hd.length]
    replace hcs' := Lib.hid hcs'
    replace hkr := Lib.hid hkr
    replace htv := Lib.hid (htv.keep (w' := wr) (fun a u hu => below_cell hu hO.out.oth.bel (World.block_lt_of_cell? w _ hu)))
    go_wp2_with (first | refine wpList_val rfl (ex_load 167 (.tmp 16) rfl (ad.add (i * 57)) rfl (r.hd ++ [tv]) d0 hcs'.out hd0 hd1 (by rw [rowSize2, hlen])) ?_ | fail)
    refine (copyR2 wr r tv htv.out hkr.out htr).mono ?_
    rintro e w7 ⟨tv7, rfl, hT7, hb7⟩
    have hO7 := Lib.hid (hO.out.below hb7)
    have hT7' := Lib.hid (hT7.mono hO.out.oth.bel.size)
    clear hT7 hO htv hcs' c1 lc
    have hZ1 : (r.hd ++ [tv7]).length = 57 := by simp [hkr.out.hd.length]
    have hZo : ∀ u ∈ r.hd ++ [tv7], u.oneCell' = true := by
      intro u hu
      rcases List.mem_append.1 hu with hu | hu
      · exact Fits.one hkr.out.hd u hu
      · simp at hu
        subst hu
        obtain ⟨_, _, rfl, _⟩ := hT7'.out.out
        rfl
    replace hZo := Lib.hid hZo
    have hO8 := Lib.hid (hO7.out.below (below_alloc w7 (.cells (r.hd ++ [tv7]).toArray 167)))
    have hT8 := Lib.hid (hT7'.out.below (below_alloc w7 (.cells (r.hd ++ [tv7]).toArray 167)) (Nat.le_refl _))
    have kn8 := Lib.hid (Blk.new w7 (r.hd ++ [tv7]).toArray 167)
    have hs8 := hO8.out.oth.bel.size
    go_wp2_with (first | refine wpList_val rfl (ex_buildSlice1 49 167 (.tmp 18) rfl i0 z0 (r.hd ++ [tv7]).toArray Try.underlying49 hi hz0 (by rw [hz1]; simpa using hZ1) (by omega) (by omega) rfl) ?_ | (at_builtin; refine wpList_append_own _ rfl _ _ 49 rfl w.heap.size 167 i0 z0 57 160 Try.underlying49 hi hz0 hz1 hz2 hz3 (by decide) _ i (rowsFlat (R.take i) tvs) rfl hO8.out.oth.row ⟨w7.heap.size, 0, none⟩ 1 1 (r.hd ++ [tv7]) rfl (by simpa using hZ1) (fun j u hj => by rw [add_head]; exact kn8.out.cell (by simpa using hj)) hZo.out (by unfold maxLen; omega) (by omega) hs8 ?_) | fail)
    intro v1 w9 hown hg _
    have hO9 := Lib.hid (hO8.out.append hr hT8.out hown hg)
    clear hown hg hO8 hT8 kn8 hs8 hO7 hT7'
    go_wp2_with fail
    exact hK (n - (i + 1)) _ _ (by omega) ⟨i + 1, v1, tvs ++ [tv7], by omega, hO9, by kernel_rfl, rfl, by kernel_rfl, by kernel_rfl, by kernel_rfl, by kernel_rfl⟩
  have g1 : decide ((i : Int) < (n : Int)) = false := by simp; omega
  have g2 : ¬ (i : Int) < (n : Int) := by omega
  obtain rfl : i = n := by omega
  have hF := hO.out.oth
  rw [hnR.out] at hF
  replace hF := hF.fin
  obtain ⟨fa, fn, fc, rfl⟩ := hF.sl
  replace hF := Lib.hid hF
  have hbF := Lib.hid hO.out.oth.bel
  have k0 := hO.out.blk
  have k1 := hO.out.out
  have c0 := k0.cell (i := 0) rfl
  have f0 := k0.free
  have r0 := k1.cell (i := 0) rfl
  have r1 := k1.cell (i := 1) rfl
  have rf := k1.free
  have rl := k1.lt
  replace k0 := Lib.hid k0
  replace k1 := Lib.hid k1
  clear hO hnR
  go_wp2_with fail
  have hT : Touch [w.heap.size, w.heap.size + 1] wr (((wr.setCell ⟨w.heap.size, 1, none⟩ (.slice fa fn fc)).setCell ⟨w.heap.size + 1, 0, none⟩ (.int .u8 s)).setCell ⟨w.heap.size + 1, 1, none⟩ (.slice fa fn fc)) := (((Touch.refl [w.heap.size, w.heap.size + 1] wr).setCell (p := ⟨w.heap.size, 1, none⟩) (.inl (by simp)) _).setCell (p := ⟨w.heap.size + 1, 0, none⟩) (.inl (by simp)) _).setCell (p := ⟨w.heap.size + 1, 1, none⟩) (.inl (by simp)) _
  have hbE : Below w.heap.size w (((wr.setCell ⟨w.heap.size, 1, none⟩ (.slice fa fn fc)).setCell ⟨w.heap.size + 1, 0, none⟩ (.int .u8 s)).setCell ⟨w.heap.size + 1, 1, none⟩ (.slice fa fn fc)) := hT.below hbF.out hbF.out.size (by simp)
  refine postRet2 2 (by kernel_rfl) (w.heap.size + 1) s _ rfl ((((k1.out.setNe (a := ⟨w.heap.size, 1, none⟩) (by simp) (.slice fa fn fc)).set 0 (.int .u8 s)).set 1 (.slice fa fn fc)).congr rfl) rfl ⟨_, rfl, hF.out.blk (fun g c U hU hg => hg.touch hT (by
    simp only [List.mem_cons, List.not_mem_nil, or_false, not_or]
    rcases hU with rfl | rfl
    · exact ⟨hg.ne k0.out (by decide), hg.ne k1.out (by decide)⟩
    · exact ⟨hg.ne k0.out (by decide), hg.ne k1.out (by decide)⟩)), hbE⟩
end Go.Proofs.Ytmdohnbhogfopaa
/- The document's mouth: what lies there; New, Is. -/
namespace Go.Proofs.Ytmdohnbhogfopaa
open Go.RowKit Go.Maps
set_option linter.unusedSimpArgs false
set_option linter.unusedVariables false
set_option maxRecDepth 100000
/-- Blocks are kept but those of the program's rows and cells. -/
def KeepD (w w' : World) : Prop := ∀ b c U, Blk w b c U → U ≠ 97 → U ≠ 163 → Blk w' b c U
theorem KeepD.of_below {w w' : World} (h : Below w.heap.size w w') : KeepD w w' := fun b c U hb _ _ => hb.below h hb.lt
theorem KeepD.trans {a b c : World} (h : KeepD a b) (k : KeepD b c) : KeepD a c := fun g cs U hg h1 h2 => k g cs U (h g cs U hg h1 h2) h1 h2
/-- Spells of the document. -/
def spL2 (s : SpellC) : List Value := [.int .i64 s.fr, .int .i64 s.til, .int .u8 s.lk, .int .i64 s.kd, .int .u64 s.sd]
def spFlat2 (S : List SpellC) : List Value := (S.map spL2).flatten
/-- What it was told: a link, a tick, a post. -/
structure ToldC where
  l : Int
  t : Int
  p : PostC
def toldL (x : ToldC) (v : Value) : List Value := [.int .i64 x.l, .int .i64 x.t, .int .u8 x.p.s, v]
def toldFlat (L : List ToldC) (vs : List Value) : List Value := (List.zipWith toldL L vs).flatten
/-- The document's mouth. -/
structure DocIs (B : Nat) (W : World) (pd : Nat) (F : FaultC) (L : List ToldC) (av : Value) : Prop where
  blk : ∃ sv, Blk W pd #[.int .i64 F.m, .int .i64 F.nd, .int .i64 F.lk, sv, av] 175 ∧ W.ownsRow B 177 5 sv F.S.length (spFlat2 F.S)
  all : ∃ vs, vs.length = L.length ∧ W.ownsRow B 182 4 av L.length (toldFlat L vs) ∧ ∀ (j : Nat) (x : ToldC) (v : Value), L[j]? = some x → vs[j]? = some v → OwnWord 167 204 B W v x.p.R
  pd : B ≤ pd
  ok : ∀ x ∈ L, PostOk x.p ∧ (0 ≤ x.t ∧ x.t ≤ 1099511627776)
theorem ownsRow_keepB {w w' : World} {B : Nat} {E : TypeId} {v : Value} {n z : Nat} {xs : List Value} (h : w.ownsRow B E z v n xs) (k : ∀ g c, B ≤ g → Blk w g c E → Blk w' g c E) : w'.ownsRow B E z v n xs := by
  refine ⟨h.1, ?_⟩
  rcases h.2 with h3 | ⟨g, cap, cur, h3, h4, h5, h6⟩
  · exact .inl h3
  · exact .inr ⟨g, cap, cur, h3, h4, k g cur h4 h5, h6⟩
theorem DocIs.keep {B : Nat} {W W' : World} {pd : Nat} {F : FaultC} {L : List ToldC} {av : Value} (h : DocIs B W pd F L av) (k : KeepD W W') : DocIs B W' pd F L av := by
  obtain ⟨sv, h1, h2⟩ := h.blk
  obtain ⟨vs, h3, h4, h5⟩ := h.all
  exact ⟨⟨sv, k _ _ _ h1 (by decide) (by decide), ownsRow_keepB h2 fun g c _ hg => k _ _ _ hg (by decide) (by decide)⟩, ⟨vs, h3, ownsRow_keepB h4 fun g c _ hg => k _ _ _ hg (by decide) (by decide), fun j x v hj hv => (h5 j x v hj hv).blk fun g c U hU hg => k _ _ _ hg (by rcases hU with rfl | rfl <;> decide) (by rcases hU with rfl | rfl <;> decide)⟩, h.pd, h.ok⟩
theorem DocIs.below {B : Nat} {W W' : World} {pd : Nat} {F : FaultC} {L : List ToldC} {av : Value} (h : DocIs B W pd F L av) (hb : Below W.heap.size W W') : DocIs B W' pd F L av := h.keep (KeepD.of_below hb)
set_option maxHeartbeats 2000000 in
theorem newBad2 (w : World) (n nd lk : Int) (a : Option Addr) (k c : Nat) (h : faultB n nd lk k = false) :
    Calls Try.prog 27 #[.int .i64 n, .agg #[.int .i64 nd, .int .i64 lk, .slice a k c]] w fun e w' => e = .returned (.tuple #[.pointer none, .int .i64 1]) ∧ Below w.heap.size w w' := by
  have hb := below_alloc w (.cells #[.int .i64 nd, .int .i64 lk, .slice a k c] 71)
  replace hb := Lib.hid hb
  by_cases h1 : n < 4
  · have t1 : decide (n < 4) = true := by simp [h1]
    clear h
    go_enter Try.func27, Try.ntmps27
    go_wp2_with fail
    go_ret2
    exact ⟨rfl, hb.out⟩
  have t1 : decide (n < 4) = false := by simp; omega
  by_cases h2 : 16 < n
  · have t2 : decide (16 < n) = true := by simp [h2]
    clear h
    go_enter Try.func27, Try.ntmps27
    go_wp2_with fail
    go_ret2
    exact ⟨rfl, hb.out⟩
  have t2 : decide (16 < n) = false := by simp; omega
  have w4 : IntKind.i64.wrap (4 * n) = 4 * n := wrapI _ (by omega) (by omega)
  by_cases h3 : nd < -1
  · have t3 : decide (nd < -1) = true := by simp [h3]
    clear h
    go_enter Try.func27, Try.ntmps27
    go_wp2_with fail
    go_ret2
    exact ⟨rfl, hb.out⟩
  have t3 : decide (nd < -1) = false := by simp; omega
  by_cases h4 : n ≤ nd
  · have t4 : decide (n ≤ nd) = true := by simp [h4]
    clear h
    go_enter Try.func27, Try.ntmps27
    go_wp2_with fail
    go_ret2
    exact ⟨rfl, hb.out⟩
  have t4 : decide (n ≤ nd) = false := by simp; omega
  by_cases h5 : lk < -1
  · have t5 : decide (lk < -1) = true := by simp [h5]
    clear h
    go_enter Try.func27, Try.ntmps27
    go_wp2_with fail
    go_ret2
    exact ⟨rfl, hb.out⟩
  have t5 : decide (lk < -1) = false := by simp; omega
  by_cases h6 : 4 * n ≤ lk
  · have t6 : decide (4 * n ≤ lk) = true := by simp [h6]
    clear h
    go_enter Try.func27, Try.ntmps27
    go_wp2_with fail
    go_ret2
    exact ⟨rfl, hb.out⟩
  have t6 : decide (4 * n ≤ lk) = false := by simp; omega
  have h7 : 64 < k := by
    simp only [faultB] at h
    have g1 : decide (4 ≤ n ∧ n ≤ 16) = true := by simp; omega
    have g2 : decide (-1 ≤ nd ∧ nd < n) = true := by simp; omega
    have g3 : decide (-1 ≤ lk ∧ lk < 4 * n) = true := by simp; omega
    rw [g1, g2, g3] at h
    simp at h
    omega
  have t7 : decide ((64 : Int) < (k : Int)) = true := by simp; omega
  clear h
  go_enter Try.func27, Try.ntmps27
  go_wp2_with fail
  go_ret2
  exact ⟨rfl, hb.out⟩
set_option maxHeartbeats 2000000 in
theorem newOk2 (B : Nat) (w : World) (hB : B ≤ w.heap.size) (F : FaultC) (hF : FaultOk F) (v : Value) (hs : w.ownsRow B 177 5 v F.S.length (spFlat2 F.S)) :
    Calls Try.prog 27 #[.int .i64 F.m, .agg #[.int .i64 F.nd, .int .i64 F.lk, v]] w fun e w' => ∃ pd, e = .returned (.tuple #[.pointer (some ⟨pd, 0, none⟩), .int .i64 0]) ∧ DocIs B w' pd F [] (.slice none 0 0) ∧ Below w.heap.size w w' ∧ w.heap.size ≤ pd ∧ pd < w'.heap.size := by
  have hm := hF.m
  have hnd := hF.nd
  have hlk := hF.lk
  have hn := hF.n
  obtain ⟨a, k, c, rfl, hk⟩ : ∃ a n c, v = .slice a n c ∧ n = F.S.length := by
    rcases hs.2 with ⟨rfl, h⟩ | ⟨g, cap, cur, rfl, _⟩
    · exact ⟨_, _, _, rfl, h.symm⟩
    · exact ⟨_, _, _, rfl, rfl⟩
  have w4 : IntKind.i64.wrap (4 * (F.m : Int)) = 4 * (F.m : Int) := wrapI _ (by omega) (by omega)
  have t1 : decide ((F.m : Int) < 4) = false := by simp; omega
  have t2 : decide (16 < (F.m : Int)) = false := by simp; omega
  have t3 : decide (F.nd < -1) = false := by simp; omega
  have t4 : decide ((F.m : Int) ≤ F.nd) = false := by simp; omega
  have t5 : decide (F.lk < -1) = false := by simp; omega
  have t6 : decide (4 * (F.m : Int) ≤ F.lk) = false := by simp; omega
  have t7 : decide ((64 : Int) < (k : Int)) = false := by simp; omega
  have hb := Lib.hid (blk_alloc2 (w := w) (.cells #[.int .i64 F.nd, .int .i64 F.lk, .slice a k c] 71) (.cells #[.int .i64 F.m, .int .i64 F.nd, .int .i64 F.lk, .slice a k c, .slice none 0 0] 175))
  have hf : Hid (DocIs B ((w.alloc (.cells #[.int .i64 F.nd, .int .i64 F.lk, .slice a k c] 71)).alloc (.cells #[.int .i64 F.m, .int .i64 F.nd, .int .i64 F.lk, .slice a k c, .slice none 0 0] 175)) (w.heap.size + 1) F [] (.slice none 0 0)) := by
    refine ⟨⟨_, ?_, ownsRow_keepB hs fun g c _ hg => (hg.alloc _).alloc _⟩, ⟨[], rfl, by simpa [toldFlat] using World.ownsRow_nil _ _ _ _, fun j x v h => by cases h⟩, by omega, fun x h => by cases h⟩
    have := Blk.new (w.alloc (.cells #[.int .i64 F.nd, .int .i64 F.lk, .slice a k c] 71)) #[.int .i64 F.m, .int .i64 F.nd, .int .i64 F.lk, .slice a k c, .slice none 0 0] 175
    simpa using this
  clear hm hnd hlk hn hF hs hk
  generalize (F.m : Int) = m at *
  generalize F.nd = nd at *
  generalize F.lk = lk at *
  go_enter Try.func27, Try.ntmps27
  go_wp2_with fail
  go_ret2
  exact ⟨w.heap.size + 1, rfl, hf.out, hb.out, by omega, by simp⟩
theorem isR2 {B : Nat} {w : World} {pd : Nat} {F : FaultC} {L : List ToldC} {av : Value} (h : DocIs B w pd F L av) (hF : FaultOk F) (l : Int) :
    Calls Try.prog 34 #[.pointer (some ⟨pd, 0, none⟩), .int .i64 l] w fun e w' => e = .returned (.bool (isF F l)) ∧ w = w' := by
  obtain ⟨sv, hb, -⟩ := h.blk
  have c0 : w.cell? ⟨pd, 0, none⟩ = some (.int .i64 F.m) := hb.cell (i := 0) rfl
  have c1 : w.cell? ⟨pd, 1, none⟩ = some (.int .i64 F.nd) := hb.cell (i := 1) rfl
  have c2 : w.cell? ⟨pd, 2, none⟩ = some (.int .i64 F.lk) := hb.cell (i := 2) rfl
  have lt := hb.lt
  clear hb
  have hm := hF.m
  have hnd := hF.nd
  unfold isF
  generalize F.m = m at *
  generalize F.nd = nd at *
  generalize F.lk = lk at *
  clear h hF
  have w4 : IntKind.i64.wrap (4 * (m : Int)) = 4 * (m : Int) := wrapI _ (by omega) (by omega)
  by_cases h1 : l < 0
  · have e : decide (0 ≤ l ∧ l < 4 * (m : Int)) = false := by simp; omega
    have t1 : decide (l < 0) = true := by simp [h1]
    rw [e, Bool.false_and]
    clear e
    go_enter Try.func34, Try.ntmps34
    go_wp2_with fail
    go_ret
    exact ⟨rfl, rfl⟩
  by_cases h2 : 4 * (m : Int) ≤ l
  · have e : decide (0 ≤ l ∧ l < 4 * (m : Int)) = false := by simp; omega
    have t1 : decide (l < 0) = false := by simp; omega
    have t2 : decide (4 * (m : Int) ≤ l) = true := by simp [h2]
    rw [e, Bool.false_and]
    clear e
    go_enter Try.func34, Try.ntmps34
    go_wp2_with fail
    go_ret
    exact ⟨rfl, rfl⟩
  have e : decide (0 ≤ l ∧ l < 4 * (m : Int)) = true := by simp; omega
  have t1 : decide (l < 0) = false := by simp; omega
  have t2 : decide (4 * (m : Int) ≤ l) = false := by simp; omega
  rw [e, Bool.true_and]
  clear e
  by_cases h3 : nd = -1
  · have t3 : decide (0 ≤ nd) = false := by simp [h3]
    have e2 : (if nd = -1 then decide (l = lk) else decide (l / 4 = nd)) = (l == lk) := by rw [if_pos h3]; rfl
    rw [e2]
    clear h1 h2 e2
    go_enter Try.func34, Try.ntmps34
    go_wp2_with fail
    go_ret
    exact ⟨by simp, rfl⟩
  · have t3 : decide (0 ≤ nd) = true := by simp; omega
    have w5 : IntKind.i64.wrap (4 * nd) = 4 * nd := wrapI _ (by omega) (by omega)
    have w6 : IntKind.i64.wrap (4 * nd + 4) = 4 * nd + 4 := wrapI _ (by omega) (by omega)
    rw [if_neg h3]
    by_cases h4 : 4 * nd ≤ l
    · have t4 : decide (4 * nd ≤ l) = true := by simp [h4]
      have e2 : decide (l / 4 = nd) = decide (l < 4 * nd + 4) := by rw [decide_eq_decide]; omega
      rw [e2]
      clear h1 h2 e2 h4
      go_enter Try.func34, Try.ntmps34
      go_wp2_with fail
      go_ret
      exact ⟨by simp, rfl⟩
    · have t4 : decide (4 * nd ≤ l) = false := by simp; omega
      have e2 : decide (l / 4 = nd) = false := by simp; omega
      rw [e2]
      clear h1 h2 e2 h4
      go_enter Try.func34, Try.ntmps34
      go_wp2_with fail
      go_ret
      exact ⟨by simp, rfl⟩
end Go.Proofs.Ytmdohnbhogfopaa
/- A fault as the document has it. -/
namespace Go.Proofs.Ytmdohnbhogfopaa
open Go.RowKit Go.Maps
set_option linter.unusedSimpArgs false
set_option linter.unusedVariables false
set_option maxRecDepth 100000
theorem elemSpell2 : (Try.prog.info? 177).map (fun i => (i.zero, i.size, i.bytes)) = some (some (.agg #[.int .i64 0, .int .i64 0, .int .u8 0, .int .i64 0, .int .u64 0]), 5, 40) := by kernel_rfl
theorem faultRow2 : ∃ d, Try.prog.underlying 71 = some d ∧ (match d with | .struct _ | .array _ _ => true | _ => false) = true := ⟨_, Try.underlying71, rfl⟩
theorem faultSize2 : (Try.prog.info? 71).map (·.size) = some 3 := by kernel_rfl
theorem faultRet2 {fn : Func} {Q : Ending → World → Prop} {a : Act} {W : World} (p : Tmp) (h : fn.results = #[.cell p 71]) (b : Nat) (x y z : Value) (hp : a.tmps.getD p undef = .pointer (some ⟨b, 0, none⟩)) (hb : Blk W b #[x, y, z] 71) (hd : a.defers = [])
    (hQ : Q (.returned (.agg #[x, y, z])) W) : bodyPost Try.prog fn Q .ret a W := by
  obtain ⟨d0, hd0, hd1⟩ := faultRow2
  exact bodyPost_ret (v := .agg #[x, y, z]) (results_cell_row h _ _ b 71 _ (0, 0) d0 hp hb.out hd0 (by cases d0 <;> simp_all) (by rw [faultSize2]; rfl)) hd hQ
theorem spFlat2_more {S : List SpellC} {i : Nat} {s : SpellC} (h : S[i]? = some s) : spFlat2 (S.take (i + 1)) = spFlat2 (S.take i) ++ spL2 s := by
  unfold spFlat2
  rw [List.take_add_one, h]
  simp
/-- While it is made. -/
structure OthF (w : World) (nd lk : Int) (u : Value) (S : List SpellC) (i : Nat) (v : Value) (W : World) : Prop where
  bel : Below w.heap.size w W
  box : Blk W w.heap.size #[.int .i64 nd, .int .i64 lk, u] 34
  out : Blk W (w.heap.size + 1) #[.int .i64 0, .int .i64 0, .slice none 0 0] 71
  g : Blk W (w.heap.size + 2) #[.int .i64 nd, .int .i64 lk, v] 71
  own : W.ownsRow w.heap.size 177 5 v i (spFlat2 (S.take i))
theorem OthF.below {w : World} {nd lk : Int} {u : Value} {S : List SpellC} {i : Nat} {v : Value} {W W' : World} (h : OthF w nd lk u S i v W) (hb : Below W.heap.size W W') : OthF w nd lk u S i v W' :=
  ⟨bthen h.bel hb, h.box.below hb h.box.lt, h.out.below hb h.out.lt, h.g.below hb h.g.lt, ownsRow_keepB h.own fun g c _ hg => hg.below hb hg.lt⟩
theorem OthF.append {w : World} {nd lk : Int} {u : Value} {S : List SpellC} {i : Nat} {v v' : Value} {W W' : World} {s : SpellC} (h : OthF w nd lk u S i v W) (hs : S[i]? = some s) (hown : W'.ownsRow w.heap.size 177 5 v' (i + 1) (spFlat2 (S.take i) ++ spL2 s)) (hg : W.grownBy W' v.ownBlock) :
    W'.cell? ⟨w.heap.size + 2, 2, none⟩ = some v ∧ (∀ k, W'.frozen? ⟨w.heap.size + 2, k, none⟩ = false) ∧ w.heap.size + 2 < W'.heap.size ∧ OthF w nd lk u S (i + 1) v' (W'.setCell ⟨w.heap.size + 2, 2, none⟩ v') := by
  have hkeep : ∀ b c T, Blk W b c T → T ≠ 177 → Blk W' b c T := fun b c T hb hT => (hg.block b hb.lt (fun e => by
    obtain ⟨cur, hc⟩ := ownsRow_blk h.own e.symm
    exact hc.ne hb (fun e => hT e.symm) rfl)).trans hb
  have hb2 := hkeep _ _ _ h.g (by decide)
  have hset : ∀ b c T, Blk W' b c T → b ≠ w.heap.size + 2 → Blk (W'.setCell ⟨w.heap.size + 2, 2, none⟩ v') b c T := fun b c T hb hn => hb.setNe (a := ⟨w.heap.size + 2, 2, none⟩) hn _
  have hbel : Below w.heap.size w W' := Below.grown h.bel hg h.bel.size (fun k hk => (h.own.lt k hk).1)
  refine ⟨hb2.cell (i := 2) rfl, hb2.free, hb2.lt, ⟨hbel.setCell (show w.heap.size ≤ (⟨w.heap.size + 2, 2, none⟩ : Addr).block by simp) _, hset _ _ _ (hkeep _ _ _ h.box (by decide)) (by omega), hset _ _ _ (hkeep _ _ _ h.out (by decide)) (by omega), (hb2.set 2 v').congr rfl, ?_⟩⟩
  rw [spFlat2_more hs]
  exact ownsRow_keepB hown fun g c _ hgb => hset _ _ _ hgb (hgb.ne hb2 (by decide))
def InvOthF (w : World) (nd lk : Int) (u : Value) (S : List SpellC) (n : Nat) (k : Nat) (a : Act) (wr : World) : Prop :=
  ∃ i v, i + k = n ∧ Hid (OthF w nd lk u S i v wr) ∧ a.tmps.size = 41 ∧ a.defers = [] ∧ slot a 1 = .pointer (some ⟨w.heap.size, 0, none⟩) ∧ slot a 2 = .pointer (some ⟨w.heap.size + 1, 0, none⟩) ∧ slot a 3 = .pointer (some ⟨w.heap.size + 2, 0, none⟩) ∧ slot a 4 = .int .i64 i
/-- The cells of a spell among spells, in worlds behind. -/
theorem SpAt.cells5 {w W : World} {sa : Option Addr} {sn sc : Nat} {S : List SpellC} (hs : SpAt 0 w (.slice sa sn sc) S) (k : KeepC w W) {j : Nat} {s : SpellC} (hj : S[j]? = some s) : ∃ ad, sa = some ad ∧ W.cell? (ad.add (j * 5)) = some (.int .i64 s.fr) ∧ W.cell? ⟨(ad.add (j * 5)).block, (ad.add (j * 5)).off + 1, none⟩ = some (.int .i64 s.til) ∧ W.cell? ⟨(ad.add (j * 5)).block, (ad.add (j * 5)).off + 2, none⟩ = some (.int .u8 s.lk) ∧
      W.cell? ⟨(ad.add (j * 5)).block, (ad.add (j * 5)).off + 3, none⟩ = some (.int .u8 s.kd) ∧ W.cell? ⟨(ad.add (j * 5)).block, (ad.add (j * 5)).off + 4, none⟩ = some (.int .u64 s.sd) := by
  rcases hs with ⟨_, h⟩ | ⟨ad, cap, h1, _, _, _, h5⟩
  · rw [h] at hj
    cases hj
  · simp only [Value.slice.injEq] at h1
    refine ⟨ad, h1.1, ?_⟩
    have hk : ∀ i v, (spL s)[i]? = some v → W.cell? ((ad.add (j * 5)).add i) = some v := fun i v hi => k _ _ (h5 j s hj i v hi)
    generalize ad.add (j * 5) = A at *
    have e : ∀ i, A.add (i + 1) = ⟨A.block, A.off + (i + 1), none⟩ := fun i => by
      unfold Addr.add
      rw [if_neg (by omega)]
    have e0 : A.add 0 = A := by simp [Addr.add]
    exact ⟨by have := hk 0 _ rfl; rwa [e0] at this, by have := hk 1 _ rfl; rwa [e 0] at this, by have := hk 2 _ rfl; rwa [e 1] at this, by have := hk 3 _ rfl; rwa [e 2] at this, by have := hk 4 _ rfl; rwa [e 3] at this⟩
set_option maxHeartbeats 4000000 in
theorem otherF (w : World) (nd lk : Int) (u : Value) (S : List SpellC) (hs : SpAt 0 w u S) (hS : ∀ s ∈ S, SpellOk s) (hn : S.length ≤ 100) :
    Calls Try.prog 28 #[.agg #[.int .i64 nd, .int .i64 lk, u]] w fun e w' => ∃ v, e = .returned (.agg #[.int .i64 nd, .int .i64 lk, v]) ∧ w'.ownsRow w.heap.size 177 5 v S.length (spFlat2 S) ∧ Below w.heap.size w w' := by
  obtain ⟨i0, hi, hz0, hz1, hz2⟩ := info_parts elemSpell2
  obtain ⟨sa, sn, sc, rfl, hsn⟩ : ∃ a n c, u = .slice a n c ∧ n = S.length := by
    rcases hs with ⟨rfl, h⟩ | ⟨ad, cap, rfl, _⟩
    · exact ⟨_, _, _, rfl, by rw [h]; rfl⟩
    · exact ⟨_, _, _, rfl, rfl⟩
  rw [← hsn] at hn
  replace hs := Lib.hid hs
  replace hS := Lib.hid hS
  replace hsn := Lib.hid hsn
  have hO0 : Hid (OthF w nd lk (.slice sa sn sc) S 0 (.slice none 0 0) (((w.alloc (.cells #[.int .i64 nd, .int .i64 lk, .slice sa sn sc] 34)).alloc (.cells #[.int .i64 0, .int .i64 0, .slice none 0 0] 71)).alloc (.cells #[.int .i64 nd, .int .i64 lk, .slice none 0 0] 71))) := by
    refine ⟨(blk_alloc2 _ _).trans ((below_alloc _ _).mono (by simp; omega)), ((Blk.new _ _ _).alloc _).alloc _, Blk.alloc ?_ _, ?_, by simpa [spFlat2] using World.ownsRow_nil _ _ _ _⟩
    · have := Blk.new (w.alloc (.cells #[.int .i64 nd, .int .i64 lk, .slice sa sn sc] 34)) #[.int .i64 0, .int .i64 0, .slice none 0 0] 71
      simpa using this
    · have := Blk.new ((w.alloc (.cells #[.int .i64 nd, .int .i64 lk, .slice sa sn sc] 34)).alloc (.cells #[.int .i64 0, .int .i64 0, .slice none 0 0] 71)) #[.int .i64 nd, .int .i64 lk, .slice none 0 0] 71
      simpa using this
  go_enter Try.func28, Try.ntmps28
  go_wp2_with fail
  refine wp_loop_k (InvOthF w nd lk (.slice sa sn sc) S sn) sn ?_ ?_
  · exact ⟨0, _, by omega, hO0, by kernel_rfl, rfl, by kernel_rfl, by kernel_rfl, by kernel_rfl, by kernel_rfl⟩
  clear hO0
  intro gk a wr hI K hK
  obtain ⟨i, v, hi0, hO, hs', hd', k1', k2', k3', k4'⟩ := hI
  rw [fr41 a hs' hd']; simp only [k1', k2', k3', k4']; clear hs' hd' k1' k2' k3' k4'
  have c2 : wr.cell? ⟨w.heap.size, 2, none⟩ = some (.slice sa sn sc) := hO.out.box.cell (i := 2) rfl
  have lc := hO.out.box.lt
  by_cases hl : i < sn
  · have g1 : decide ((i : Int) < (sn : Int)) = true := by simp; omega
    have g2 : (i : Int) < (sn : Int) := by omega
    have g3 : IntKind.i64.wrap ((i : Int) + 1) = ((i + 1 : Nat) : Int) := by rw [wrap_i64_small _ (by omega) (by omega)]; omega
    obtain ⟨s, hr⟩ : ∃ s, S[i]? = some s := ⟨_, List.getElem?_eq_getElem (by have := hsn.out; omega)⟩
    obtain ⟨ad, rfl, f0, f1, f2, f3, f4⟩ := hs.out.cells5 (KeepC.of_below hO.out.bel) hr
    have hkd : IntKind.i64.wrap s.kd = s.kd := by
      have := wf_u8 (hS.out s (List.mem_of_getElem? hr)).kd
      exact wrapI _ (by omega) (by omega)
    go_upto_region 6 with fail
    have hO5 : Hid (OthF w nd lk (.slice (some ad) sn sc) S i v (wr.alloc (.cells #[.int .i64 s.fr, .int .i64 s.til, .int .u8 s.lk, .int .u8 s.kd, .int .u64 s.sd] 27))) := hO.out.below (below_alloc _ _)
    have k5 : Blk (wr.alloc (.cells #[.int .i64 s.fr, .int .i64 s.til, .int .u8 s.lk, .int .u8 s.kd, .int .u64 s.sd] 27)) wr.heap.size #[.int .i64 s.fr, .int .i64 s.til, .int .u8 s.lk, .int .u8 s.kd, .int .u64 s.sd] 27 := Blk.new _ _ _
    clear f0 f1 f2 f3 f4 c2 lc hO
    generalize wr.alloc (.cells #[.int .i64 s.fr, .int .i64 s.til, .int .u8 s.lk, .int .u8 s.kd, .int .u64 s.sd] 27) = w5 at *
    generalize wr.heap.size = b5 at *
    have f0 := k5.cell (i := 0) rfl
    have f1 := k5.cell (i := 1) rfl
    have f2 := k5.cell (i := 2) rfl
    have f3 := k5.cell (i := 3) rfl
    have f4 := k5.cell (i := 4) rfl
    have l5 := k5.lt
    have cg : w5.cell? ⟨w.heap.size + 2, 2, none⟩ = some v := hO5.out.g.cell (i := 2) rfl
    have lg := hO5.out.g.lt
    clear k5
    have hO6 := Lib.hid (hO5.out.below (below_alloc w5 (.cells #[.int .i64 s.fr, .int .i64 s.til, .int .u8 s.lk, .int .i64 s.kd, .int .u64 s.sd] 177)))
    have kn := Lib.hid (Blk.new w5 #[.int .i64 s.fr, .int .i64 s.til, .int .u8 s.lk, .int .i64 s.kd, .int .u64 s.sd] 177)
    have hs6 := hO6.out.bel.size
    go_wp2_with (at_builtin; refine wpList_append_own _ rfl _ _ 69 rfl w.heap.size 177 i0 _ 5 40 Try.underlying69 hi hz0 hz1 hz2 rfl (by decide) _ i (spFlat2 (S.take i)) rfl hO6.out.own ⟨w5.heap.size, 0, none⟩ 1 1 (spL2 s) rfl rfl (fun j u hj => by rw [add_head]; exact kn.out.cell (by simpa [spL2] using hj)) (by intro u hu; simp [spL2] at hu; rcases hu with rfl | rfl | rfl | rfl | rfl <;> rfl) (by unfold maxLen; omega) (by omega) hs6 ?_)
    intro v1 w9 hown hg _
    obtain ⟨e1, e2, e3, hO9⟩ := hO6.out.append hr hown hg
    have hv1 : ∃ a n c, v1 = .slice a n c := by
      rcases hown.2 with ⟨rfl, _⟩ | ⟨_, _, _, rfl, _⟩
      · exact ⟨_, _, _, rfl⟩
      · exact ⟨_, _, _, rfl⟩
    obtain ⟨va, vn, vc, rfl⟩ := hv1
    replace hO9 := Lib.hid hO9
    clear hown hg hO6 hO5 kn hs6 f0 f1 f2 f3 f4 cg lg l5
    go_wp2_with fail
    exact hK (sn - (i + 1)) _ _ (by omega) ⟨i + 1, _, by omega, hO9, by kernel_rfl, rfl, by kernel_rfl, by kernel_rfl, by kernel_rfl, by kernel_rfl⟩
  have g1 : decide ((i : Int) < (sn : Int)) = false := by simp; omega
  have g2 : ¬ (i : Int) < (sn : Int) := by omega
  obtain rfl : i = sn := by omega
  have hF := hO.out.own
  rw [hsn.out, List.take_length] at hF
  have hbF := Lib.hid hO.out.bel
  have kg := hO.out.g
  have ko := hO.out.out
  have d0 := kg.cell (i := 0) rfl
  have d1 := kg.cell (i := 1) rfl
  have d2 := kg.cell (i := 2) rfl
  have r0 := ko.cell (i := 0) rfl
  have r1 := ko.cell (i := 1) rfl
  have r2 := ko.cell (i := 2) rfl
  have rf := ko.free
  have rl := ko.lt
  have gl := kg.lt
  replace ko := Lib.hid ko
  obtain ⟨va, vn, vc, rfl⟩ : ∃ a n c, v = .slice a n c := by
    rcases hF.2 with ⟨rfl, _⟩ | ⟨_, _, _, rfl, _⟩
    · exact ⟨_, _, _, rfl⟩
    · exact ⟨_, _, _, rfl⟩
  replace hF := Lib.hid hF
  clear hO kg
  go_wp2_with fail
  have hT : Touch [w.heap.size + 1] wr (((wr.setCell ⟨w.heap.size + 1, 0, none⟩ (.int .i64 nd)).setCell ⟨w.heap.size + 1, 1, none⟩ (.int .i64 lk)).setCell ⟨w.heap.size + 1, 2, none⟩ (.slice va vn vc)) := (((Touch.refl [w.heap.size + 1] wr).setCell (p := ⟨w.heap.size + 1, 0, none⟩) (.inl (by simp)) _).setCell (p := ⟨w.heap.size + 1, 1, none⟩) (.inl (by simp)) _).setCell (p := ⟨w.heap.size + 1, 2, none⟩) (.inl (by simp)) _
  refine faultRet2 2 (by kernel_rfl) (w.heap.size + 1) _ _ _ rfl ((((ko.out.set 0 (.int .i64 nd)).set 1 (.int .i64 lk)).set 2 (.slice va vn vc)).congr rfl) rfl ⟨_, rfl, ownsRow_keepB hF.out fun g c _ hg => hg.touch hT (by simpa using hg.ne ko.out (by decide)), hT.below hbF.out hbF.out.size (by simp)⟩
end Go.Proofs.Ytmdohnbhogfopaa
