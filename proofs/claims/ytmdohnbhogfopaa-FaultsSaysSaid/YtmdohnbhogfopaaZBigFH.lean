/- Several texts, one behind the other: BigF BigG BigH. -/
import Derived.Test.YtmdohnbhogfopaaZBigAE
/- faults' own: a post in new memory. -/
namespace Go.Proofs.Ytmdohnbhogfopaa
open Go.RowKit
set_option linter.unusedSimpArgs false
set_option linter.unusedVariables false
set_option maxRecDepth 100000
structure OwnAt (w : World) (s : Int) (R : List RowC) (i : Nat) (v : Value) (tvs : List Value) (wr : World) : Prop where
  bel : Below w.heap.size w wr
  blk : Blk wr w.heap.size #[.int .u8 s, v] 40
  out : Blk wr (w.heap.size + 1) #[.int .u8 0, .slice none 0 0] 40
  row : wr.ownsRow w.heap.size 97 57 v i (rowsFlat (R.take i) tvs)
  len : tvs.length = i
  tabs : ∀ (j : Nat) (r : RowC) (tv : Value), R[j]? = some r → tvs[j]? = some tv → OwnTab 163 w.heap.size wr tv r.tab
theorem OwnAt.below {w : World} {s : Int} {R : List RowC} {i : Nat} {v : Value} {tvs : List Value} {wr W : World} (h : OwnAt w s R i v tvs wr) (hb : Below wr.heap.size wr W) : OwnAt w s R i v tvs W := by
  exact ⟨bthen h.bel hb, h.blk.below hb h.blk.lt, h.out.below hb h.out.lt, h.row.kept ⟨hb.os, hb.tape, hb.output, hb.size, fun k hk _ => hb.block k hk⟩ (row := none) (by
    cases hv : v.ownBlock with
    | none => exact .inl rfl
    | some k => exact .inr (by simp)), h.len, fun j r tv hj ht => (h.tabs j r tv hj ht).below hb (Nat.le_refl _)⟩
theorem ownsRow_blk {w : World} {B : Nat} {E : TypeId} {v : Value} {n z : Nat} {xs : List Value} (h : w.ownsRow B E z v n xs) {k : Nat} (hk : v.ownBlock = some k) : ∃ cur, Blk w k cur E := by
  rcases h.2 with ⟨rfl, _⟩ | ⟨g, cap, cur, rfl, _, hg, _⟩
  · simp [Value.ownBlock] at hk
  · simp [Value.ownBlock] at hk
    subst hk
    exact ⟨cur, hg⟩
theorem OwnAt.append {w : World} {s : Int} {R : List RowC} {i : Nat} {v : Value} {tvs : List Value} {W w8 : World} {r : RowC} {tv' v1 : Value} (h : OwnAt w s R i v tvs W) (hr : R[i]? = some r) (ht' : OwnTab 163 w.heap.size W tv' r.tab)
    (hown : w8.ownsRow w.heap.size 97 57 v1 (i + 1) (rowsFlat (R.take i) tvs ++ (r.hd ++ [tv']))) (hg : W.grownBy w8 v.ownBlock) :
    w8.cell? ⟨w.heap.size, 1, none⟩ = some v ∧ w8.frozen? ⟨w.heap.size, 1, none⟩ = false ∧ w.heap.size < w8.heap.size ∧ (∀ b c, Blk W b c 97 → v.ownBlock ≠ some b → Blk w8 b c 97) ∧
      OwnAt w s R (i + 1) v1 (tvs ++ [tv']) (w8.setCell ⟨w.heap.size, 1, none⟩ v1) := by
  have hkeep : ∀ b c T, Blk W b c T → T ≠ 97 → Blk w8 b c T := fun b c T hb hT => (hg.block b hb.lt (fun e => by
    obtain ⟨cur, hc⟩ := ownsRow_blk h.row e.symm
    exact hT (by
      have := hb.out.symm.trans hc.out
      simp at this
      exact this.2))).trans hb
  have hb0 := hkeep _ _ _ h.blk (by decide)
  have hb1 := hkeep _ _ _ h.out (by decide)
  have hset : ∀ b c T, Blk w8 b c T → b ≠ w.heap.size → Blk (w8.setCell ⟨w.heap.size, 1, none⟩ v1) b c T := fun b c T hb hn => hb.setNe (a := ⟨w.heap.size, 1, none⟩) hn _
  have hbel : Below w.heap.size w w8 := Below.grown h.bel hg h.bel.size (fun k hk => (h.row.lt k hk).1)
  have htk : R.take (i + 1) = R.take i ++ [r] := by
    rw [List.take_add_one, hr]
    rfl
  have hil : (R.take i).length = i := by
    have := (List.getElem?_eq_some_iff.1 hr).1
    simp
    omega
  refine ⟨hb0.cell (i := 1) rfl, hb0.free 1, hb0.lt, fun b c hb hne => (hg.block b hb.lt (fun e => hne e.symm)).trans hb, ⟨hbel.setCell (show w.heap.size ≤ (⟨w.heap.size, 1, none⟩ : Addr).block from Nat.le_refl _) _, (hb0.set 1 v1).congr rfl, hset _ _ _ hb1 (by omega), ?_, by simp [h.len], fun j r' tv hj ht => ?_⟩⟩
  · rw [htk, rowsFlat_more (by rw [h.len, hil])]
    refine ⟨hown.1, ?_⟩
    rcases hown.2 with h3 | ⟨g, cap, cur, h3, h4, h5, h6⟩
    · exact .inl h3
    · have hgb : Blk w8 g cur 97 := h5
      exact .inr ⟨g, cap, cur, h3, h4, hset _ _ _ hgb (hgb.ne hb0 (by decide)), h6⟩
  · have hto : OwnTab 163 w.heap.size W tv r'.tab := by
      rw [List.getElem?_append] at ht
      split at ht
      · exact h.tabs j r' tv hj ht
      · rename_i hlt
        rw [h.len] at hlt ht
        have : j - i = 0 := by
          have := (List.getElem?_eq_some_iff.1 ht).1
          simp at this
          omega
        rw [this] at ht
        simp at ht
        obtain rfl : j = i := by omega
        rw [hr] at hj
        simp at hj
        subst hj ht
        exact ht'
    refine hto.blk fun g c hlo hgb => ?_
    have := hkeep _ _ _ hgb (by decide)
    exact hset _ _ _ this (this.ne hb0 (by decide))
theorem OwnWord.blk {T E : TypeId} {lo : Nat} {w w' : World} {v : Value} {R : List RowC} (h : OwnWord T E lo w v R) (k : ∀ g c U, U = T ∨ U = E → Blk w g c U → Blk w' g c U) : OwnWord T E lo w' v R := by
  rcases h with h | ⟨g, cap, cur, tvs, h1, h2, h3, h4, h5, h6, h7, h8, h9⟩
  · exact .inl h
  · exact .inr ⟨g, cap, cur, tvs, h1, h2, h3, h4, k _ _ _ (.inl rfl) h5, h6, h7, h8, fun i r tv hi ht => (h9 i r tv hi ht).blk (fun g c _ hg => k _ _ _ (.inr rfl) hg)⟩
theorem OwnAt.fin {w : World} {s : Int} {R : List RowC} {i : Nat} {v : Value} {tvs : List Value} {wr : World} (h : OwnAt w s R i v tvs wr) (hi : i = R.length) :
    ∃ a c, v = .slice a i c ∧ i ≤ c ∧ c ≤ 9223372036854775807 ∧ OwnWord 97 163 w.heap.size wr (.slice a i i) R := by
  subst hi
  rcases h.row.2 with ⟨rfl, h2⟩ | ⟨g, cap, cur, rfl, h2, h3, h4, h5, h6, h7⟩
  · rw [h2]
    exact ⟨none, 0, rfl, by omega, by omega, .inl ⟨rfl, List.length_eq_zero_iff.1 h2⟩⟩
  · refine ⟨_, cap, rfl, h4, h5, .inr ⟨g, _, cur, tvs, rfl, Nat.le_refl _, by omega, h2, h3, by rw [h6]; exact Nat.mul_le_mul_right _ h4, ?_, h.len, h.tabs⟩⟩
    rw [h7, List.take_length]
def InvO (w : World) (s : Int) (wv : Value) (R : List RowC) (n : Nat) (k : Nat) (a : Act) (wr : World) : Prop :=
  ∃ i v tvs, i + k = n ∧ Hid (OwnAt w s R i v tvs wr) ∧
    a.tmps.size = 34 ∧ a.defers = [] ∧ slot a 1 = .pointer (some ⟨w.heap.size, 0, none⟩) ∧ slot a 2 = .pointer (some ⟨w.heap.size + 1, 0, none⟩) ∧ slot a 11 = wv ∧ slot a 12 = .int .i64 n ∧ slot a 13 = .int .i64 i
set_option maxHeartbeats 4000000 in
theorem ownP (w : World) (s : Int) (wv : Value) (R : List RowC) (hw : WordAt 0 w wv R) (hk : ∀ r ∈ R, RowOk r) (hn : R.length ≤ 1000000) (ht : ∀ r ∈ R, r.tab.length ≤ 1000000) :
    Calls Try.prog 63 #[.agg #[.int .u8 s, wv]] w fun e w' => ∃ v', e = .returned (.agg #[.int .u8 s, v']) ∧ OwnWord 97 163 w.heap.size w' v' R ∧ Below w.heap.size w w' := by
  obtain ⟨i0, z0, hi, hz0, hz1, hz2, hz3, -⟩ := rowInfo
  obtain ⟨d0, hd0, hd1⟩ := rowRow
  obtain ⟨ao, n, cap, rfl, hnR⟩ : ∃ ao n cap, wv = .slice ao n cap ∧ n = R.length := by
    rcases hw with ⟨rfl, rfl⟩ | ⟨ad, cap, rfl, _⟩
    · exact ⟨_, _, _, rfl, rfl⟩
    · exact ⟨_, _, _, rfl, rfl⟩
  replace hw := Lib.hid hw
  replace hk := Lib.hid hk
  replace ht := Lib.hid ht
  rw [← hnR] at hn
  replace hnR := Lib.hid hnR
  go_enter Try.func63, Try.ntmps63
  go_wp2_with fail
  refine wp_loop_k (InvO w s (.slice ao n cap) R n) n ?_ ?_
  · refine ⟨0, .slice none 0 0, [], by omega, ⟨(below_alloc _ _).trans ((below_alloc _ _).mono (by simp)), (Blk.new w _ _).alloc _, by
      have := Blk.new (w.alloc (.cells #[.int .u8 s, .slice none 0 0] 40)) #[.int .u8 0, .slice none 0 0] 40
      simpa using this, by simpa [rowsFlat] using World.ownsRow_nil _ _ _ _, rfl, by simp⟩, by kernel_rfl, rfl, by kernel_rfl, by kernel_rfl, by kernel_rfl, by kernel_rfl, by kernel_rfl⟩
  intro gk a wr hI K hK
  obtain ⟨i, v, tvs, hi0, hO, hs', hd', k1', k2', k11', k12', k13'⟩ := hI
  rw [fr34 a hs' hd']; simp only [k1', k2', k11', k12', k13']; clear hs' hd' k1' k2' k11' k12' k13'
  have c1 : wr.cell? ⟨w.heap.size, 1, none⟩ = some v := hO.out.blk.cell (i := 1) rfl
  have c0 : wr.cell? ⟨w.heap.size, 0, none⟩ = some (.int .u8 s) := hO.out.blk.cell (i := 0) rfl
  by_cases hl : i < n
  · have g1 : decide ((i : Int) < (n : Int)) = true := by simp; omega
    have g2 : (i : Int) < (n : Int) := by omega
    have g3 : IntKind.i64.wrap ((i : Int) + 1) = ((i + 1 : Nat) : Int) := by rw [wrap_i64_small _ (by omega) (by omega)]; omega
    obtain ⟨r, hr⟩ : ∃ r, R[i]? = some r := ⟨_, List.getElem?_eq_getElem (by have := hnR.out; omega)⟩
    obtain ⟨ad, rfl, tv, htv, hcs⟩ : ∃ ad, ao = some ad ∧ RowAt 0 w (ad.add (i * 57)) r := by
      rcases hw.out with ⟨h1, h2⟩ | ⟨ad, cap', h1, _, _, _, h2⟩
      · rw [h2] at hr
        simp at hr
      · simp only [Value.slice.injEq] at h1
        exact ⟨ad, h1.1, h2 i r hr⟩
    have hkr := hk.out r (List.mem_of_getElem? hr)
    have htr := ht.out r (List.mem_of_getElem? hr)
    have hcs' : ∀ j u, (r.hd ++ [tv])[j]? = some u → wr.cell? ((ad.add (i * 57)).add j) = some u := fun j u hj => below_cell (hcs j u hj) hO.out.bel (World.block_lt_of_cell? w _ (hcs j u hj))
    have hlen : (r.hd ++ [tv]).length = 57 := by simp [hkr.hd.length]
    have hone : (r.hd ++ [tv]).toArray.all (·.oneCell') = true := by
      apply all_oneCell_toArray
      intro u hu
      rcases List.mem_append.1 hu with hu | hu
      · exact Fits.one hkr.hd u hu
      · simp at hu
        subst hu
        rcases htv with ⟨rfl, _⟩ | ⟨_, _, rfl, _⟩ <;> rfl
    replace hcs' := Lib.hid hcs'
    replace hkr := Lib.hid hkr
    replace htv := Lib.hid htv
    generalize hY : r.hd ++ [tv] = Y at *
    replace hY := Lib.hid hY
    have hnew := Lib.hid (Blk.new wr z0.cells 97)
    go_upto_region 6 with (first | refine wpList_val rfl (ex_load 97 (.tmp 15) rfl (ad.add (i * 57)) rfl Y d0 hcs'.out hd0 hd1 (by rw [rowSize, hlen])) ?_ | refine wpList_val rfl (ex_alloc 97 rfl i0 z0 hi hz0) ?_ | refine wpList_skp rfl (ex_store_row 97 (.tmp 5) (.tmp 16) rfl wr.heap.size Y.toArray rfl rfl 97 z0.cells hnew.out (by rw [rowSize]; simp [hlen]) (by simp [hz3, hlen]) hone) ?_ | fail)
    have hW6 : Below wr.heap.size wr ((wr.alloc (.cells z0.cells 97)).setRow wr.heap.size Y.toArray) := brow (below_alloc _ _) (Nat.le_refl _) _
    have k5 : Blk ((wr.alloc (.cells z0.cells 97)).setRow wr.heap.size Y.toArray) wr.heap.size Y.toArray 97 := hnew.out.setRow _
    have hO6 := hO.out.below hW6
    have hvb : v.ownBlock ≠ some wr.heap.size := fun e => by
      have := (hO.out.row.lt _ e).2
      omega
    replace hvb := Lib.hid hvb
    have htv6 := htv.out.keep (KeepC.of_below (w' := (wr.alloc (.cells z0.cells 97)).setRow wr.heap.size Y.toArray) (by
      have := hO6.bel
      exact this))
    clear hO hW6 hnew c0 c1 hcs'
    generalize (wr.alloc (.cells z0.cells 97)).setRow wr.heap.size Y.toArray = W6 at *
    generalize wr.heap.size = b5 at *
    have c1 : W6.cell? ⟨w.heap.size, 1, none⟩ = some v := hO6.blk.cell (i := 1) rfl
    have hcl : ∀ W, Below W6.heap.size W6 W → W.cell? ⟨w.heap.size, 1, none⟩ = some v ∧ W.rangeAt b5 0 Y := fun W hW => ⟨(hO6.blk.below hW hO6.blk.lt).cell (i := 1) rfl, fun j u hj => by
      have := (k5.below hW k5.lt).cell (i := j) (v := u) (by simpa using hj)
      simpa using this⟩
    have hP : ∀ W, Below W6.heap.size W6 W → Calls Try.prog 102 #[.agg Y.toArray] W fun e w' => ∃ tv', e = .returned (.agg (r.hd ++ [tv']).toArray) ∧ OwnTab 163 W.heap.size w' tv' r.tab ∧ Below W.heap.size W w' := fun W hW => by
      rw [← hY.out]
      exact copyR W r tv (htv6.keep (KeepC.of_below hW)) hkr.out htr
    replace hO6 := Lib.hid hO6
    replace k5 := Lib.hid k5
    replace hcl := Lib.hid hcl
    replace hP := Lib.hid hP
    replace htv6 := Lib.hid htv6
    clear c1 hone
    have d1 : W6.drew.cell? ⟨w.heap.size, 1, none⟩ = some v := (hcl.out _ (below_drewN W6 1)).1
    have d5 : W6.drew.rangeAt b5 0 Y := (hcl.out _ (below_drewN W6 1)).2
    refine wp_region_held_drew (S := fun W => W.rangeAt b5 0 Y) (by kernel_rfl) d5 (fun hHeld => ?_)
    refine wpAnyH_take (i := 0) (oi := { dst := some 17, op := .fieldAddr _ (.tmp 1) 1, type := _, pos := _, after := _, guard := _ }) (v := ?_) rfl (by kernel_rfl) (by kernel_rfl) (by kernel_rfl) (fun _ _ _ h => h) (Or.inl ⟨by rfl, ?_⟩) (by assumption) ?_
    rotate_left
    · (intro w hSw; (try dsimp only at hSw); go_simp) <;> with_reducible rfl
    try simp only [Act.put, List.setIfInBounds_toArray, List.set_cons_zero, List.set_cons_succ]
    refine wpAnyH_take (i := 1) (oi := { dst := some 18, op := .fieldAddr _ (.tmp 17) 0, type := _, pos := _, after := _, guard := _ }) (v := ?_) rfl (by kernel_rfl) (by kernel_rfl) (by kernel_rfl) (fun _ _ _ h => h) (Or.inl ⟨by rfl, ?_⟩) (by assumption) ?_
    rotate_left
    · (intro w hSw; (try dsimp only at hSw); go_simp) <;> with_reducible rfl
    try simp only [Act.put, List.setIfInBounds_toArray, List.set_cons_zero, List.set_cons_succ]
    refine wpAnyH_take (i := 3) (oi := { dst := some 20, op := .load _ (.tmp 5), type := _, pos := _, after := _, guard := _ }) (v := .agg Y.toArray) rfl (by kernel_rfl) (by kernel_rfl) (by kernel_rfl) (fun _ _ _ h => h) (yieldsIf_load_mid (by rfl) _ _ rfl _ _ rfl _ _ (fun W hW => hW) hd0 hd1 (by rw [rowSize, hlen])) (by assumption) ?_
    try simp only [Act.put, List.setIfInBounds_toArray, List.set_cons_zero, List.set_cons_succ]
    refine wpAnyH_ready (rs := [2, 4]) (by kernel_rfl) (by simp) ?_
    refine AllReadyH.cons (o := { dst := some 19, op := .load _ (.tmp 18), type := _, pos := _, after := _, guard := _ }) rfl (fun K6 hK6 => ?_) (AllReadyH.cons (o := { dst := some 21, op := .call { callee := .value (.func 102), args := #[.tmp 20], argTypes := _ }, type := _, pos := _, after := _, guard := _ }) rfl (fun K6 hK6 => ?_) AllReadyH.nil)
    · go_simp
      refine hK6.out _ _ d5 (fun hHeld => ?_)
      clear hK6 K6
      try simp only [Act.put, List.setIfInBounds_toArray, List.set_cons_zero, List.set_cons_succ]
      refine wpAnyH_ready (rs := [4]) (by kernel_rfl) (by simp) ?_
      refine AllReadyH.cons (o := { dst := some 21, op := .call { callee := .value (.func 102), args := #[.tmp 20], argTypes := _ }, type := _, pos := _, after := _, guard := _ }) rfl (fun K6 hK6 => ?_) AllReadyH.nil
      go_simp
      refine (hP.out _ (below_drewN W6 1)).mono ?_
      rintro e w7 ⟨tv7, rfl, hT7, hb7⟩
      have hb67 := bthen (below_drewN W6 1) hb7
      have hO7 := Lib.hid (hO6.out.below hb67)
      have c7 : w7.cell? ⟨w.heap.size, 1, none⟩ = some v := (hcl.out _ hb67).1
      have s7 := (hcl.out _ hb67).2
      have hT7' := Lib.hid (hT7.mono (show w.heap.size ≤ W6.drew.heap.size from hO6.out.bel.size))
      have k57 := Lib.hid (k5.out.below hb67 k5.out.lt)
      refine hK6.out _ _ s7 (fun hHeld => ?_)
      clear hK6 K6 hT7 hb7 hb67
      have hZ1 : (r.hd ++ [tv7]).length = 57 := by simp [hkr.out.hd.length]
      have hZo : ∀ u ∈ r.hd ++ [tv7], u.oneCell' = true := by
        intro u hu
        rcases List.mem_append.1 hu with hu | hu
        · exact Fits.one hkr.out.hd u hu
        · simp at hu
          subst hu
          obtain ⟨_, _, rfl, _⟩ := hT7'.out.out
          rfl
      replace hZo := Lib.hid hZo
      try simp only [Act.put, List.setIfInBounds_toArray, List.set_cons_zero, List.set_cons_succ]
      refine wpAnyH_ready (rs := [5]) (by kernel_rfl) (by simp) ?_
      refine AllReadyH.cons (o := { dst := some 22, op := .buildSlice 36 1 #[(0, .tmp 21)], type := _, pos := _, after := _, guard := _ }) rfl (fun K6 hK6 => ?_) AllReadyH.nil
      refine step_val rfl (ex_buildSlice1 36 97 (.tmp 21) rfl i0 z0 (r.hd ++ [tv7]).toArray Try.underlying36 hi hz0 (by simp [hZ1, hz1]) (by omega) (by omega) rfl) ?_
      have hO8 := Lib.hid (hO7.out.below (below_alloc w7 (.cells (r.hd ++ [tv7]).toArray 97)))
      have hT8 := Lib.hid (hT7'.out.below (below_alloc w7 (.cells (r.hd ++ [tv7]).toArray 97)) (Nat.le_refl _))
      have k58 := Lib.hid (k57.out.alloc (.cells (r.hd ++ [tv7]).toArray 97))
      have kn8 := Lib.hid (Blk.new w7 (r.hd ++ [tv7]).toArray 97)
      have c8 : (w7.alloc (.cells (r.hd ++ [tv7]).toArray 97)).cell? ⟨w.heap.size, 1, none⟩ = some v := hO8.out.blk.cell (i := 1) rfl
      have hs8 := hO8.out.bel.size
      refine hK6.out _ _ (World.rangeAt_alloc hHeld _) (fun hHeld => ?_)
      clear hK6 K6 hO7 hT7' k57 c7
      generalize w7.alloc (.cells (r.hd ++ [tv7]).toArray 97) = w8 at *
      generalize w7.heap.size = b7 at *
      try simp only [Act.put, List.setIfInBounds_toArray, List.set_cons_zero, List.set_cons_succ]
      refine wpAnyH_ready (rs := [6]) (by kernel_rfl) (by simp) ?_
      refine AllReadyH.cons (o := { dst := some 23, op := .call { callee := .builtin .append, args := #[.tmp 19, .tmp 22], argTypes := #[36, 36] }, type := _, pos := _, after := _, guard := _ }) rfl (fun K6 hK6 => ?_) AllReadyH.nil
      refine step_append_big rfl (.tmp 19) (.tmp 22) 36 rfl w.heap.size 97 i0 z0 57 160 Try.underlying36 hi hz0 hz1 hz2 hz3 (by decide) v i (rowsFlat (R.take i) tvs) rfl hO8.out.row ⟨b7, 0, none⟩ 1 1 (r.hd ++ [tv7]) rfl (by simp [hZ1]) (fun j u hj => by rw [add_head]; exact kn8.out.cell (by simpa using hj)) hZo.out (by unfold maxLen; omega) (by omega) hs8 ?_
      intro v1 w9 hown hg _
      obtain ⟨g1', cp1, rfl⟩ : ∃ g c, v1 = .slice (some ⟨g, 0, none⟩) (i + 1) c := by
        rcases hown.2 with ⟨_, h⟩ | ⟨g, c, _, h, _⟩
        · omega
        · exact ⟨g, c, h⟩
      obtain ⟨e1, e2, e3, e4, hO9⟩ := hO8.out.append hr hT8.out hown hg
      have k59 := Lib.hid (e4 _ _ k58.out hvb.out)
      have hr9 : ∀ W, Blk W b5 Y.toArray 97 → W.rangeAt b5 0 Y := fun W hW j u hj => by
        have := hW.cell (i := j) (v := u) (by simpa using hj)
        simpa using this
      replace hO9 := Lib.hid hO9
      have hb9 := Lib.hid (k59.out.setNe (a := ⟨w.heap.size, 1, none⟩) (by
        have := hO8.out.blk.ne k58.out (by decide)
        exact fun e => this e.symm) (.slice (some ⟨g1', 0, none⟩) (i + 1) cp1))
      refine hK6.out _ _ (hr9 _ k59.out) (fun hHeld => ?_)
      clear hK6 K6 hown hg e4 hO8 hT8 k58 kn8 c8
      try simp only [Act.put, List.setIfInBounds_toArray, List.set_cons_zero, List.set_cons_succ]
      refine wpAnyH_ready (rs := [7]) (by kernel_rfl) (by simp) ?_
      refine AllReadyH.cons (o := { dst := some 24, op := .fieldAddr _ (.tmp 1) 1, type := _, pos := _, after := _, guard := _ }) rfl (fun K6 hK6 => ?_) AllReadyH.nil
      go_simp
      refine hK6.out _ _ hHeld (fun hHeld => ?_)
      clear hK6 K6
      try simp only [Act.put, List.setIfInBounds_toArray, List.set_cons_zero, List.set_cons_succ]
      refine wpAnyH_ready (rs := [8]) (by kernel_rfl) (by simp) ?_
      refine AllReadyH.cons (o := { dst := some 25, op := .fieldAddr _ (.tmp 24) 0, type := _, pos := _, after := _, guard := _ }) rfl (fun K6 hK6 => ?_) AllReadyH.nil
      go_simp
      refine hK6.out _ _ hHeld (fun hHeld => ?_)
      clear hK6 K6
      try simp only [Act.put, List.setIfInBounds_toArray, List.set_cons_zero, List.set_cons_succ]
      refine wpAnyH_ready (rs := [9]) (by kernel_rfl) (by simp) ?_
      refine AllReadyH.cons (o := { dst := none, op := .store _ (.tmp 25) (.tmp 23), type := _, pos := _, after := _, guard := _ }) rfl (fun K6 hK6 => ?_) AllReadyH.nil
      go_simp
      refine hK6.out _ _ (hr9 _ hb9.out) (fun hHeld => ?_)
      clear hK6 K6
      try simp only [Act.put, List.setIfInBounds_toArray, List.set_cons_zero, List.set_cons_succ]
      refine wpAnyH_done (by kernel_rfl) ?_ _
      clear hHeld hr9 e1 e2 e3
      generalize w9.setCell ⟨w.heap.size, 1, none⟩ (.slice (some ⟨g1', 0, none⟩) (i + 1) cp1) = w10 at *
      go_wp2_with fail
      refine hK (n - (i + 1)) _ _ (by omega) ⟨i + 1, _, tvs ++ [tv7], by omega, hO9, by kernel_rfl, rfl, by kernel_rfl, by kernel_rfl, by kernel_rfl, by kernel_rfl, by kernel_rfl⟩
    · go_simp
      refine (hP.out _ (below_drewN W6 1)).mono ?_
      rintro e w7 ⟨tv7, rfl, hT7, hb7⟩
      have hb67 := bthen (below_drewN W6 1) hb7
      have hO7 := Lib.hid (hO6.out.below hb67)
      have c7 : w7.cell? ⟨w.heap.size, 1, none⟩ = some v := (hcl.out _ hb67).1
      have s7 := (hcl.out _ hb67).2
      have hT7' := Lib.hid (hT7.mono (show w.heap.size ≤ W6.drew.heap.size from hO6.out.bel.size))
      have k57 := Lib.hid (k5.out.below hb67 k5.out.lt)
      refine hK6.out _ _ s7 (fun hHeld => ?_)
      clear hK6 K6 hT7 hb7 hb67
      have hZ1 : (r.hd ++ [tv7]).length = 57 := by simp [hkr.out.hd.length]
      have hZo : ∀ u ∈ r.hd ++ [tv7], u.oneCell' = true := by
        intro u hu
        rcases List.mem_append.1 hu with hu | hu
        · exact Fits.one hkr.out.hd u hu
        · simp at hu
          subst hu
          obtain ⟨_, _, rfl, _⟩ := hT7'.out.out
          rfl
      replace hZo := Lib.hid hZo
      try simp only [Act.put, List.setIfInBounds_toArray, List.set_cons_zero, List.set_cons_succ]
      refine wpAnyH_ready (rs := [2, 5]) (by kernel_rfl) (by simp) ?_
      refine AllReadyH.cons (o := { dst := some 19, op := .load _ (.tmp 18), type := _, pos := _, after := _, guard := _ }) rfl (fun K6 hK6 => ?_) (AllReadyH.cons (o := { dst := some 22, op := .buildSlice 36 1 #[(0, .tmp 21)], type := _, pos := _, after := _, guard := _ }) rfl (fun K6 hK6 => ?_) AllReadyH.nil)
      · go_simp
        refine hK6.out _ _ hHeld (fun hHeld => ?_)
        clear hK6 K6
        try simp only [Act.put, List.setIfInBounds_toArray, List.set_cons_zero, List.set_cons_succ]
        refine wpAnyH_ready (rs := [5]) (by kernel_rfl) (by simp) ?_
        refine AllReadyH.cons (o := { dst := some 22, op := .buildSlice 36 1 #[(0, .tmp 21)], type := _, pos := _, after := _, guard := _ }) rfl (fun K6 hK6 => ?_) AllReadyH.nil
        refine step_val rfl (ex_buildSlice1 36 97 (.tmp 21) rfl i0 z0 (r.hd ++ [tv7]).toArray Try.underlying36 hi hz0 (by simp [hZ1, hz1]) (by omega) (by omega) rfl) ?_
        have hO8 := Lib.hid (hO7.out.below (below_alloc w7 (.cells (r.hd ++ [tv7]).toArray 97)))
        have hT8 := Lib.hid (hT7'.out.below (below_alloc w7 (.cells (r.hd ++ [tv7]).toArray 97)) (Nat.le_refl _))
        have k58 := Lib.hid (k57.out.alloc (.cells (r.hd ++ [tv7]).toArray 97))
        have kn8 := Lib.hid (Blk.new w7 (r.hd ++ [tv7]).toArray 97)
        have c8 : (w7.alloc (.cells (r.hd ++ [tv7]).toArray 97)).cell? ⟨w.heap.size, 1, none⟩ = some v := hO8.out.blk.cell (i := 1) rfl
        have hs8 := hO8.out.bel.size
        refine hK6.out _ _ (World.rangeAt_alloc hHeld _) (fun hHeld => ?_)
        clear hK6 K6 hO7 hT7' k57 c7
        generalize w7.alloc (.cells (r.hd ++ [tv7]).toArray 97) = w8 at *
        generalize w7.heap.size = b7 at *
        try simp only [Act.put, List.setIfInBounds_toArray, List.set_cons_zero, List.set_cons_succ]
        refine wpAnyH_ready (rs := [6]) (by kernel_rfl) (by simp) ?_
        refine AllReadyH.cons (o := { dst := some 23, op := .call { callee := .builtin .append, args := #[.tmp 19, .tmp 22], argTypes := #[36, 36] }, type := _, pos := _, after := _, guard := _ }) rfl (fun K6 hK6 => ?_) AllReadyH.nil
        refine step_append_big rfl (.tmp 19) (.tmp 22) 36 rfl w.heap.size 97 i0 z0 57 160 Try.underlying36 hi hz0 hz1 hz2 hz3 (by decide) v i (rowsFlat (R.take i) tvs) rfl hO8.out.row ⟨b7, 0, none⟩ 1 1 (r.hd ++ [tv7]) rfl (by simp [hZ1]) (fun j u hj => by rw [add_head]; exact kn8.out.cell (by simpa using hj)) hZo.out (by unfold maxLen; omega) (by omega) hs8 ?_
        intro v1 w9 hown hg _
        obtain ⟨g1', cp1, rfl⟩ : ∃ g c, v1 = .slice (some ⟨g, 0, none⟩) (i + 1) c := by
          rcases hown.2 with ⟨_, h⟩ | ⟨g, c, _, h, _⟩
          · omega
          · exact ⟨g, c, h⟩
        obtain ⟨e1, e2, e3, e4, hO9⟩ := hO8.out.append hr hT8.out hown hg
        have k59 := Lib.hid (e4 _ _ k58.out hvb.out)
        have hr9 : ∀ W, Blk W b5 Y.toArray 97 → W.rangeAt b5 0 Y := fun W hW j u hj => by
          have := hW.cell (i := j) (v := u) (by simpa using hj)
          simpa using this
        replace hO9 := Lib.hid hO9
        have hb9 := Lib.hid (k59.out.setNe (a := ⟨w.heap.size, 1, none⟩) (by
          have := hO8.out.blk.ne k58.out (by decide)
          exact fun e => this e.symm) (.slice (some ⟨g1', 0, none⟩) (i + 1) cp1))
        refine hK6.out _ _ (hr9 _ k59.out) (fun hHeld => ?_)
        clear hK6 K6 hown hg e4 hO8 hT8 k58 kn8 c8
        try simp only [Act.put, List.setIfInBounds_toArray, List.set_cons_zero, List.set_cons_succ]
        refine wpAnyH_ready (rs := [7]) (by kernel_rfl) (by simp) ?_
        refine AllReadyH.cons (o := { dst := some 24, op := .fieldAddr _ (.tmp 1) 1, type := _, pos := _, after := _, guard := _ }) rfl (fun K6 hK6 => ?_) AllReadyH.nil
        go_simp
        refine hK6.out _ _ hHeld (fun hHeld => ?_)
        clear hK6 K6
        try simp only [Act.put, List.setIfInBounds_toArray, List.set_cons_zero, List.set_cons_succ]
        refine wpAnyH_ready (rs := [8]) (by kernel_rfl) (by simp) ?_
        refine AllReadyH.cons (o := { dst := some 25, op := .fieldAddr _ (.tmp 24) 0, type := _, pos := _, after := _, guard := _ }) rfl (fun K6 hK6 => ?_) AllReadyH.nil
        go_simp
        refine hK6.out _ _ hHeld (fun hHeld => ?_)
        clear hK6 K6
        try simp only [Act.put, List.setIfInBounds_toArray, List.set_cons_zero, List.set_cons_succ]
        refine wpAnyH_ready (rs := [9]) (by kernel_rfl) (by simp) ?_
        refine AllReadyH.cons (o := { dst := none, op := .store _ (.tmp 25) (.tmp 23), type := _, pos := _, after := _, guard := _ }) rfl (fun K6 hK6 => ?_) AllReadyH.nil
        go_simp
        refine hK6.out _ _ (hr9 _ hb9.out) (fun hHeld => ?_)
        clear hK6 K6
        try simp only [Act.put, List.setIfInBounds_toArray, List.set_cons_zero, List.set_cons_succ]
        refine wpAnyH_done (by kernel_rfl) ?_ _
        clear hHeld hr9 e1 e2 e3
        generalize w9.setCell ⟨w.heap.size, 1, none⟩ (.slice (some ⟨g1', 0, none⟩) (i + 1) cp1) = w10 at *
        go_wp2_with fail
        refine hK (n - (i + 1)) _ _ (by omega) ⟨i + 1, _, tvs ++ [tv7], by omega, hO9, by kernel_rfl, rfl, by kernel_rfl, by kernel_rfl, by kernel_rfl, by kernel_rfl, by kernel_rfl⟩
      · skip
        refine step_val rfl (ex_buildSlice1 36 97 (.tmp 21) rfl i0 z0 (r.hd ++ [tv7]).toArray Try.underlying36 hi hz0 (by simp [hZ1, hz1]) (by omega) (by omega) rfl) ?_
        have hO8 := Lib.hid (hO7.out.below (below_alloc w7 (.cells (r.hd ++ [tv7]).toArray 97)))
        have hT8 := Lib.hid (hT7'.out.below (below_alloc w7 (.cells (r.hd ++ [tv7]).toArray 97)) (Nat.le_refl _))
        have k58 := Lib.hid (k57.out.alloc (.cells (r.hd ++ [tv7]).toArray 97))
        have kn8 := Lib.hid (Blk.new w7 (r.hd ++ [tv7]).toArray 97)
        have c8 : (w7.alloc (.cells (r.hd ++ [tv7]).toArray 97)).cell? ⟨w.heap.size, 1, none⟩ = some v := hO8.out.blk.cell (i := 1) rfl
        have hs8 := hO8.out.bel.size
        refine hK6.out _ _ (World.rangeAt_alloc hHeld _) (fun hHeld => ?_)
        clear hK6 K6 hO7 hT7' k57 c7
        generalize w7.alloc (.cells (r.hd ++ [tv7]).toArray 97) = w8 at *
        generalize w7.heap.size = b7 at *
        try simp only [Act.put, List.setIfInBounds_toArray, List.set_cons_zero, List.set_cons_succ]
        refine wpAnyH_ready (rs := [2]) (by kernel_rfl) (by simp) ?_
        refine AllReadyH.cons (o := { dst := some 19, op := .load _ (.tmp 18), type := _, pos := _, after := _, guard := _ }) rfl (fun K6 hK6 => ?_) AllReadyH.nil
        go_simp
        refine hK6.out _ _ hHeld (fun hHeld => ?_)
        clear hK6 K6
        try simp only [Act.put, List.setIfInBounds_toArray, List.set_cons_zero, List.set_cons_succ]
        refine wpAnyH_ready (rs := [6]) (by kernel_rfl) (by simp) ?_
        refine AllReadyH.cons (o := { dst := some 23, op := .call { callee := .builtin .append, args := #[.tmp 19, .tmp 22], argTypes := #[36, 36] }, type := _, pos := _, after := _, guard := _ }) rfl (fun K6 hK6 => ?_) AllReadyH.nil
        refine step_append_big rfl (.tmp 19) (.tmp 22) 36 rfl w.heap.size 97 i0 z0 57 160 Try.underlying36 hi hz0 hz1 hz2 hz3 (by decide) v i (rowsFlat (R.take i) tvs) rfl hO8.out.row ⟨b7, 0, none⟩ 1 1 (r.hd ++ [tv7]) rfl (by simp [hZ1]) (fun j u hj => by rw [add_head]; exact kn8.out.cell (by simpa using hj)) hZo.out (by unfold maxLen; omega) (by omega) hs8 ?_
        intro v1 w9 hown hg _
        obtain ⟨g1', cp1, rfl⟩ : ∃ g c, v1 = .slice (some ⟨g, 0, none⟩) (i + 1) c := by
          rcases hown.2 with ⟨_, h⟩ | ⟨g, c, _, h, _⟩
          · omega
          · exact ⟨g, c, h⟩
        obtain ⟨e1, e2, e3, e4, hO9⟩ := hO8.out.append hr hT8.out hown hg
        have k59 := Lib.hid (e4 _ _ k58.out hvb.out)
        have hr9 : ∀ W, Blk W b5 Y.toArray 97 → W.rangeAt b5 0 Y := fun W hW j u hj => by
          have := hW.cell (i := j) (v := u) (by simpa using hj)
          simpa using this
        replace hO9 := Lib.hid hO9
        have hb9 := Lib.hid (k59.out.setNe (a := ⟨w.heap.size, 1, none⟩) (by
          have := hO8.out.blk.ne k58.out (by decide)
          exact fun e => this e.symm) (.slice (some ⟨g1', 0, none⟩) (i + 1) cp1))
        refine hK6.out _ _ (hr9 _ k59.out) (fun hHeld => ?_)
        clear hK6 K6 hown hg e4 hO8 hT8 k58 kn8 c8
        try simp only [Act.put, List.setIfInBounds_toArray, List.set_cons_zero, List.set_cons_succ]
        refine wpAnyH_ready (rs := [7]) (by kernel_rfl) (by simp) ?_
        refine AllReadyH.cons (o := { dst := some 24, op := .fieldAddr _ (.tmp 1) 1, type := _, pos := _, after := _, guard := _ }) rfl (fun K6 hK6 => ?_) AllReadyH.nil
        go_simp
        refine hK6.out _ _ hHeld (fun hHeld => ?_)
        clear hK6 K6
        try simp only [Act.put, List.setIfInBounds_toArray, List.set_cons_zero, List.set_cons_succ]
        refine wpAnyH_ready (rs := [8]) (by kernel_rfl) (by simp) ?_
        refine AllReadyH.cons (o := { dst := some 25, op := .fieldAddr _ (.tmp 24) 0, type := _, pos := _, after := _, guard := _ }) rfl (fun K6 hK6 => ?_) AllReadyH.nil
        go_simp
        refine hK6.out _ _ hHeld (fun hHeld => ?_)
        clear hK6 K6
        try simp only [Act.put, List.setIfInBounds_toArray, List.set_cons_zero, List.set_cons_succ]
        refine wpAnyH_ready (rs := [9]) (by kernel_rfl) (by simp) ?_
        refine AllReadyH.cons (o := { dst := none, op := .store _ (.tmp 25) (.tmp 23), type := _, pos := _, after := _, guard := _ }) rfl (fun K6 hK6 => ?_) AllReadyH.nil
        go_simp
        refine hK6.out _ _ (hr9 _ hb9.out) (fun hHeld => ?_)
        clear hK6 K6
        try simp only [Act.put, List.setIfInBounds_toArray, List.set_cons_zero, List.set_cons_succ]
        refine wpAnyH_done (by kernel_rfl) ?_ _
        clear hHeld hr9 e1 e2 e3
        generalize w9.setCell ⟨w.heap.size, 1, none⟩ (.slice (some ⟨g1', 0, none⟩) (i + 1) cp1) = w10 at *
        go_wp2_with fail
        refine hK (n - (i + 1)) _ _ (by omega) ⟨i + 1, _, tvs ++ [tv7], by omega, hO9, by kernel_rfl, rfl, by kernel_rfl, by kernel_rfl, by kernel_rfl, by kernel_rfl, by kernel_rfl⟩
  have g1 : decide ((i : Int) < (n : Int)) = false := by simp; omega
  have g2 : ¬ (i : Int) < (n : Int) := by omega
  obtain rfl : i = n := by omega
  obtain ⟨a9, c9, rfl, m1, m2, hF⟩ := hO.out.fin hnR.out
  have b1 : wr.cell? ⟨w.heap.size + 1, 0, none⟩ = some (.int .u8 0) := hO.out.out.cell (i := 0) rfl
  have b2 : wr.cell? ⟨w.heap.size + 1, 1, none⟩ = some (.slice none 0 0) := hO.out.out.cell (i := 1) rfl
  have f1 : wr.frozen? ⟨w.heap.size, 1, none⟩ = false := hO.out.blk.free 1
  have f2 : wr.frozen? ⟨w.heap.size + 1, 0, none⟩ = false := hO.out.out.free 0
  have f3 : wr.frozen? ⟨w.heap.size + 1, 1, none⟩ = false := hO.out.out.free 1
  have l1 : w.heap.size + 1 < wr.heap.size := hO.out.out.lt
  replace hF := Lib.hid hF
  go_wp2_with fail
  refine (clipR _ _ _ _ m1 m2).mono ?_
  rintro e _ ⟨rfl, rfl⟩
  go_wp2_with fail
  have kb := (((hO.out.out.setNe (a := ⟨w.heap.size, 1, none⟩) (by simp) (.slice a9 i i)).set 0 (.int .u8 s)).set 1 (.slice a9 i i)).congr (c' := #[.int .u8 s, .slice a9 i i]) rfl
  have hbel := ((hO.out.bel.setCell (show w.heap.size ≤ (⟨w.heap.size, 1, none⟩ : Addr).block from Nat.le_refl _) (.slice a9 i i)).setCell (show w.heap.size ≤ (⟨w.heap.size + 1, 0, none⟩ : Addr).block from Nat.le_succ _) (.int .u8 s)).setCell (show w.heap.size ≤ (⟨w.heap.size + 1, 1, none⟩ : Addr).block from Nat.le_succ _) (.slice a9 i i)
  refine bodyPost_ret (v := .agg #[.int .u8 s, .slice a9 i i]) (results_cell_row (p := 2) (ty := 40) (by kernel_rfl) _ _ (w.heap.size + 1) 40 _ (0, 0) _ (by rfl) kb.out Try.underlying40 rfl (by kernel_rfl)) rfl ⟨_, rfl, hF.out.blk (fun g c U hU hg => ?_), hbel⟩
  have e0 := hg.ne hO.out.blk (by rcases hU with rfl | rfl <;> decide)
  have e1 := hg.ne hO.out.out (by rcases hU with rfl | rfl <;> decide)
  exact ((hg.setNe (a := ⟨w.heap.size, 1, none⟩) e0 _).setNe (a := ⟨w.heap.size + 1, 0, none⟩) e1 _).setNe (a := ⟨w.heap.size + 1, 1, none⟩) e1 _
end Go.Proofs.Ytmdohnbhogfopaa
/- The document's rows: what is known of their types; build. -/
namespace Go.Proofs.Ytmdohnbhogfopaa
open Go.RowKit
set_option linter.unusedSimpArgs false
set_option linter.unusedVariables false
set_option maxRecDepth 100000
theorem elemHeld2 : (Try.prog.info? 204).map (fun i => (i.size, i.bytes, i.zero.map (fun z => (z.cells.size, z.cells.toList)))) = some (56, 136, some (56, zeroH)) := by kernel_rfl
theorem heldInfo2 : ∃ i z, Try.prog.info? 204 = some i ∧ i.zero = some z ∧ i.size = 56 ∧ i.bytes = 136 ∧ z.cells.size = 56 ∧ z.cells.toList = zeroH := by
  have h := elemHeld2
  cases hi : Try.prog.info? 204 with
  | none => rw [hi] at h; cases h
  | some i =>
    rw [hi] at h
    simp only [Option.map_some, Option.some.injEq, Prod.mk.injEq] at h
    obtain ⟨h1, h2, h3⟩ := h
    cases hz : i.zero with
    | none => rw [hz] at h3; cases h3
    | some z =>
      rw [hz] at h3
      simp only [Option.map_some, Option.some.injEq, Prod.mk.injEq] at h3
      exact ⟨i, z, rfl, hz, h1, h2, h3.1, h3.2⟩
theorem elemRow2 : (Try.prog.info? 167).map (fun i => (i.size, i.bytes, i.zero.map (fun z => (z.cells.size, z.cells.toList)))) = some (57, 160, some (57, zeroH ++ [.slice none 0 0])) := by kernel_rfl
theorem rowInfo2 : ∃ i z, Try.prog.info? 167 = some i ∧ i.zero = some z ∧ i.size = 57 ∧ i.bytes = 160 ∧ z.cells.size = 57 ∧ z.cells.toList = zeroH ++ [.slice none 0 0] := by
  have h := elemRow2
  cases hi : Try.prog.info? 167 with
  | none => rw [hi] at h; cases h
  | some i =>
    rw [hi] at h
    simp only [Option.map_some, Option.some.injEq, Prod.mk.injEq] at h
    obtain ⟨h1, h2, h3⟩ := h
    cases hz : i.zero with
    | none => rw [hz] at h3; cases h3
    | some z =>
      rw [hz] at h3
      simp only [Option.map_some, Option.some.injEq, Prod.mk.injEq] at h3
      exact ⟨i, z, rfl, hz, h1, h2, h3.1, h3.2⟩
theorem heldRow2 : ∃ d, Try.prog.underlying 204 = some d ∧ d.isRow = true := ⟨_, Try.underlying204, rfl⟩
theorem rowRow2 : ∃ d, Try.prog.underlying 167 = some d ∧ d.isRow = true := ⟨_, Try.underlying167, rfl⟩
theorem cellRow : ∃ d, Try.prog.underlying 94 = some d ∧ d.isRow = true := ⟨_, Try.underlying94, rfl⟩
theorem rowSize2 : (Try.prog.info? 167).map (·.size) = some 57 := by kernel_rfl
theorem heldSize2 : (Try.prog.info? 204).map (·.size) = some 56 := by kernel_rfl
theorem cellSize : (Try.prog.info? 94).map (·.size) = some 55 := by kernel_rfl
theorem built_places {P : Program} {t : TypeId} {it : TypeInfo} {z : Value} {fs : Array Field} {places : List (Nat × Nat)} {parts : List (Nat × Value)} (hi : P.info? t = some it) (hz : it.zero = some z) (hu : P.underlying t = some (.struct fs))
    (hp : fs.toList.mapM (fun f => (P.info? f.type).map fun i => (f.offset, i.size)) = some places) : P.built t parts = Instr.fill (places.toArray[·]?) z.cells parts := by
  unfold Program.built
  simp only [hi, hu, hz, hp]
theorem built_held {t : TypeId} {it : TypeInfo} {z : Value} {fs : Array Field} (hi : Try.prog.info? t = some it) (hz : it.zero = some z) (hu : Try.prog.underlying t = some (.struct fs))
    (hp : fs.toList.mapM (fun f => (Try.prog.info? f.type).map fun i => (f.offset, i.size)) = some [(0, 1), (1, 55)]) (hs : z.cells.size = 56) (b : Bool) (c : List Value) (hc : c.length = 55) :
    Try.prog.built t [(0, .bool b), (1, .agg c.toArray)] = some (.bool b :: c).toArray := by
  rw [built_places hi hz hu hp]
  generalize z.cells = Z at *
  have e1 : (Value.bool b).cells = #[.bool b] := rfl
  have e2 : (Value.agg c.toArray).cells = c.toArray := rfl
  rw [fill_one (off := 0) (size := 1) (by rfl) (by rfl) (by omega), e1, fill_one (off := 1) (size := 55) (by rfl) (by rw [e2]; simpa using hc) (by simp; omega), e2]
  simp only [Instr.fill]
  congr 1
  apply Array.ext'
  simp only [List.take_zero, List.nil_append, List.append_assoc, List.cons_append, List.take_succ_cons]
  rw [List.drop_eq_nil_of_le (by simp; omega)]
  simp
theorem built_row {t : TypeId} {it : TypeInfo} {z : Value} {fs : Array Field} (hi : Try.prog.info? t = some it) (hz : it.zero = some z) (hu : Try.prog.underlying t = some (.struct fs))
    (hp : fs.toList.mapM (fun f => (Try.prog.info? f.type).map fun i => (f.offset, i.size)) = some [(0, 1), (1, 55), (56, 1)]) (hs : z.cells.toList = zeroH ++ [.slice none 0 0]) (b : Bool) (c : List Value) (hc : c.length = 55) :
    Try.prog.built t [(0, .bool b), (1, .agg c.toArray)] = some (Value.bool b :: c ++ [Value.slice none 0 0]).toArray := by
  have hz57 : z.cells.size = 57 := by
    have := congrArg List.length hs
    simpa [zeroH, zeroC] using this
  rw [built_places hi hz hu hp]
  generalize z.cells = Z at *
  have e1 : (Value.bool b).cells = #[.bool b] := rfl
  have e2 : (Value.agg c.toArray).cells = c.toArray := rfl
  rw [fill_one (off := 0) (size := 1) (by rfl) (by rfl) (by omega), e1, fill_one (off := 1) (size := 55) (by rfl) (by rw [e2]; simpa using hc) (by simp; omega), e2]
  simp only [Instr.fill]
  congr 1
  apply Array.ext'
  rw [hs]
  simp only [zeroH, zeroC, List.take_zero, List.nil_append, List.append_assoc, List.cons_append, List.take_succ_cons, List.drop_succ_cons, List.drop_zero, List.singleton_append]
  simp
end Go.Proofs.Ytmdohnbhogfopaa
/- Other: a row as the document has it. -/
namespace Go.Proofs.Ytmdohnbhogfopaa
open Go.RowKit
set_option linter.unusedSimpArgs false
set_option linter.unusedVariables false
set_option maxRecDepth 100000
theorem ex_build {P : Program} {a : Act} {op : Oper} {w : World} (t : TypeId) (parts : Array (Nat × Operand)) (ho : op.op = .build t parts) (ps : List (Nat × Value)) (hps : parts.toList.map (fun (i, x) => (i, a.eval x)) = ps) (cells : Array Value) (h : P.built t ps = some cells) :
    (execOp a.eval op).run P w = .ok (.value (.agg cells)) w := by
  unfold execOp
  subst hps
  rw [← Array.toList_map] at h
  simp only [ho, Sem.run_bind, run_build w t _ cells h, Result.andThen_ok, Sem.run_pure]
theorem HeldOk.split {h : List Value} (k : HeldOk h) : ∃ b c, h = .bool b :: c ∧ Fits cellKs c ∧ c.length = 55 := by
  cases h with
  | nil => exact k.elim
  | cons v c =>
    obtain ⟨⟨b, rfl⟩, h2⟩ := k
    exact ⟨b, c, rfl, h2, Fits.length h2⟩
theorem add_field (ad : Addr) (m k : Nat) : (⟨(ad.add m).block, (ad.add m).off + (k + 1), none⟩ : Addr) = ad.add (m + (k + 1)) := by
  by_cases hm : m = 0
  · subst hm
    simp [Addr.add]
  · simp [Addr.add, hm]
    omega
structure OthAt (w : World) (X : Array Value) (r : RowC) (i : Nat) (v : Value) (wr : World) : Prop where
  bel : Below w.heap.size w wr
  k0 : Blk wr w.heap.size X 97
  k1 : ∃ z, Blk wr (w.heap.size + 1) z 167 ∧ z.size = 57
  k2 : Blk wr (w.heap.size + 2) (r.hd ++ [v]).toArray 167
  row : wr.ownsRow w.heap.size 204 56 v i (r.tab.take i).flatten
theorem OthAt.below {w : World} {X : Array Value} {r : RowC} {i : Nat} {v : Value} {wr W : World} (h : OthAt w X r i v wr) (hb : Below wr.heap.size wr W) : OthAt w X r i v W := by
  obtain ⟨z, h1, h2⟩ := h.k1
  exact ⟨bthen h.bel hb, h.k0.below hb h.k0.lt, ⟨z, h1.below hb h1.lt, h2⟩, h.k2.below hb h.k2.lt, h.row.kept ⟨hb.os, hb.tape, hb.output, hb.size, fun k hk _ => hb.block k hk⟩ (row := none) (by
    cases hv : v.ownBlock with
    | none => exact .inl rfl
    | some k => exact .inr (by simp))⟩
theorem OthAt.append {w : World} {X : Array Value} {r : RowC} {i : Nat} {v v1 : Value} {t : List Value} {W w8 : World} (h : OthAt w X r i v W) (hl : r.hd.length = 56) (ht : r.tab[i]? = some t)
    (hown : w8.ownsRow w.heap.size 204 56 v1 (i + 1) ((r.tab.take i).flatten ++ t)) (hg : W.grownBy w8 v.ownBlock) :
    w8.cell? ⟨w.heap.size + 2, 56, none⟩ = some v ∧ w8.frozen? ⟨w.heap.size + 2, 56, none⟩ = false ∧ w.heap.size + 2 < w8.heap.size ∧ Below w.heap.size w w8 ∧ Blk w8 w.heap.size X 97 ∧ OthAt w X r (i + 1) v1 (w8.setCell ⟨w.heap.size + 2, 56, none⟩ v1) := by
  have hkeep : ∀ b c T, Blk W b c T → T ≠ 204 → Blk w8 b c T := fun b c T hb hT => (hg.block b hb.lt (fun e => by
    obtain ⟨cur, hc⟩ := ownsRow_blk h.row e.symm
    exact hT (by
      have := hb.out.symm.trans hc.out
      simp at this
      exact this.2))).trans hb
  have hb0 := hkeep _ _ _ h.k0 (by decide)
  obtain ⟨z, h1, h2⟩ := h.k1
  have hb1 := hkeep _ _ _ h1 (by decide)
  have hb2 := hkeep _ _ _ h.k2 (by decide)
  have hset : ∀ b c T, Blk w8 b c T → b ≠ w.heap.size + 2 → Blk (w8.setCell ⟨w.heap.size + 2, 56, none⟩ v1) b c T := fun b c T hb hn => hb.setNe (a := ⟨w.heap.size + 2, 56, none⟩) hn _
  have hbel : Below w.heap.size w w8 := Below.grown h.bel hg h.bel.size (fun k hk => (h.row.lt k hk).1)
  have htk : r.tab.take (i + 1) = r.tab.take i ++ [t] := by
    rw [List.take_add_one, ht]
    rfl
  refine ⟨hb2.cell (i := 56) (by simp [hl]), hb2.free 56, hb2.lt, hbel, hb0, ⟨hbel.setCell (show w.heap.size ≤ (⟨w.heap.size + 2, 56, none⟩ : Addr).block from Nat.le_add_right _ _) _, hset _ _ _ hb0 (by omega), ⟨z, hset _ _ _ hb1 (by omega), h2⟩, (hb2.set 56 v1).congr (set_last hl), ?_⟩⟩
  rw [htk, List.flatten_append, List.flatten_singleton]
  refine ⟨hown.1, ?_⟩
  rcases hown.2 with h3 | ⟨g, cap, cur, h3, h4, h5, h6⟩
  · exact .inl h3
  · have hgb : Blk w8 g cur 204 := h5
    exact .inr ⟨g, cap, cur, h3, h4, hset _ _ _ hgb (hgb.ne hb2 (by decide)), h6⟩
def InvOth (w : World) (X : Array Value) (r : RowC) (n : Nat) (k : Nat) (a : Act) (wr : World) : Prop :=
  ∃ i v, i + k = n ∧ Hid (OthAt w X r i v wr) ∧ a.tmps.size = 36 ∧ a.defers = [] ∧ slot a 1 = .pointer (some ⟨w.heap.size, 0, none⟩) ∧ slot a 2 = .pointer (some ⟨w.heap.size + 1, 0, none⟩) ∧ slot a 3 = .pointer (some ⟨w.heap.size + 2, 0, none⟩) ∧ slot a 4 = .int .i64 i
set_option maxHeartbeats 4000000 in
theorem otherR (w : World) (r : RowC) (tv : Value) (ht : TabAt 0 w tv r.tab) (hk : RowOk r) (hn : r.tab.length ≤ 1000000) :
    Calls Try.prog 69 #[.agg (r.hd ++ [tv]).toArray] w fun e w' => ∃ tv', e = .returned (.agg (r.hd ++ [tv']).toArray) ∧ OwnTab 204 w.heap.size w' tv' r.tab ∧ Below w.heap.size w w' := by
  obtain ⟨i0, z0, hi, hz0, hz1, hz2, hz3, hz4⟩ := rowInfo2
  obtain ⟨i1, z1, hi1, hy0, hy1, hy2, hy3, -⟩ := heldInfo2
  obtain ⟨d0, hd0, hd1⟩ := rowRow2
  obtain ⟨d1, he0, he1⟩ := cellRow
  have hl := hk.hd.length
  obtain ⟨b, c, hhd, hfc, hlc⟩ := hk.hd.split
  obtain ⟨ao, n, cap, rfl, hnR⟩ : ∃ ao n cap, tv = .slice ao n cap ∧ n = r.tab.length := by
    rcases ht with ⟨rfl, h⟩ | ⟨ad, cap, rfl, _⟩
    · rw [h]
      exact ⟨_, _, _, rfl, rfl⟩
    · exact ⟨_, _, _, rfl, rfl⟩
  have hbr := built_row hi hz0 Try.underlying167 (by kernel_rfl) hz4 b c hlc
  have hzz : (Value.bool b :: c ++ [Value.slice none 0 0]).toArray = (r.hd ++ [Value.slice none 0 0]).toArray := by rw [hhd]
  rw [hzz] at hbr
  have hzs : (r.hd ++ [Value.slice none 0 0]).toArray.size = 57 := by simp [hl]
  have hzo : (r.hd ++ [Value.slice none 0 0]).toArray.all (·.oneCell') = true := by
    apply all_oneCell_toArray
    intro u hu
    rcases List.mem_append.1 hu with hu | hu
    · exact Fits.one hk.hd u hu
    · simp at hu
      subst hu
      rfl
  have hX0 : (r.hd ++ [Value.slice ao n cap]).toArray[0]? = some (.bool b) := by simp [hhd]
  have hX1 : ∀ j u, c[j]? = some u → (r.hd ++ [Value.slice ao n cap]).toArray[1 + j]? = some u := fun j u hj => by
    have hjl := (List.getElem?_eq_some_iff.1 hj).1
    simp only [hhd, List.getElem?_toArray, List.cons_append]
    rw [Nat.add_comm 1 j, List.getElem?_cons_succ, List.getElem?_append_left (by omega)]
    exact hj
  have hX2 : (r.hd ++ [Value.slice ao n cap]).toArray[56]? = some (.slice ao n cap) := by simp [hl]
  rw [← hnR] at hn
  replace ht := Lib.hid ht
  replace hk := Lib.hid hk
  replace hnR := Lib.hid hnR
  replace hhd := Lib.hid hhd
  replace hX0 := Lib.hid hX0
  replace hX1 := Lib.hid hX1
  replace hX2 := Lib.hid hX2
  replace hfc := Lib.hid hfc
  generalize hXe : (r.hd ++ [Value.slice ao n cap]).toArray = X at *
  replace hXe := Lib.hid hXe
  generalize hZe : (r.hd ++ [Value.slice none 0 0]).toArray = Z at *
  replace hZe := Lib.hid hZe
  clear hzz
  go_enter Try.func69, Try.ntmps69
  go_upto_region 1 with (first | refine wpList_val rfl (ex_box 97 (.tmp 0) rfl X rfl) ?_ | refine wpList_val rfl (ex_alloc 167 rfl i0 z0 hi hz0) ?_ | fail)
  have k0 : Blk ((w.alloc (.cells X 97)).alloc (.cells z0.cells 167)) w.heap.size X 97 := (Blk.new w _ _).alloc _
  have k1 : Blk ((w.alloc (.cells X 97)).alloc (.cells z0.cells 167)) (w.heap.size + 1) z0.cells 167 := by
    have := Blk.new (w.alloc (.cells X 97)) z0.cells 167
    simpa using this
  have hb : Below w.heap.size w ((w.alloc (.cells X 97)).alloc (.cells z0.cells 167)) := (below_alloc _ _).trans ((below_alloc _ _).mono (by simp))
  have hsz : ((w.alloc (.cells X 97)).alloc (.cells z0.cells 167)).heap.size = w.heap.size + 2 := by simp
  replace k0 := Lib.hid k0
  replace k1 := Lib.hid k1
  replace hb := Lib.hid hb
  generalize (w.alloc (.cells X 97)).alloc (.cells z0.cells 167) = W1 at *
  have q0 : W1.cell? ⟨w.heap.size, 0, none⟩ = some (.bool b) := k0.out.cell hX0.out
  have q1 : ∀ j u, c[j]? = some u → W1.cell? ((⟨w.heap.size, 1, none⟩ : Addr).add j) = some u := fun j u hj => by
    rw [Addr.add_mid]
    exact k0.out.cell (hX1.out j u hj)
  replace q1 := Lib.hid q1
  have hnew := Lib.hid (Blk.new W1 z0.cells 167)
  go_upto_region 2 with (first | (refine wpList_val rfl (ex_load 94 (.tmp 7) rfl ⟨w.heap.size, 1, none⟩ rfl c d1 q1.out he0 he1 (by rw [cellSize, hlc])) ?_; refine wpList_val rfl (ex_build 167 #[(0, .tmp 6), (1, .tmp 8)] rfl [(0, .bool b), (1, .agg c.toArray)] (by rfl) Z hbr) ?_) | refine wpList_val rfl (ex_alloc 167 rfl i0 z0 hi hz0) ?_ | refine wpList_skp rfl (ex_store_row 167 (.tmp 3) (.tmp 9) rfl W1.heap.size Z rfl rfl 167 z0.cells hnew.out (by rw [rowSize2, hzs]) (by rw [hz3, hzs]) hzo) ?_ | fail)
  rw [hsz]
  have hO : OthAt w X r 0 (.slice none 0 0) ((W1.alloc (.cells z0.cells 167)).setRow (w.heap.size + 2) Z) := by
    refine ⟨brow (bthen hb.out (below_alloc _ _)) (by omega) _, (k0.out.alloc _).setRowNe _ (by omega), ⟨_, (k1.out.alloc _).setRowNe _ (by omega), hz3⟩, ?_, by simpa using World.ownsRow_nil _ _ _ _⟩
    rw [hZe.out]
    have := hnew.out.setRow Z
    rw [hsz] at this
    exact this
  replace hO := Lib.hid hO
  clear hb k0 k1 hnew q0 q1 hzo hzs hbr
  generalize (W1.alloc (.cells z0.cells 167)).setRow (w.heap.size + 2) Z = W2 at *
  go_wp2_with fail
  refine wp_loop_k (InvOth w X r n) n ?_ ?_
  · exact ⟨0, _, by omega, hO, by kernel_rfl, rfl, by kernel_rfl, by kernel_rfl, by kernel_rfl, by kernel_rfl⟩
  clear hO
  intro gk a wr hI K hK
  obtain ⟨i, v, hi0, hO, hs', hd', k1', k2', k3', k4'⟩ := hI
  rw [fr36 a hs' hd']; simp only [k1', k2', k3', k4']; clear hs' hd' k1' k2' k3' k4'
  have c1 : wr.cell? ⟨w.heap.size, 56, none⟩ = some (.slice ao n cap) := hO.out.k0.cell hX2.out
  by_cases hlt : i < n
  · have g1 : decide ((i : Int) < (n : Int)) = true := by simp; omega
    have g2 : (i : Int) < (n : Int) := by omega
    have g3 : IntKind.i64.wrap ((i : Int) + 1) = ((i + 1 : Nat) : Int) := by rw [wrap_i64_small _ (by omega) (by omega)]; omega
    obtain ⟨t, htt⟩ : ∃ t, r.tab[i]? = some t := ⟨_, List.getElem?_eq_getElem (by have := hnR.out; omega)⟩
    have hkt := hk.out.tab t (List.mem_of_getElem? htt)
    obtain ⟨b', c', rfl, hfc', hlc'⟩ := hkt.split
    obtain ⟨ad, rfl, had⟩ : ∃ ad, ao = some ad ∧ ∀ j u, (Value.bool b' :: c')[j]? = some u → w.cell? (ad.add (i * 56 + j)) = some u := by
      rcases ht.out with ⟨h1, h2⟩ | ⟨ad, cap', h1, _, _, _, h2⟩
      · rw [h2] at htt
        simp at htt
      · simp only [Value.slice.injEq] at h1
        exact ⟨ad, h1.1, fun j u hj => h2 _ _ (flat_get hk.out.tab htt j u hj)⟩
    have hadW : ∀ W, Below w.heap.size w W → ∀ j u, (Value.bool b' :: c')[j]? = some u → W.cell? (ad.add (i * 56 + j)) = some u := fun W hW j u hj => below_cell (had j u hj) hW (World.block_lt_of_cell? w _ (had j u hj))
    have hcl : ∀ W, Below w.heap.size w W → Blk W w.heap.size X 97 → W.cell? ⟨w.heap.size, 56, none⟩ = some (.slice (some ad) n cap) ∧ W.cell? (ad.add (i * 56)) = some (.bool b') ∧ W.rangeAt (ad.add (i * 56)).block ((ad.add (i * 56)).off + 1) c' := fun W hbW hkW => by
      refine ⟨hkW.cell hX2.out, by simpa using hadW W hbW 0 _ rfl, fun j u hj => ?_⟩
      have := hadW W hbW (j + 1) u (by simpa using hj)
      rw [← add_field] at this
      rw [show (ad.add (i * 56)).off + 1 + j = (ad.add (i * 56)).off + (j + 1) by omega]
      exact this
    have hbt := built_held hi1 hy0 Try.underlying204 (by kernel_rfl) hy3 b' c' hlc'
    have d56 : wr.cell? ⟨w.heap.size + 2, 56, none⟩ = some v := hO.out.k2.cell (by simp [hl])
    have hto : ∀ u ∈ Value.bool b' :: c', u.oneCell' = true := Fits.one hkt
    have hT1 : (Value.bool b' :: c').length = 56 := hkt.length
    replace hcl := Lib.hid hcl
    replace hto := Lib.hid hto
    replace hkt := Lib.hid hkt
    clear had hadW hfc'
    have d56' : wr.drew.cell? ⟨w.heap.size + 2, 56, none⟩ = some v := d56
    go_upto_region 5 with fail
    refine wp_region_held_drew (S := fun W => W.cell? ⟨w.heap.size, 56, none⟩ = some (.slice (some ad) n cap) ∧ W.cell? (ad.add (i * 56)) = some (.bool b') ∧ W.rangeAt (ad.add (i * 56)).block ((ad.add (i * 56)).off + 1) c') (by kernel_rfl) (hcl.out _ (bdrewN hO.out.bel 1) (hO.out.k0.drewN 1)) (fun hHeld => ?_)
    refine wpAnyH_take (i := 0) (oi := { dst := some 17, op := .fieldAddr _ (.tmp 3) 2, type := _, pos := _, after := _, guard := _ }) (v := ?_) rfl (by kernel_rfl) (by kernel_rfl) (by kernel_rfl) (fun _ _ _ h => h) (Or.inl ⟨by rfl, ?_⟩) (by assumption) ?_
    rotate_left
    · (intro w hSw; (try dsimp only at hSw); go_simp) <;> with_reducible rfl
    try simp only [Act.put, List.setIfInBounds_toArray, List.set_cons_zero, List.set_cons_succ]
    refine wpAnyH_take (i := 2) (oi := { dst := some 19, op := .fieldAddr _ (.tmp 1) 2, type := _, pos := _, after := _, guard := _ }) (v := ?_) rfl (by kernel_rfl) (by kernel_rfl) (by kernel_rfl) (fun _ _ _ h => h) (Or.inl ⟨by rfl, ?_⟩) (by assumption) ?_
    rotate_left
    · (intro w hSw; (try dsimp only at hSw); go_simp) <;> with_reducible rfl
    try simp only [Act.put, List.setIfInBounds_toArray, List.set_cons_zero, List.set_cons_succ]
    refine wpAnyH_take (i := 3) (oi := { dst := some 20, op := .load _ (.tmp 19), type := _, pos := _, after := _, guard := _ }) (v := ?_) rfl (by kernel_rfl) (by kernel_rfl) (by kernel_rfl) (fun _ _ _ h => h) (Or.inl ⟨by rfl, ?_⟩) (by assumption) ?_
    rotate_left
    · (intro w hSw; (try dsimp only at hSw); go_simp) <;> with_reducible rfl
    try simp only [Act.put, List.setIfInBounds_toArray, List.set_cons_zero, List.set_cons_succ]
    refine wpAnyH_take (i := 4) (oi := { dst := some 21, op := .move (.tmp 4), type := _, pos := _, after := _, guard := _ }) (v := ?_) rfl (by kernel_rfl) (by kernel_rfl) (by kernel_rfl) (fun _ _ _ h => h) (Or.inl ⟨by rfl, ?_⟩) (by assumption) ?_
    rotate_left
    · (intro w hSw; (try dsimp only at hSw); go_simp) <;> with_reducible rfl
    try simp only [Act.put, List.setIfInBounds_toArray, List.set_cons_zero, List.set_cons_succ]
    refine wpAnyH_take (i := 5) (oi := { dst := some 22, op := .indexAddr _ (.tmp 20) (.tmp 21), type := _, pos := _, after := _, guard := _ }) (v := ?_) rfl (by kernel_rfl) (by kernel_rfl) (by kernel_rfl) (fun _ _ _ h => h) (Or.inl ⟨by rfl, ?_⟩) (by assumption) ?_
    rotate_left
    · (intro w hSw; (try dsimp only at hSw); go_simp) <;> with_reducible rfl
    try simp only [Act.put, List.setIfInBounds_toArray, List.set_cons_zero, List.set_cons_succ]
    refine wpAnyH_take (i := 6) (oi := { dst := some 23, op := .fieldAddr _ (.tmp 22) 0, type := _, pos := _, after := _, guard := _ }) (v := ?_) rfl (by kernel_rfl) (by kernel_rfl) (by kernel_rfl) (fun _ _ _ h => h) (Or.inl ⟨by rfl, ?_⟩) (by assumption) ?_
    rotate_left
    · (intro w hSw; (try dsimp only at hSw); go_simp) <;> with_reducible rfl
    try simp only [Act.put, List.setIfInBounds_toArray, List.set_cons_zero, List.set_cons_succ]
    refine wpAnyH_take (i := 7) (oi := { dst := some 24, op := .load _ (.tmp 23), type := _, pos := _, after := _, guard := _ }) (v := ?_) rfl (by kernel_rfl) (by kernel_rfl) (by kernel_rfl) (fun _ _ _ h => h) (Or.inl ⟨by rfl, ?_⟩) (by assumption) ?_
    rotate_left
    · (intro w hSw; (try dsimp only at hSw); go_simp) <;> with_reducible rfl
    try simp only [Act.put, List.setIfInBounds_toArray, List.set_cons_zero, List.set_cons_succ]
    refine wpAnyH_take (i := 8) (oi := { dst := some 25, op := .fieldAddr _ (.tmp 1) 2, type := _, pos := _, after := _, guard := _ }) (v := ?_) rfl (by kernel_rfl) (by kernel_rfl) (by kernel_rfl) (fun _ _ _ h => h) (Or.inl ⟨by rfl, ?_⟩) (by assumption) ?_
    rotate_left
    · (intro w hSw; (try dsimp only at hSw); go_simp) <;> with_reducible rfl
    try simp only [Act.put, List.setIfInBounds_toArray, List.set_cons_zero, List.set_cons_succ]
    refine wpAnyH_take (i := 9) (oi := { dst := some 26, op := .load _ (.tmp 25), type := _, pos := _, after := _, guard := _ }) (v := ?_) rfl (by kernel_rfl) (by kernel_rfl) (by kernel_rfl) (fun _ _ _ h => h) (Or.inl ⟨by rfl, ?_⟩) (by assumption) ?_
    rotate_left
    · (intro w hSw; (try dsimp only at hSw); go_simp) <;> with_reducible rfl
    try simp only [Act.put, List.setIfInBounds_toArray, List.set_cons_zero, List.set_cons_succ]
    refine wpAnyH_take (i := 10) (oi := { dst := some 27, op := .move (.tmp 4), type := _, pos := _, after := _, guard := _ }) (v := ?_) rfl (by kernel_rfl) (by kernel_rfl) (by kernel_rfl) (fun _ _ _ h => h) (Or.inl ⟨by rfl, ?_⟩) (by assumption) ?_
    rotate_left
    · (intro w hSw; (try dsimp only at hSw); go_simp) <;> with_reducible rfl
    try simp only [Act.put, List.setIfInBounds_toArray, List.set_cons_zero, List.set_cons_succ]
    refine wpAnyH_take (i := 11) (oi := { dst := some 28, op := .indexAddr _ (.tmp 26) (.tmp 27), type := _, pos := _, after := _, guard := _ }) (v := ?_) rfl (by kernel_rfl) (by kernel_rfl) (by kernel_rfl) (fun _ _ _ h => h) (Or.inl ⟨by rfl, ?_⟩) (by assumption) ?_
    rotate_left
    · (intro w hSw; (try dsimp only at hSw); go_simp) <;> with_reducible rfl
    try simp only [Act.put, List.setIfInBounds_toArray, List.set_cons_zero, List.set_cons_succ]
    refine wpAnyH_take (i := 12) (oi := { dst := some 29, op := .fieldAddr _ (.tmp 28) 1, type := _, pos := _, after := _, guard := _ }) (v := ?_) rfl (by kernel_rfl) (by kernel_rfl) (by kernel_rfl) (fun _ _ _ h => h) (Or.inl ⟨by rfl, ?_⟩) (by assumption) ?_
    rotate_left
    · (intro w hSw; (try dsimp only at hSw); go_simp) <;> with_reducible rfl
    try simp only [Act.put, List.setIfInBounds_toArray, List.set_cons_zero, List.set_cons_succ]
    refine wpAnyH_take (i := 13) (oi := { dst := some 30, op := .load _ (.tmp 29), type := _, pos := _, after := _, guard := _ }) (v := .agg c'.toArray) rfl (by kernel_rfl) (by kernel_rfl) (by kernel_rfl) (fun _ _ _ h => h) (yieldsIf_load_mid (by rfl) _ _ rfl _ _ rfl _ _ (fun W hW => hW.2.2) he0 he1 (by rw [cellSize, hlc'])) (by assumption) ?_
    try simp only [Act.put, List.setIfInBounds_toArray, List.set_cons_zero, List.set_cons_succ]
    refine wpAnyH_take (i := 14) (oi := { dst := some 31, op := .build 204 #[(0, .tmp 24), (1, .tmp 30)], type := _, pos := _, after := _, guard := _ }) (v := .agg (Value.bool b' :: c').toArray) rfl (by kernel_rfl) (by kernel_rfl) (by kernel_rfl) (fun _ _ _ h => h) (Or.inl ⟨by rfl, fun W hW => ex_build 204 #[(0, .tmp 24), (1, .tmp 30)] rfl [(0, .bool b'), (1, .agg c'.toArray)] (by rfl) _ hbt⟩) (by assumption) ?_
    try simp only [Act.put, List.setIfInBounds_toArray, List.set_cons_zero, List.set_cons_succ]
    refine wpAnyH_ready (rs := [1, 15]) (by kernel_rfl) (by simp) ?_
    refine AllReadyH.cons (o := { dst := some 18, op := .load _ (.tmp 17), type := _, pos := _, after := _, guard := _ }) rfl (fun K6 hK6 => ?_) (AllReadyH.cons (o := { dst := some 32, op := .buildSlice 165 1 #[(0, .tmp 31)], type := _, pos := _, after := _, guard := _ }) rfl (fun K6 hK6 => ?_) AllReadyH.nil)
    · go_simp
      refine hK6.out _ _ hHeld (fun hHeld => ?_)
      clear hK6 K6
      try simp only [Act.put, List.setIfInBounds_toArray, List.set_cons_zero, List.set_cons_succ]
      refine wpAnyH_ready (rs := [15]) (by kernel_rfl) (by simp) ?_
      refine AllReadyH.cons (o := { dst := some 32, op := .buildSlice 165 1 #[(0, .tmp 31)], type := _, pos := _, after := _, guard := _ }) rfl (fun K6 hK6 => ?_) AllReadyH.nil
      refine step_val rfl (ex_buildSlice1 165 204 (.tmp 31) rfl i1 z1 (Value.bool b' :: c').toArray Try.underlying165 hi1 hy0 (by rw [hy1]; simpa using hT1) (by omega) (by omega) rfl) ?_
      have hO8 := Lib.hid (hO.out.below (show Below wr.heap.size wr (wr.drew.alloc (.cells (Value.bool b' :: c').toArray 204)) from (bdrewN (Below.refl _ _) 1).alloc (Nat.le_refl _) _))
      have kn8 := Lib.hid (Blk.new wr.drew (Value.bool b' :: c').toArray 204)
      have d8 : (wr.drew.alloc (.cells (Value.bool b' :: c').toArray 204)).cell? ⟨w.heap.size + 2, 56, none⟩ = some v := hO8.out.k2.cell (by simp [hl])
      have hs8 := hO8.out.bel.size
      refine hK6.out _ _ (hcl.out _ hO8.out.bel hO8.out.k0) (fun hHeld => ?_)
      clear hK6 K6
      generalize wr.drew.alloc (.cells (Value.bool b' :: c').toArray 204) = w8 at *
      generalize wr.drew.heap.size = b7 at *
      try simp only [Act.put, List.setIfInBounds_toArray, List.set_cons_zero, List.set_cons_succ]
      refine wpAnyH_ready (rs := [16]) (by kernel_rfl) (by simp) ?_
      refine AllReadyH.cons (o := { dst := some 33, op := .call { callee := .builtin .append, args := #[.tmp 18, .tmp 32], argTypes := #[165, 165] }, type := _, pos := _, after := _, guard := _ }) rfl (fun K6 hK6 => ?_) AllReadyH.nil
      refine step_append_big rfl (.tmp 18) (.tmp 32) 165 rfl w.heap.size 204 i1 z1 56 136 Try.underlying165 hi1 hy0 hy1 hy2 hy3 (by decide) v i (r.tab.take i).flatten rfl hO8.out.row ⟨b7, 0, none⟩ 1 1 (Value.bool b' :: c') rfl (by simpa using hT1) (fun j u hj => by rw [add_head]; exact kn8.out.cell (by simpa using hj)) hto.out (by unfold maxLen; omega) (by omega) hs8 ?_
      intro v1 w9 hown hg _
      obtain ⟨g1', cp1, rfl⟩ : ∃ g c, v1 = .slice (some ⟨g, 0, none⟩) (i + 1) c := by
        rcases hown.2 with ⟨_, h⟩ | ⟨g, c, _, h, _⟩
        · omega
        · exact ⟨g, c, h⟩
      obtain ⟨e1, e2, e3, e4, e5, hO9⟩ := hO8.out.append hl htt hown hg
      replace hO9 := Lib.hid hO9
      refine hK6.out _ _ (hcl.out _ e4 e5) (fun hHeld => ?_)
      clear hK6 K6 hown hg hO8 kn8 d8 e4 e5
      try simp only [Act.put, List.setIfInBounds_toArray, List.set_cons_zero, List.set_cons_succ]
      refine wpAnyH_ready (rs := [17]) (by kernel_rfl) (by simp) ?_
      refine AllReadyH.cons (o := { dst := some 34, op := .fieldAddr _ (.tmp 3) 2, type := _, pos := _, after := _, guard := _ }) rfl (fun K6 hK6 => ?_) AllReadyH.nil
      go_simp
      refine hK6.out _ _ hHeld (fun hHeld => ?_)
      clear hK6 K6
      try simp only [Act.put, List.setIfInBounds_toArray, List.set_cons_zero, List.set_cons_succ]
      refine wpAnyH_ready (rs := [18]) (by kernel_rfl) (by simp) ?_
      refine AllReadyH.cons (o := { dst := none, op := .store _ (.tmp 34) (.tmp 33), type := _, pos := _, after := _, guard := _ }) rfl (fun K6 hK6 => ?_) AllReadyH.nil
      go_simp
      refine hK6.out _ _ (hcl.out _ hO9.out.bel hO9.out.k0) (fun hHeld => ?_)
      clear hK6 K6
      try simp only [Act.put, List.setIfInBounds_toArray, List.set_cons_zero, List.set_cons_succ]
      refine wpAnyH_done (by kernel_rfl) ?_ _
      clear hHeld e1 e2 e3
      generalize w9.setCell ⟨w.heap.size + 2, 56, none⟩ (.slice (some ⟨g1', 0, none⟩) (i + 1) cp1) = w10 at *
      go_wp2_with fail
      exact hK (n - (i + 1)) _ _ (by omega) ⟨i + 1, _, by omega, hO9, by kernel_rfl, rfl, by kernel_rfl, by kernel_rfl, by kernel_rfl, by kernel_rfl⟩
    · skip
      refine step_val rfl (ex_buildSlice1 165 204 (.tmp 31) rfl i1 z1 (Value.bool b' :: c').toArray Try.underlying165 hi1 hy0 (by rw [hy1]; simpa using hT1) (by omega) (by omega) rfl) ?_
      have hO8 := Lib.hid (hO.out.below (show Below wr.heap.size wr (wr.drew.alloc (.cells (Value.bool b' :: c').toArray 204)) from (bdrewN (Below.refl _ _) 1).alloc (Nat.le_refl _) _))
      have kn8 := Lib.hid (Blk.new wr.drew (Value.bool b' :: c').toArray 204)
      have d8 : (wr.drew.alloc (.cells (Value.bool b' :: c').toArray 204)).cell? ⟨w.heap.size + 2, 56, none⟩ = some v := hO8.out.k2.cell (by simp [hl])
      have hs8 := hO8.out.bel.size
      refine hK6.out _ _ (hcl.out _ hO8.out.bel hO8.out.k0) (fun hHeld => ?_)
      clear hK6 K6
      generalize wr.drew.alloc (.cells (Value.bool b' :: c').toArray 204) = w8 at *
      generalize wr.drew.heap.size = b7 at *
      try simp only [Act.put, List.setIfInBounds_toArray, List.set_cons_zero, List.set_cons_succ]
      refine wpAnyH_ready (rs := [1]) (by kernel_rfl) (by simp) ?_
      refine AllReadyH.cons (o := { dst := some 18, op := .load _ (.tmp 17), type := _, pos := _, after := _, guard := _ }) rfl (fun K6 hK6 => ?_) AllReadyH.nil
      go_simp
      refine hK6.out _ _ hHeld (fun hHeld => ?_)
      clear hK6 K6
      try simp only [Act.put, List.setIfInBounds_toArray, List.set_cons_zero, List.set_cons_succ]
      refine wpAnyH_ready (rs := [16]) (by kernel_rfl) (by simp) ?_
      refine AllReadyH.cons (o := { dst := some 33, op := .call { callee := .builtin .append, args := #[.tmp 18, .tmp 32], argTypes := #[165, 165] }, type := _, pos := _, after := _, guard := _ }) rfl (fun K6 hK6 => ?_) AllReadyH.nil
      refine step_append_big rfl (.tmp 18) (.tmp 32) 165 rfl w.heap.size 204 i1 z1 56 136 Try.underlying165 hi1 hy0 hy1 hy2 hy3 (by decide) v i (r.tab.take i).flatten rfl hO8.out.row ⟨b7, 0, none⟩ 1 1 (Value.bool b' :: c') rfl (by simpa using hT1) (fun j u hj => by rw [add_head]; exact kn8.out.cell (by simpa using hj)) hto.out (by unfold maxLen; omega) (by omega) hs8 ?_
      intro v1 w9 hown hg _
      obtain ⟨g1', cp1, rfl⟩ : ∃ g c, v1 = .slice (some ⟨g, 0, none⟩) (i + 1) c := by
        rcases hown.2 with ⟨_, h⟩ | ⟨g, c, _, h, _⟩
        · omega
        · exact ⟨g, c, h⟩
      obtain ⟨e1, e2, e3, e4, e5, hO9⟩ := hO8.out.append hl htt hown hg
      replace hO9 := Lib.hid hO9
      refine hK6.out _ _ (hcl.out _ e4 e5) (fun hHeld => ?_)
      clear hK6 K6 hown hg hO8 kn8 d8 e4 e5
      try simp only [Act.put, List.setIfInBounds_toArray, List.set_cons_zero, List.set_cons_succ]
      refine wpAnyH_ready (rs := [17]) (by kernel_rfl) (by simp) ?_
      refine AllReadyH.cons (o := { dst := some 34, op := .fieldAddr _ (.tmp 3) 2, type := _, pos := _, after := _, guard := _ }) rfl (fun K6 hK6 => ?_) AllReadyH.nil
      go_simp
      refine hK6.out _ _ hHeld (fun hHeld => ?_)
      clear hK6 K6
      try simp only [Act.put, List.setIfInBounds_toArray, List.set_cons_zero, List.set_cons_succ]
      refine wpAnyH_ready (rs := [18]) (by kernel_rfl) (by simp) ?_
      refine AllReadyH.cons (o := { dst := none, op := .store _ (.tmp 34) (.tmp 33), type := _, pos := _, after := _, guard := _ }) rfl (fun K6 hK6 => ?_) AllReadyH.nil
      go_simp
      refine hK6.out _ _ (hcl.out _ hO9.out.bel hO9.out.k0) (fun hHeld => ?_)
      clear hK6 K6
      try simp only [Act.put, List.setIfInBounds_toArray, List.set_cons_zero, List.set_cons_succ]
      refine wpAnyH_done (by kernel_rfl) ?_ _
      clear hHeld e1 e2 e3
      generalize w9.setCell ⟨w.heap.size + 2, 56, none⟩ (.slice (some ⟨g1', 0, none⟩) (i + 1) cp1) = w10 at *
      go_wp2_with fail
      exact hK (n - (i + 1)) _ _ (by omega) ⟨i + 1, _, by omega, hO9, by kernel_rfl, rfl, by kernel_rfl, by kernel_rfl, by kernel_rfl, by kernel_rfl⟩
  have g1 : decide ((i : Int) < (n : Int)) = false := by simp; omega
  have g2 : ¬ (i : Int) < (n : Int) := by omega
  obtain rfl : i = n := by omega
  have hF : OwnTab 204 w.heap.size wr v r.tab := by
    apply OwnTab.of_row
    have := hO.out.row
    rw [hnR.out, List.take_length] at this
    exact this
  obtain ⟨zz, hz5, hz6⟩ := hO.out.k1
  have hv0 : v.oneCell' = true := by
    obtain ⟨_, _, rfl, _⟩ := hF.out
    rfl
  have hYs : (r.hd ++ [v]).toArray.size = 57 := by simp [hl]
  have hYo : (r.hd ++ [v]).toArray.all (·.oneCell') = true := by
    apply all_oneCell_toArray
    intro u hu
    rcases List.mem_append.1 hu with hu | hu
    · exact Fits.one hk.out.hd u hu
    · simp at hu
      subst hu
      exact hv0
  have k2 := Lib.hid hO.out.k2
  replace hz5 := Lib.hid hz5
  replace hF := Lib.hid hF
  generalize hYe : (r.hd ++ [v]).toArray = Y at *
  replace hYe := Lib.hid hYe
  go_wp2_with (first | refine wpList_val rfl (ex_load_row 167 (.tmp 3) rfl (w.heap.size + 2) rfl 167 Y d0 k2.out hd0 hd1 (by rw [rowSize2, hYs])) ?_ | refine wpList_skp rfl (ex_store_row 167 (.tmp 2) (.tmp 35) rfl (w.heap.size + 1) Y rfl rfl 167 zz hz5.out (by rw [rowSize2, hYs]) (by rw [hz6, hYs]) hYo) ?_ | fail)
  have k14 := hz5.out.setRow Y
  refine bodyPost_ret (v := .agg Y) (results_cell_row (p := 2) (ty := 167) (by kernel_rfl) _ _ (w.heap.size + 1) 167 Y (0, 0) d0 (by rfl) k14.out hd0 (by cases d0 <;> simp_all) (by rw [rowSize2, hYs])) rfl ⟨_, by rw [hYe.out], hF.out.blk (fun g c _ hg => hg.setRowNe Y (fun e => (hg.ne hz5.out (by decide)) e)), brow hO.out.bel (by omega) Y⟩
end Go.Proofs.Ytmdohnbhogfopaa
