/- Several texts, one behind the other: AskF AskJ AskK AskG AskH. -/
import Derived.Test.YtmdohnbhogfopaaZAskAE
/- lies; forges; turned. -/
namespace Go.Proofs.Ytmdohnbhogfopaa
open Go.RowKit Go.Maps
set_option linter.unusedSimpArgs false
set_option linter.unusedVariables false
set_option maxRecDepth 100000
theorem PostR.below {B : Nat} {w w1 : World} {r : PostC} {e : Ending} {w' : World} (h : PostR B w1 r e w') (hb : Below w.heap.size w w1) (hB : B ≤ w.heap.size) : PostR B w r e w' := by
  obtain ⟨v', h1, h2, h3, h4⟩ := h
  exact ⟨v', h1, h2, (hb.mono hB).trans h3, (KeepU.of_below hb).trans h4⟩
/-- The result of a kind is laid into the result's block. -/
theorem PostR.laid {B : Nat} {w w1 : World} {r : PostC} {v' : Value} (h2 : OwnWord 97 163 B w1 v' r.R) (h3 : Below B w w1) (h4 : KeepU w w1) (hB : B ≤ w.heap.size) {b : Nat} (hb : w.heap.size ≤ b) {cs : Array Value} (hk : Blk w1 b cs 40) {w2 : World} (hT : Touch [b] w1 w2) :
    PostR B w r (.returned (.agg #[.int .u8 r.s, v'])) w2 :=
  ⟨v', rfl, h2.blk (fun g c U hU hg => hg.touch hT (by
    simp only [List.mem_singleton]
    rcases hU with rfl | rfl
    · exact hg.ne hk (by decide)
    · exact hg.ne hk (by decide))), hT.below h3 (Nat.le_trans hB h3.size) (by simp; omega), fun g c U hg h1 h2 => (h4 g c U hg h1 h2).touch hT (by
      have := hg.lt
      simp
      omega)⟩
set_option maxHeartbeats 1000000 in
theorem liesR {B : Nat} {w : World} {pa pm : Nat} {l t : Int} {sp : SpellC} {s : Int} {v : Value} {R : List RowC} (h : AskAt B w pa pm l t sp s v R) (hB : B ≤ w.heap.size) (hl : 0 ≤ l ∧ l < 64) (hsd : (Lit.int .u64 sp.sd).wf = true) (hn : R.length ≤ 1000000) :
    Calls Try.prog 110 #[.pointer (some ⟨pa, 0, none⟩)] w fun e w' => PostR B w ⟨s, R.mapIdx (lieR l sp.sd)⟩ e w' := by
  have hb1 : Below w.heap.size w ((w.alloc (.cells #[.pointer (some ⟨pa, 0, none⟩)] 154)).alloc (.cells #[.int .u8 0, .slice none 0 0] 40)) := blk_alloc2 _ _
  have k0 : Blk ((w.alloc (.cells #[.pointer (some ⟨pa, 0, none⟩)] 154)).alloc (.cells #[.int .u8 0, .slice none 0 0] 40)) w.heap.size #[.pointer (some ⟨pa, 0, none⟩)] 154 := (Blk.new w _ _).alloc _
  have k1 : Blk ((w.alloc (.cells #[.pointer (some ⟨pa, 0, none⟩)] 154)).alloc (.cells #[.int .u8 0, .slice none 0 0] 40)) (w.heap.size + 1) #[.int .u8 0, .slice none 0 0] 40 := by
    have := Blk.new (w.alloc (.cells #[.pointer (some ⟨pa, 0, none⟩)] 154)) #[.int .u8 0, .slice none 0 0] 40
    simpa using this
  have hE := Lib.hid (eachL (h.below hb1 (Nat.le_refl _)) (Nat.le_trans hB hb1.size) hl hsd hn w.heap.size k0)
  obtain ⟨c0, c1, c2, c3, c6, c7, c8, c9, lt⟩ := askCells h
  clear h hsd
  replace hb1 := Lib.hid hb1
  replace k0 := Lib.hid k0
  replace k1 := Lib.hid k1
  go_enter Try.func110, Try.ntmps110
  go_upto_region 1 with fail
  generalize (w.alloc (.cells #[.pointer (some ⟨pa, 0, none⟩)] 154)).alloc (.cells #[.int .u8 0, .slice none 0 0] 40) = w1 at *
  have b0 : w1.cell? ⟨w.heap.size, 0, none⟩ = some (.pointer (some ⟨pa, 0, none⟩)) := k0.out.cell (i := 0) rfl
  go_wp2_with fail
  refine hE.out.mono ?_
  rintro e w2 ⟨v', rfl, h2, h3, h4⟩
  have k2 := h4 _ _ _ k1.out (by decide) (by decide)
  have r0 := k2.cell (i := 0) rfl
  have r1 := k2.cell (i := 1) rfl
  have rf := k2.free
  have rl := k2.lt
  obtain ⟨a, n, c, rfl⟩ : ∃ a n c, v' = .slice a n c := by
    rcases h2 with ⟨rfl, _⟩ | ⟨_, _, _, _, rfl, _⟩
    · exact ⟨_, _, _, rfl⟩
    · exact ⟨_, _, _, rfl⟩
  have hfin := Lib.hid (fun w9 hT => PostR.laid (w := w) (r := ⟨s, R.mapIdx (lieR l sp.sd)⟩) (w2 := w9) h2 ((hb1.out.mono hB).trans h3) ((KeepU.of_below hb1.out).trans h4) hB (b := w.heap.size + 1) (by omega) k2 hT)
  replace k2 := Lib.hid k2
  clear h2 h3 h4 hE k0 k1 b0
  go_wp2_with fail
  exact postRet 2 (by kernel_rfl) (w.heap.size + 1) s _ rfl (((k2.out.set 0 (.int .u8 s)).set 1 (.slice a n c)).congr rfl) rfl (hfin.out _ (((Touch.refl [w.heap.size + 1] w2).setCell (p := ⟨w.heap.size + 1, 0, none⟩) (.inl (by simp)) _).setCell (p := ⟨w.heap.size + 1, 1, none⟩) (.inl (by simp)) _))
set_option maxHeartbeats 1000000 in
theorem forgesR {B : Nat} {w : World} {pa pm : Nat} {l t : Int} {sp : SpellC} {s : Int} {v : Value} {R : List RowC} (h : AskAt B w pa pm l t sp s v R) (hB : B ≤ w.heap.size) (hl : 0 ≤ l ∧ l < 64) (hsd : (Lit.int .u64 sp.sd).wf = true) (hn : R.length ≤ 1000000) :
    Calls Try.prog 111 #[.pointer (some ⟨pa, 0, none⟩)] w fun e w' => PostR B w ⟨s, R.mapIdx (forgeR l)⟩ e w' := by
  have hb1 : Below w.heap.size w ((w.alloc (.cells #[.pointer (some ⟨pa, 0, none⟩)] 154)).alloc (.cells #[.int .u8 0, .slice none 0 0] 40)) := blk_alloc2 _ _
  have k0 : Blk ((w.alloc (.cells #[.pointer (some ⟨pa, 0, none⟩)] 154)).alloc (.cells #[.int .u8 0, .slice none 0 0] 40)) w.heap.size #[.pointer (some ⟨pa, 0, none⟩)] 154 := (Blk.new w _ _).alloc _
  have k1 : Blk ((w.alloc (.cells #[.pointer (some ⟨pa, 0, none⟩)] 154)).alloc (.cells #[.int .u8 0, .slice none 0 0] 40)) (w.heap.size + 1) #[.int .u8 0, .slice none 0 0] 40 := by
    have := Blk.new (w.alloc (.cells #[.pointer (some ⟨pa, 0, none⟩)] 154)) #[.int .u8 0, .slice none 0 0] 40
    simpa using this
  have hE := Lib.hid (eachF (h.below hb1 (Nat.le_refl _)) (Nat.le_trans hB hb1.size) hl hsd hn w.heap.size k0)
  obtain ⟨c0, c1, c2, c3, c6, c7, c8, c9, lt⟩ := askCells h
  clear h hsd
  replace hb1 := Lib.hid hb1
  replace k0 := Lib.hid k0
  replace k1 := Lib.hid k1
  go_enter Try.func111, Try.ntmps111
  go_upto_region 1 with fail
  generalize (w.alloc (.cells #[.pointer (some ⟨pa, 0, none⟩)] 154)).alloc (.cells #[.int .u8 0, .slice none 0 0] 40) = w1 at *
  have b0 : w1.cell? ⟨w.heap.size, 0, none⟩ = some (.pointer (some ⟨pa, 0, none⟩)) := k0.out.cell (i := 0) rfl
  go_wp2_with fail
  refine hE.out.mono ?_
  rintro e w2 ⟨v', rfl, h2, h3, h4⟩
  have k2 := h4 _ _ _ k1.out (by decide) (by decide)
  have r0 := k2.cell (i := 0) rfl
  have r1 := k2.cell (i := 1) rfl
  have rf := k2.free
  have rl := k2.lt
  obtain ⟨a, n, c, rfl⟩ : ∃ a n c, v' = .slice a n c := by
    rcases h2 with ⟨rfl, _⟩ | ⟨_, _, _, _, rfl, _⟩
    · exact ⟨_, _, _, rfl⟩
    · exact ⟨_, _, _, rfl⟩
  have hfin := Lib.hid (fun w9 hT => PostR.laid (w := w) (r := ⟨s, R.mapIdx (forgeR l)⟩) (w2 := w9) h2 ((hb1.out.mono hB).trans h3) ((KeepU.of_below hb1.out).trans h4) hB (b := w.heap.size + 1) (by omega) k2 hT)
  replace k2 := Lib.hid k2
  clear h2 h3 h4 hE k0 k1 b0
  go_wp2_with fail
  exact postRet 2 (by kernel_rfl) (w.heap.size + 1) s _ rfl (((k2.out.set 0 (.int .u8 s)).set 1 (.slice a n c)).congr rfl) rfl (hfin.out _ (((Touch.refl [w.heap.size + 1] w2).setCell (p := ⟨w.heap.size + 1, 0, none⟩) (.inl (by simp)) _).setCell (p := ⟨w.heap.size + 1, 1, none⟩) (.inl (by simp)) _))
theorem turn_one (s : Int) : turnL (fun _ => s) (fun _ => 0) 1 0 = turnS s := by
  unfold turnL turnS
  have : cntL (fun _ => 0) 0 1 = 1 := by simp [cntL]
  rw [this]
  simp
theorem turnedNot {B : Nat} {w : World} {pa pm : Nat} {l t : Int} {sp : SpellC} {s : Int} {v : Value} {R : List RowC} (h : AskAt B w pa pm l t sp s v R) (hB : B ≤ w.heap.size) (hq : ¬ numI sp.sd t l 0 % 4 = 0) :
    Calls Try.prog 107 #[.pointer (some ⟨pa, 0, none⟩)] w fun e w' => PostR B w ⟨s, R⟩ e w' := by
  have q1 : (numI sp.sd t l 0 % 4 == 0) = false := by simp [hq]
  have hb1 := below_alloc w (.cells #[.int .u8 0, .slice none 0 0] 40)
  have O := Lib.hid (ofR (h.below hb1 (Nat.le_refl _)) 4 0 (by omega))
  have hf : Hid (∀ w1, Below w.heap.size w w1 → ∀ b cs, w.heap.size ≤ b → Blk w1 b cs 40 → ∀ w2, Touch [b] w1 w2 → PostR B w ⟨s, R⟩ (.returned (.agg #[.int .u8 s, v])) w2) := fun w1 hw1 b cs hbb hk w2 hT =>
    PostR.laid (r := ⟨s, R⟩) (h.own.keep hw1 (Nat.le_refl _)) (hw1.mono hB) (KeepU.of_below hw1) hB hbb hk hT
  have hcl : Hid (∀ w1, Below w.heap.size w w1 → w1.cell? ⟨pa, 8, none⟩ = some (.int .u8 s) ∧ w1.cell? ⟨pa, 9, none⟩ = some v ∧ pa < w1.heap.size) := fun w1 hw1 => by
    have := askCells (h.below hw1 (Nat.le_refl _))
    exact ⟨this.2.2.2.2.2.2.1, this.2.2.2.2.2.2.2.1, this.2.2.2.2.2.2.2.2⟩
  obtain ⟨a, n, c, rfl⟩ := h.sl
  have lt := h.blk.lt
  clear h hq
  generalize numI sp.sd t l 0 % 4 = X at *
  have hX : Hid (X = X) := rfl
  go_enter Try.func107, Try.ntmps107
  go_wp2_with fail
  refine O.out.mono ?_
  rintro e w7 ⟨rfl, q, rfl⟩
  have hb2 := Lib.hid (hb1.trans ((below_drewN _ q).mono hb1.size))
  have k2 := Lib.hid ((Blk.new w #[.int .u8 0, .slice none 0 0] 40).drewN q)
  generalize (w.alloc (.cells #[.int .u8 0, .slice none 0 0] 40)).drewN q = w2 at *
  obtain ⟨c8, c9, lt2⟩ := hcl.out w2 hb2.out
  have r0 := k2.out.cell (i := 0) rfl
  have r1 := k2.out.cell (i := 1) rfl
  have rf := k2.out.free
  have rl := k2.out.lt
  clear O hcl
  go_wp2_with fail
  exact postRet 2 (by kernel_rfl) w.heap.size s _ rfl (((k2.out.set 0 (.int .u8 s)).set 1 (.slice a n c)).congr rfl) rfl (hf.out w2 hb2.out _ _ (Nat.le_refl _) k2.out _ (((Touch.refl [w.heap.size] w2).setCell (p := ⟨w.heap.size, 0, none⟩) (.inl (by simp)) _).setCell (p := ⟨w.heap.size, 1, none⟩) (.inl (by simp)) _))
end Go.Proofs.Ytmdohnbhogfopaa
/- payload. -/
namespace Go.Proofs.Ytmdohnbhogfopaa
open Go.RowKit Go.Maps
set_option linter.unusedSimpArgs false
set_option linter.unusedVariables false
set_option maxRecDepth 100000
theorem numI_range (sd t l n : Int) : 0 ≤ numI sd t l n ∧ numI sd t l n ≤ 18446744073709551615 := mixI_range _
/-- A payload by numbers. -/
def saidL (sd t l n : Int) : List Value := [.bool (numI sd t l n % 2 == 1), .int .i64 (numI sd t l (n + 1) % 16), .int .u8 (1 + numI sd t l (n + 2) % 2), .int .u8 0, .int .u32 (numI sd t l (n + 3) % 64), .int .u32 (numI sd t l (n + 4) % 64)]
theorem saidRow : ∃ d, Try.prog.underlying 85 = some d ∧ d.isRow = true := ⟨_, Try.underlying85, rfl⟩
theorem saidSize : (Try.prog.info? 85).map (·.size) = some 6 := by kernel_rfl
set_option maxHeartbeats 2000000 in
theorem payloadR {B : Nat} {w : World} {pa pm : Nat} {l t : Int} {sp : SpellC} {s : Int} {v : Value} {R : List RowC} (h : AskAt B w pa pm l t sp s v R) (n : Int) (hn : 0 ≤ n ∧ n ≤ 1000) :
    Calls Try.prog 132 #[.pointer (some ⟨pa, 0, none⟩), .int .i64 n] w fun e w' => e = .returned (.agg (saidL sp.sd t l n).toArray) ∧ Below w.heap.size w w' := by
  obtain ⟨d0, hd0, hd1⟩ := saidRow
  have hb1 := below_alloc w (.cells #[.bool false, .int .i64 0, .int .u8 0, .int .u8 0, .int .u32 0, .int .u32 0] 85)
  have k1 := Blk.new w #[.bool false, .int .i64 0, .int .u8 0, .int .u8 0, .int .u32 0, .int .u32 0] 85
  have hA := h.below hb1 (Nat.le_refl _)
  have e1 : IntKind.i64.wrap (n + 1) = n + 1 := wrapI _ (by omega) (by omega)
  have e2 : IntKind.i64.wrap (n + 2) = n + 2 := wrapI _ (by omega) (by omega)
  have e3 : IntKind.i64.wrap (n + 3) = n + 3 := wrapI _ (by omega) (by omega)
  have e4 : IntKind.i64.wrap (n + 4) = n + 4 := wrapI _ (by omega) (by omega)
  have O : Hid (∀ q m k, (0 < m ∧ m ≤ 1000) → Calls Try.prog 131 #[.pointer (some ⟨pa, 0, none⟩), .int .u64 m, .int .i64 k] ((w.alloc (.cells #[.bool false, .int .i64 0, .int .u8 0, .int .u8 0, .int .u32 0, .int .u32 0] 85)).drewN q) fun e w' => e = .returned (.int .u64 (numI sp.sd t l k % m)) ∧ ∃ q', w' = (w.alloc (.cells #[.bool false, .int .i64 0, .int .u8 0, .int .u8 0, .int .u32 0, .int .u32 0] 85)).drewN q') := fun q m k hm => by
    have hA' := hA.below (C := (w.alloc (.cells #[.bool false, .int .i64 0, .int .u8 0, .int .u8 0, .int .u32 0, .int .u32 0] 85)).heap.size) (below_drewN _ q) (Nat.le_refl _)
    refine (ofR hA' m k hm).mono ?_
    rintro e w' ⟨rfl, q', rfl⟩
    exact ⟨rfl, q + q', by simp⟩
  have r1 := numI_range sp.sd t l n
  have r2 := numI_range sp.sd t l (n + 1)
  have r3 := numI_range sp.sd t l (n + 2)
  have r4 := numI_range sp.sd t l (n + 3)
  have r5 := numI_range sp.sd t l (n + 4)
  have O1 := Lib.hid (O.out 0 2 n (by omega))
  have O2 := Lib.hid (fun q => O.out q 16 (n + 1) (by omega))
  have O3 := Lib.hid (fun q => O.out q 2 (n + 2) (by omega))
  have O4 := Lib.hid (fun q => O.out q 64 (n + 3) (by omega))
  have O5 := Lib.hid (fun q => O.out q 64 (n + 4) (by omega))
  have u2 : IntKind.i64.wrap (numI sp.sd t l (n + 1) % 16) = numI sp.sd t l (n + 1) % 16 := wrapI _ (by omega) (by omega)
  have u3 : IntKind.u8.wrap (numI sp.sd t l (n + 2) % 2) = numI sp.sd t l (n + 2) % 2 := by rw [IntKind.wrap_u8]; omega
  have v3 : IntKind.u8.wrap (1 + numI sp.sd t l (n + 2) % 2) = 1 + numI sp.sd t l (n + 2) % 2 := by rw [IntKind.wrap_u8]; omega
  have u4 : IntKind.u32.wrap (numI sp.sd t l (n + 3) % 64) = numI sp.sd t l (n + 3) % 64 := by rw [IntKind.wrap_u32]; omega
  have u5 : IntKind.u32.wrap (numI sp.sd t l (n + 4) % 64) = numI sp.sd t l (n + 4) % 64 := by rw [IntKind.wrap_u32]; omega
  have hs : Hid (saidL sp.sd t l n = [.bool (numI sp.sd t l n % 2 == 1), .int .i64 (numI sp.sd t l (n + 1) % 16), .int .u8 (1 + numI sp.sd t l (n + 2) % 2), .int .u8 0, .int .u32 (numI sp.sd t l (n + 3) % 64), .int .u32 (numI sp.sd t l (n + 4) % 64)]) := rfl
  clear O r1 r2 r3 r4 r5 hA h
  generalize numI sp.sd t l n % 2 = X1 at *
  generalize numI sp.sd t l (n + 1) % 16 = X2 at *
  generalize numI sp.sd t l (n + 2) % 2 = X3 at *
  generalize numI sp.sd t l (n + 3) % 64 = X4 at *
  generalize numI sp.sd t l (n + 4) % 64 = X5 at *
  generalize saidL sp.sd t l n = L at *
  replace hb1 := Lib.hid hb1
  replace k1 := Lib.hid k1
  have z0 : ∀ q, ((w.alloc (.cells #[.bool false, .int .i64 0, .int .u8 0, .int .u8 0, .int .u32 0, .int .u32 0] 85)).drewN q).cell? ⟨w.heap.size, 0, none⟩ = some (.bool false) := fun q => k1.out.cell (i := 0) rfl
  go_enter Try.func132, Try.ntmps132
  go_wp2_with fail
  refine O1.out.mono ?_
  rintro e w2 ⟨rfl, q, rfl⟩
  go_wp2_with fail
  refine (O2.out _).mono ?_
  rintro e w3 ⟨rfl, q3, rfl⟩
  go_wp2_with fail
  refine (O3.out _).mono ?_
  rintro e w4 ⟨rfl, q4, rfl⟩
  go_wp2_with fail
  refine (O4.out _).mono ?_
  rintro e w5 ⟨rfl, q5, rfl⟩
  go_wp2_with fail
  refine (O5.out _).mono ?_
  rintro e w6 ⟨rfl, q6, rfl⟩
  go_wp2_with fail
  have kF := (((((((k1.out.drewN q6).set 0 (.bool (X1 == 1))).set 1 (.int .i64 X2)).set 2 (.int .u8 (1 + X3))).set 3 (.int .u8 0)).set 4 (.int .u32 X4)).set 5 (.int .u32 X5))
  have bF := (((((((bdrewN hb1.out q6).setCell (p := ⟨w.heap.size, 0, none⟩) (Nat.le_refl _) (.bool (X1 == 1))).setCell (p := ⟨w.heap.size, 1, none⟩) (Nat.le_refl _) (.int .i64 X2)).setCell (p := ⟨w.heap.size, 2, none⟩) (Nat.le_refl _) (.int .u8 (1 + X3))).setCell (p := ⟨w.heap.size, 3, none⟩) (Nat.le_refl _) (.int .u8 0)).setCell (p := ⟨w.heap.size, 4, none⟩) (Nat.le_refl _) (.int .u32 X4)).setCell (p := ⟨w.heap.size, 5, none⟩) (Nat.le_refl _) (.int .u32 X5))
  refine bodyPost_ret (v := .agg L.toArray) (results_cell_row (p := 4) (ty := 85) (by kernel_rfl) _ _ w.heap.size 85 L.toArray (0, 0) d0 (by rfl) (kF.congr (by rw [hs.out]; rfl)).out hd0 (by cases d0 <;> simp_all) (by rw [saidSize, hs.out]; rfl)) rfl ⟨rfl, bF⟩
end Go.Proofs.Ytmdohnbhogfopaa
/- noise: what it is; what lies in memory. -/
namespace Go.Proofs.Ytmdohnbhogfopaa
open Go.RowKit Go.Maps
set_option linter.unusedSimpArgs false
set_option linter.unusedVariables false
set_option maxRecDepth 100000
def symN (x : Int) : Int := if x = 0 then 0 else if x = 1 then 1 else 2
/-- The first cells of a row, as noise makes them: its age, a payload, the reports' number, a mode. -/
def mixH (h : List Value) (x : Int) (L : List Value) (q md : Int) : List Value := [.bool true, .int .i64 x] ++ L ++ L.set 1 (.int .i64 q) ++ (h.drop 14).take 41 ++ [.int .u8 md]
def ageV (v : Value) : Int := match v with
  | .int _ x => x
  | _ => 0
def noiseH (sd t l n : Int) (h : List Value) : List Value :=
  mixH h (IntKind.i64.wrap (ageV (h.getD 1 undef) + (numI sd t l (n + 1) % 16 - 8))) (saidL sd t l (n + 2)) (numI sd t l (n + 2 + 1) % 16 + 1) (numI sd t l (n + 7) % 8)
def noiseRow (sd t l : Int) (R : List RowC) (i : Nat) : RowC :=
  if numI sd t l (10 * i + 1) % 4 = 0 then ⟨zeroH, []⟩ else ⟨noiseH sd t l (10 * i + 1) ((R[i]?.getD ⟨zeroH, []⟩).hd), (R[i]?.getD ⟨zeroH, []⟩).tab⟩
def noiseC (sd t l : Int) (m : Nat) (R : List RowC) : PostC := ⟨symN (numI sd t l 0 % 4), (List.range m).map (noiseRow sd t l R)⟩
theorem modR (x m : Int) (hm : 0 < m) : 0 ≤ x % m ∧ x % m < m := ⟨Int.emod_nonneg x (by omega), Int.emod_lt_of_pos x hm⟩
theorem Fits.append {k1 k2 : List (Option IntKind)} {a b : List Value} (h : Fits k1 a) (k : Fits k2 b) : Fits (k1 ++ k2) (a ++ b) := by
  induction k1 generalizing a with
  | nil => cases a with
    | nil => simpa using k
    | cons v vs => exact h.elim
  | cons k0 ks ih => cases a with
    | nil => exact h.elim
    | cons v vs => exact ⟨h.1, ih h.2⟩
theorem zeroH_ok : HeldOk zeroH := by
  unfold HeldOk zeroH zeroC
  refine ⟨⟨false, rfl⟩, ⟨0, rfl, rfl⟩, ?_⟩
  have e : heldKs.drop 2 = saidKs ++ saidKs ++ List.replicate 8 none ++ List.replicate 8 (some .u8) ++ List.replicate 8 (some .u8) ++ List.replicate 8 (some .u16) ++ List.replicate 8 none ++ [some .i8, some .u8] := by rfl
  have hs : Fits saidKs [.bool false, .int .i64 0, .int .u8 0, .int .u8 0, .int .u32 0, .int .u32 0] := ⟨⟨false, rfl⟩, ⟨0, rfl, rfl⟩, ⟨0, rfl, rfl⟩, ⟨0, rfl, rfl⟩, ⟨0, rfl, rfl⟩, ⟨0, rfl, rfl⟩, trivial⟩
  have hr : ∀ (k : Option IntKind) (v : Value) n, CellFit k v → Fits (List.replicate n k) (List.replicate n v) := fun k v n h => by
    induction n with
    | zero => exact trivial
    | succ n ih => exact ⟨h, ih⟩
  show Fits (heldKs.drop 2) _
  rw [e]
  refine Fits.append (Fits.append (Fits.append (Fits.append (Fits.append (Fits.append (Fits.append hs hs) (hr _ _ 8 ⟨false, rfl⟩)) (hr _ _ 8 ⟨0, rfl, rfl⟩)) (hr _ _ 8 ⟨0, rfl, rfl⟩)) (hr _ _ 8 ⟨0, rfl, rfl⟩)) (hr _ _ 8 ⟨false, rfl⟩)) ⟨⟨0, rfl, rfl⟩, ⟨0, rfl, rfl⟩, trivial⟩
theorem wfR (k : IntKind) (x a b : Int) (h1 : k.min = a) (h2 : k.max = b) (h : a ≤ x ∧ x ≤ b) : (Lit.int k x).wf = true := by
  simp [Lit.wf, h1, h2, h]
theorem saidL_fits (sd t l n : Int) : Fits saidKs (saidL sd t l n) := by
  have r1 := numI_range sd t l (n + 1)
  have r2 := numI_range sd t l (n + 2)
  have r3 := numI_range sd t l (n + 3)
  have r4 := numI_range sd t l (n + 4)
  exact ⟨⟨_, rfl⟩, ⟨_, rfl, wfI _ (by omega) (by omega)⟩, ⟨_, rfl, wfR .u8 _ 0 255 (by decide) (by decide) (by omega)⟩, ⟨0, rfl, rfl⟩, ⟨_, rfl, wfR .u32 _ 0 4294967295 (by decide) (by decide) (by omega)⟩, ⟨_, rfl, wfR .u32 _ 0 4294967295 (by decide) (by decide) (by omega)⟩, trivial⟩
theorem mixH_ok {h : List Value} (hk : HeldOk h) {x : Int} (hx : (Lit.int .i64 x).wf = true) {L : List Value} (hL : Fits saidKs L) {q : Int} (hq : (Lit.int .i64 q).wf = true) {md : Int} (hm : (Lit.int .u8 md).wf = true) : HeldOk (mixH h x L q md) := by
  unfold HeldOk mixH
  have e : heldKs = [none, some .i64] ++ saidKs ++ saidKs ++ (heldKs.drop 14).take 41 ++ [some .u8] := by rfl
  rw [e]
  exact Fits.append (Fits.append (Fits.append (Fits.append (show Fits [none, some .i64] _ from ⟨⟨true, rfl⟩, ⟨x, rfl, hx⟩, trivial⟩) hL) (hL.set (i := 1) (k := some .i64) rfl ⟨q, rfl, hq⟩)) ((Fits.drop hk 14).take 41)) ⟨⟨md, rfl, hm⟩, trivial⟩
theorem noiseH_ok {h : List Value} (hk : HeldOk h) (sd t l n : Int) : HeldOk (noiseH sd t l n h) := by
  have r1 := numI_range sd t l (n + 2 + 1)
  have r2 := numI_range sd t l (n + 7)
  exact mixH_ok hk (wf_i64w _) (saidL_fits _ _ _ _) (wfI _ (by omega) (by omega)) (wfR .u8 _ 0 255 (by decide) (by decide) (by omega))
theorem noiseRow_ok {R : List RowC} (hR : ∀ r ∈ R, RowOk r) (sd t l : Int) (i : Nat) : RowOk (noiseRow sd t l R i) := by
  unfold noiseRow
  split
  · exact ⟨zeroH_ok, by simp⟩
  · have h : RowOk (R[i]?.getD ⟨zeroH, []⟩) := by
      cases hr : R[i]? with
      | none => exact ⟨zeroH_ok, by simp⟩
      | some r => exact hR r (List.mem_of_getElem? hr)
    exact ⟨noiseH_ok h.hd _ _ _ _, h.tab⟩
/-- A row by its parts. -/
theorem HeldOk.parts {h : List Value} (k : HeldOk h) : ∃ b x o0 o1 o2 o3 o4 o5 p0 p1 p2 p3 p4 p5 V md, h = .bool b :: .int .i64 x :: o0 :: o1 :: o2 :: o3 :: o4 :: o5 :: p0 :: p1 :: p2 :: p3 :: p4 :: p5 :: (V ++ [md]) ∧ V.length = 41 ∧ (h.drop 14).take 41 = V ∧ h.getD 1 undef = .int .i64 x := by
  have hl := k.length
  match h, hl with
  | c0 :: c1 :: c2 :: c3 :: c4 :: c5 :: c6 :: c7 :: c8 :: c9 :: c10 :: c11 :: c12 :: c13 :: rest, hl =>
    obtain ⟨⟨b, rfl⟩, ⟨x, rfl, _⟩, _⟩ := k
    have hr : rest.length = 42 := by simpa using hl
    have e : rest = rest.take 41 ++ [rest.getLast (by intro e; rw [e] at hr; simp at hr)] := by
      have h1 := List.take_append_drop 41 rest
      have h2 : rest.drop 41 = [rest.getLast (by intro e; rw [e] at hr; simp at hr)] := by
        rw [List.drop_eq_getElem_cons (by omega), List.drop_eq_nil_of_le (by omega)]
        congr 1
        rw [List.getLast_eq_getElem]
        congr 1
        omega
      rw [h2] at h1
      exact h1.symm
    exact ⟨b, x, c2, c3, c4, c5, c6, c7, c8, c9, c10, c11, c12, c13, rest.take 41, _, by rw [← e], by simp [hr], rfl, rfl⟩
theorem OwnWord.row {B : Nat} {w : World} {v : Value} {R : List RowC} (h : OwnWord 97 163 B w v R) (hk : ∀ r ∈ R, RowOk r) {i : Nat} {r : RowC} (hr : R[i]? = some r) :
    ∃ g n cap tv, v = .slice (some ⟨g, 0, none⟩) n cap ∧ n = R.length ∧ OwnTab 163 B w tv r.tab ∧ ∀ j u, (r.hd ++ [tv])[j]? = some u → w.cell? ⟨g, i * 57 + j, none⟩ = some u := by
  rcases h with ⟨_, rfl⟩ | ⟨g, cap, cur, tvs, h1, h2, h3, h4, h5, h6, h7, h8, h9⟩
  · simp at hr
  · have hil := (List.getElem?_eq_some_iff.1 hr).1
    obtain ⟨tv, ht⟩ : ∃ tv, tvs[i]? = some tv := ⟨_, List.getElem?_eq_getElem (by omega)⟩
    refine ⟨g, _, cap, tv, h1, rfl, h9 i r tv hr ht, fun j u hj => h5.cell ?_⟩
    have := rowsFlat_get h8 hk hr ht j u hj
    rw [← h7, List.getElem?_take] at this
    split at this
    · simpa using this
    · simp at this
/-- In the midst of noise. -/
structure NoiseAt (B : Nat) (w : World) (b3 : Nat) (s : Int) (R : List RowC) (i : Nat) (v : Value) (tvs : List Value) (wr : World) : Prop where
  bel : Below w.heap.size w wr
  post : Blk wr b3 #[.int .u8 s, v] 40
  out : Blk wr w.heap.size #[.int .u8 0, .slice none 0 0] 40
  ge : w.heap.size < b3
  row : wr.ownsRow w.heap.size 97 57 v i (rowsFlat (R.take i) tvs)
  len : tvs.length = i
  tabs : ∀ (j : Nat) (r : RowC) (tv : Value), R[j]? = some r → tvs[j]? = some tv → OwnTab 163 B wr tv r.tab
theorem NoiseAt.below {B : Nat} {w : World} {b3 : Nat} {s : Int} {R : List RowC} {i : Nat} {v : Value} {tvs : List Value} {wr W : World} (h : NoiseAt B w b3 s R i v tvs wr) (hb : Below wr.heap.size wr W) : NoiseAt B w b3 s R i v tvs W :=
  ⟨bthen h.bel hb, h.post.below hb h.post.lt, h.out.below hb h.out.lt, h.ge, ownsRow_below h.row hb, h.len, fun j r tv hj ht => (h.tabs j r tv hj ht).below hb (Nat.le_refl _)⟩
theorem NoiseAt.append {B : Nat} {w : World} {b3 : Nat} {s : Int} {R : List RowC} {i : Nat} {v : Value} {tvs : List Value} {W w8 : World} {r : RowC} {tv' v1 : Value} (h : NoiseAt B w b3 s R i v tvs W) (hr : R[i]? = some r) (ht' : OwnTab 163 B W tv' r.tab)
    (hown : w8.ownsRow w.heap.size 97 57 v1 (i + 1) (rowsFlat (R.take i) tvs ++ (r.hd ++ [tv']))) (hg : W.grownBy w8 v.ownBlock) :
    w8.cell? ⟨b3, 1, none⟩ = some v ∧ w8.frozen? ⟨b3, 1, none⟩ = false ∧ b3 < w8.heap.size ∧ NoiseAt B w b3 s R (i + 1) v1 (tvs ++ [tv']) (w8.setCell ⟨b3, 1, none⟩ v1) := by
  have hkeep : ∀ b c T, Blk W b c T → T ≠ 97 → Blk w8 b c T := fun b c T hb hT => (hg.block b hb.lt (fun e => by
    obtain ⟨cur, hc⟩ := ownsRow_blk h.row e.symm
    exact hT (by
      have := hb.out.symm.trans hc.out
      simp at this
      exact this.2))).trans hb
  have hb0 := hkeep _ _ _ h.post (by decide)
  have hb1 := hkeep _ _ _ h.out (by decide)
  have hset : ∀ b c T, Blk w8 b c T → b ≠ b3 → Blk (w8.setCell ⟨b3, 1, none⟩ v1) b c T := fun b c T hb hn => hb.setNe (a := ⟨b3, 1, none⟩) hn _
  have hbel : Below w.heap.size w w8 := Below.grown h.bel hg h.bel.size (fun k hk => (h.row.lt k hk).1)
  have htk : R.take (i + 1) = R.take i ++ [r] := by
    rw [List.take_add_one, hr]
    rfl
  have hil : (R.take i).length = i := by
    have := (List.getElem?_eq_some_iff.1 hr).1
    simp
    omega
  have hge := h.ge
  refine ⟨hb0.cell (i := 1) rfl, hb0.free 1, hb0.lt, ⟨hbel.setCell (show w.heap.size ≤ (⟨b3, 1, none⟩ : Addr).block by simp; omega) _, (hb0.set 1 v1).congr rfl, hset _ _ _ hb1 (by omega), h.ge, ?_, by simp [h.len], fun j r' tv hj ht => ?_⟩⟩
  · rw [htk, rowsFlat_more (by rw [h.len, hil])]
    refine ⟨hown.1, ?_⟩
    rcases hown.2 with h3 | ⟨g, cap, cur, h3, h4, h5, h6⟩
    · exact .inl h3
    · have hgb : Blk w8 g cur 97 := h5
      exact .inr ⟨g, cap, cur, h3, h4, hset _ _ _ hgb (hgb.ne hb0 (by decide)), h6⟩
  · have hto : OwnTab 163 B W tv r'.tab := by
      rw [List.getElem?_append] at ht
      split at ht
      · exact h.tabs j r' tv hj ht
      · rename_i hlt
        rw [h.len] at hlt ht
        have : j - i = 0 := by
          have := (List.getElem?_eq_some_iff.1 ht).1
          simp at this
          omega
        rw [this] at ht
        simp at ht
        obtain rfl : j = i := by omega
        rw [hr] at hj
        simp at hj
        subst hj ht
        exact ht'
    refine hto.blk fun g c hlo hgb => ?_
    have := hkeep _ _ _ hgb (by decide)
    exact hset _ _ _ this (this.ne hb0 (by decide))
theorem NoiseAt.fin {B : Nat} {w : World} {b3 : Nat} {s : Int} {R : List RowC} {v : Value} {tvs : List Value} {wr : World} (h : NoiseAt B w b3 s R R.length v tvs wr) (hB : B ≤ w.heap.size) : OwnWord 97 163 B wr v R := by
  rcases h.row.2 with ⟨rfl, h2⟩ | ⟨g, cap, cur, rfl, h2, h3, h4, h5, h6, h7⟩
  · exact .inl ⟨rfl, List.length_eq_zero_iff.1 h2⟩
  · refine .inr ⟨g, cap, cur, tvs, rfl, h4, h5, by omega, h3, by omega, ?_, h.len, h.tabs⟩
    rw [h7, List.take_length]
/-- A row in the making: its block b6. -/
structure MidAt (B : Nat) (w : World) (b3 : Nat) (s : Int) (RN : List RowC) (i : Nat) (v : Value) (tvs : List Value) (b6 : Nat) (tv : Value) (tab : List (List Value)) (W : World) (c : Array Value) : Prop where
  n : NoiseAt B w b3 s RN i v tvs W
  k : Blk W b6 c 97
  t : OwnTab 163 B W tv tab
  ge : w.heap.size ≤ b6
  ne : v.ownBlock ≠ some b6
section
variable {B : Nat} {w : World} {b3 : Nat} {s : Int} {RN : List RowC} {i : Nat} {v : Value} {tvs : List Value} {b6 : Nat} {tv : Value} {tab : List (List Value)} {W W' : World} {c c' : Array Value}
theorem MidAt.congr (h : MidAt B w b3 s RN i v tvs b6 tv tab W c) (e : c = c') : MidAt B w b3 s RN i v tvs b6 tv tab W c' := e ▸ h
theorem MidAt.below (h : MidAt B w b3 s RN i v tvs b6 tv tab W c) (hb : Below W.heap.size W W') : MidAt B w b3 s RN i v tvs b6 tv tab W' c :=
  ⟨h.n.below hb, h.k.below hb h.k.lt, h.t.below hb (Nat.le_refl _), h.ge, h.ne⟩
/-- Only that block is written to. -/
theorem MidAt.wrote (h : MidAt B w b3 s RN i v tvs b6 tv tab W c) (hT : Touch [b6] W W') (hk : Blk W' b6 c' 97) : MidAt B w b3 s RN i v tvs b6 tv tab W' c' := by
  have hB : ∀ g cs U, Blk W g cs U → g ≠ b6 → Blk W' g cs U := fun g cs U hg hn => hg.touch hT (by simpa using hn)
  have h3 := h.n.post.ne h.k (by decide)
  have h0 := h.n.out.ne h.k (by decide)
  refine ⟨⟨hT.below h.n.bel h.n.bel.size (by have := h.ge; simp; omega), hB _ _ _ h.n.post h3, hB _ _ _ h.n.out h0, h.n.ge, ?_, h.n.len, fun j r tv hj ht => (h.n.tabs j r tv hj ht).blk fun g cs _ hg => hB _ _ _ hg (hg.ne h.k (by decide))⟩, hk, h.t.blk fun g cs _ hg => hB _ _ _ hg (hg.ne h.k (by decide)), h.ge, h.ne⟩
  refine ⟨h.n.row.1, ?_⟩
  rcases h.n.row.2 with h1 | ⟨g, cap, cur, h1, h2, h4, h5⟩
  · exact .inl h1
  · refine .inr ⟨g, cap, cur, h1, h2, hB _ _ _ h4 (fun e => h.ne (by rw [h1, e]; rfl)), h5⟩
theorem MidAt.set (h : MidAt B w b3 s RN i v tvs b6 tv tab W c) (j : Nat) (u : Value) : MidAt B w b3 s RN i v tvs b6 tv tab (W.setCell ⟨b6, j, none⟩ u) (c.setIfInBounds j u) :=
  h.wrote ((Touch.refl [b6] W).setCell (p := ⟨b6, j, none⟩) (.inl (by simp)) u) (h.k.set j u)
theorem MidAt.setRow (h : MidAt B w b3 s RN i v tvs b6 tv tab W c) (c' : Array Value) : MidAt B w b3 s RN i v tvs b6 tv tab (W.setRow b6 c') c' :=
  h.wrote ((Touch.refl [b6] W).setRow (.inl (by simp)) c') (h.k.setRow c')
theorem MidAt.cell (h : MidAt B w b3 s RN i v tvs b6 tv tab W c) {j : Nat} {u : Value} (hj : c[j]? = some u) : W.cell? ⟨b6, j, none⟩ = some u := h.k.cell hj
end
end Go.Proofs.Ytmdohnbhogfopaa
/- turned. -/
namespace Go.Proofs.Ytmdohnbhogfopaa
open Go.RowKit Go.Maps
set_option linter.unusedSimpArgs false
set_option linter.unusedVariables false
set_option maxRecDepth 100000
theorem rd_one {k : IntKind} {w : World} {b : Nat} {x : Int} {U : TypeId} (h : Blk w b #[.int k x] U) : Rd k w (some ⟨b, 0, none⟩) 1 (fun _ => x) := fun i hi => by
  obtain rfl : i = 0 := by omega
  exact ⟨b, 0, rfl, h.cell (i := 0) rfl⟩
theorem turnedYes {B : Nat} {w : World} {pa pm : Nat} {l t : Int} {sp : SpellC} {s : Int} {v : Value} {R : List RowC} (h : AskAt B w pa pm l t sp s v R) (hB : B ≤ w.heap.size) (hq : numI sp.sd t l 0 % 4 = 0) :
    Calls Try.prog 107 #[.pointer (some ⟨pa, 0, none⟩)] w fun e w' => PostR B w ⟨turnS s, R⟩ e w' := by
  have hb1 := below_alloc w (.cells #[.int .u8 0, .slice none 0 0] 40)
  have O := Lib.hid (ofR (h.below hb1 (Nat.le_refl _)) 4 0 (by omega))
  rw [hq] at O
  have hf : Hid (∀ w1, Below w.heap.size w w1 → ∀ b cs, w.heap.size ≤ b → Blk w1 b cs 40 → ∀ w2, Touch [pa, b] w1 w2 → PostR B w ⟨turnS s, R⟩ (.returned (.agg #[.int .u8 (turnS s), v])) w2) := fun w1 hw1 b cs hbb hk w2 hT => by
    have hp := h.blk.below hw1 h.blk.lt
    refine ⟨v, rfl, (h.own.keep hw1 (Nat.le_refl _)).blk (fun g c U hU hg => hg.touch hT ?_), hT.below (hw1.mono hB) (Nat.le_trans hB hw1.size) (by have := h.le; simp; omega), fun g c U hg h1 h2 => (hg.below hw1 hg.lt).touch hT ?_⟩
    · simp only [List.mem_cons, List.not_mem_nil, or_false, not_or]
      rcases hU with rfl | rfl
      · exact ⟨hg.ne hp (by decide), hg.ne hk (by decide)⟩
      · exact ⟨hg.ne hp (by decide), hg.ne hk (by decide)⟩
    · have := hg.lt
      have h3 := hg.ne h.blk h1
      simp only [List.mem_cons, List.not_mem_nil, or_false, not_or]
      exact ⟨h3, by omega⟩
  have hcl : Hid (∀ w1, Below w.heap.size w w1 → w1.cell? ⟨pa, 8, none⟩ = some (.int .u8 s) ∧ w1.cell? ⟨pa, 9, none⟩ = some v ∧ pa < w1.heap.size ∧ w1.frozen? ⟨pa, 8, none⟩ = false) := fun w1 hw1 => by
    have := askCells (h.below hw1 (Nat.le_refl _))
    exact ⟨this.2.2.2.2.2.2.1, this.2.2.2.2.2.2.2.1, this.2.2.2.2.2.2.2.2, (h.blk.below hw1 h.blk.lt).free 8⟩
  obtain ⟨a, n, c, rfl⟩ := h.sl
  have lt := h.blk.lt
  clear h hq
  go_enter Try.func107, Try.ntmps107
  go_wp2_with fail
  refine O.out.mono ?_
  rintro e w7 ⟨rfl, q, rfl⟩
  have hb2 := Lib.hid (hb1.trans ((below_drewN _ q).mono hb1.size))
  have k2 := Lib.hid ((Blk.new w #[.int .u8 0, .slice none 0 0] 40).drewN q)
  have l2 : w.heap.size < ((w.alloc (.cells #[.int .u8 0, .slice none 0 0] 40)).drewN q).heap.size := k2.out.lt
  generalize (w.alloc (.cells #[.int .u8 0, .slice none 0 0] 40)).drewN q = w2 at *
  obtain ⟨c8, c9, lt2, fp⟩ := hcl.out w2 hb2.out
  clear O
  go_wp2_with fail
  have hb3 : Below w2.heap.size w2 ((w2.alloc (.cells #[.int .u8 s] 35)).alloc (.cells #[.int .i64 0] 3)) := blk_alloc2 _ _
  have d1 : Blk ((w2.alloc (.cells #[.int .u8 s] 35)).alloc (.cells #[.int .i64 0] 3)) w2.heap.size #[.int .u8 s] 35 := (Blk.new w2 _ _).alloc _
  have d2 : Blk ((w2.alloc (.cells #[.int .u8 s] 35)).alloc (.cells #[.int .i64 0] 3)) (w2.heap.size + 1) #[.int .i64 0] 3 := by
    have := Blk.new (w2.alloc (.cells #[.int .u8 s] 35)) #[.int .i64 0] 3
    simpa using this
  generalize (w2.alloc (.cells #[.int .u8 s] 35)).alloc (.cells #[.int .i64 0] 3) = w3 at *
  refine (bitsTurn w3 (some ⟨w2.heap.size, 0, none⟩) 1 1 (fun _ => s) (some ⟨w2.heap.size + 1, 0, none⟩) 1 1 (fun _ => 0) (rd_one d1) (rd_one d2) (by simp) (by omega) (by omega)).mono ?_
  rintro e w4 ⟨al, rfl, hM, hb4⟩
  obtain ⟨g, cur, rfl, hg1, hg2, hg3, hg4⟩ := hM (by omega)
  have hv := hg4 0 (by omega)
  rw [turn_one] at hv
  have hc := hg2.cell hv
  have hb24 := bthen hb3 hb4
  have hbw := Lib.hid (hb2.out.trans (hb24.mono hb2.out.size))
  have k4 := Lib.hid (k2.out.below hb24 k2.out.lt)
  obtain ⟨c8, c9, lt4, fp⟩ := hcl.out w4 hbw.out
  have r0 := k4.out.cell (i := 0) rfl
  have r1 := k4.out.cell (i := 1) rfl
  have rf := k4.out.free
  have rl := k4.out.lt
  have lg := hg2.lt
  have npa : pa ≠ w.heap.size := by omega
  clear hcl hb2 k2 l2 hb3 d1 d2 hM hb4 hb24 hg1 hg2 hg3 hg4 hv lt2
  generalize hS : turnS s = S at *
  replace hS := Lib.hid hS
  go_wp2_with fail
  exact postRet 2 (by kernel_rfl) w.heap.size S _ rfl ((((k4.out.setNe (a := ⟨pa, 8, none⟩) (by simpa using npa.symm) (.int .u8 S)).set 0 (.int .u8 S)).set 1 (.slice a n c)).congr rfl) rfl (by rw [hS.out]; exact hf.out w4 hbw.out w.heap.size _ (Nat.le_refl _) k4.out _ ((((Touch.refl [pa, w.heap.size] w4).setCell (p := ⟨pa, 8, none⟩) (.inl (by simp)) _).setCell (p := ⟨w.heap.size, 0, none⟩) (.inl (by simp)) _).setCell (p := ⟨w.heap.size, 1, none⟩) (.inl (by simp)) _))
end Go.Proofs.Ytmdohnbhogfopaa
/- late. -/
namespace Go.Proofs.Ytmdohnbhogfopaa
open Go.RowKit Go.Maps
set_option linter.unusedSimpArgs false
set_option linter.unusedVariables false
set_option maxRecDepth 100000
def lateC (T : Int × Int → Option PostC) (t l sd : Int) : PostC := (T (l, t - sd % 64)).getD ⟨0, []⟩
set_option maxHeartbeats 2000000 in
theorem lateR {B : Nat} {w : World} {pa pm : Nat} {l t : Int} {sp : SpellC} {s : Int} {v : Value} {R : List RowC} {M : Nat → Prop} {bt bl c : Nat} {f : Int × Int → Option (Int × Option (Nat × Nat × Nat))} {F : FaultC} {T : Int × Int → Option PostC} {G : Int → Option Int}
    (h : AskAt B w pa pm l t sp s v R) (hB : B ≤ w.heap.size) (hM : MouthIs M w pm bt bl c f F T G) (hl : 0 ≤ l ∧ l < 64) (ht : 0 ≤ t ∧ t ≤ 1099511627776) (hsd : (Lit.int .u64 sp.sd).wf = true) :
    Calls Try.prog 109 #[.pointer (some ⟨pa, 0, none⟩)] w fun e w' => PostR B w (lateC T t l sp.sd) e w' := by
  have hs2 : 0 ≤ sp.sd := by
    have e1 : IntKind.u64.min = 0 := by decide
    simp [Lit.wf, e1] at hsd
    omega
  have e3 : Int.tmod sp.sd 64 = sp.sd % 64 := Int.tmod_eq_emod_of_nonneg hs2
  have e4 : IntKind.u64.wrap (sp.sd % 64) = sp.sd % 64 := by rw [IntKind.wrap_u64]; omega
  have e5 : IntKind.i64.wrap (sp.sd % 64) = sp.sd % 64 := wrapI _ (by omega) (by omega)
  have e6 : IntKind.i64.wrap (t - sp.sd % 64) = t - sp.sd % 64 := wrapI _ (by omega) (by omega)
  have hx : plOk (l, t - sp.sd % 64) := ⟨wfI l (by omega) (by omega), wfI _ (by simp; omega) (by simp; omega)⟩
  have hb1 := below_alloc w (.cells #[.int .u8 0, .slice none 0 0] 40)
  obtain ⟨p, o, hp, hpo, hlk, hw⟩ : ∃ p o, lateC T t l sp.sd = p ∧ (f (l, t - sp.sd % 64)).getD (0, none) = (p.s, o) ∧ ((∀ r ∈ p.R, RowOk r) ∧ p.R.length ≤ 1000000 ∧ ∀ r ∈ p.R, r.tab.length ≤ 1000000) ∧ WordAt 0 w (slV o) p.R := by
    cases hT : T (l, t - sp.sd % 64) with
    | none =>
      refine ⟨⟨0, []⟩, none, by simp [lateC, hT], by rw [hM.none _ hx hT]; rfl, ⟨by simp, by simp, by simp⟩, .inl ⟨rfl, rfl⟩⟩
    | some p =>
      obtain ⟨hk, o, ho, hw⟩ := hM.word _ p hx hT
      exact ⟨p, o, by simp [lateC, hT], by rw [ho]; rfl, ⟨hk.R, by have := hk.n; omega, fun r hr => by have := hk.t r hr; omega⟩, hw.now⟩
  rw [hp]
  obtain ⟨va, vn, vc, hsl⟩ : ∃ a n c, slV o = .slice a n c := by cases o with
    | none => exact ⟨_, _, _, rfl⟩
    | some x => exact ⟨_, _, _, rfl⟩
  have hmb := hM.blk
  obtain ⟨sv, hmb, -⟩ := hmb
  have hcl : Hid (∀ W, Below w.heap.size w W → W.cell? ⟨pm, 4, none⟩ = some (.map (some bt)) ∧ pm < W.heap.size ∧ W.cell? ⟨pa, 0, none⟩ = some (.pointer (some ⟨pm, 0, none⟩)) ∧ W.cell? ⟨pa, 1, none⟩ = some (.int .i64 l) ∧ W.cell? ⟨pa, 2, none⟩ = some (.int .i64 t) ∧ W.cell? ⟨pa, 7, none⟩ = some (.int .u64 sp.sd) ∧ pa < W.heap.size ∧
      (Instr.lookup 101 (.map (some bt)) (.agg #[.int .i64 l, .int .i64 (t - sp.sd % 64)]) false).run Try.prog W = .ok (.agg #[.int .u8 p.s, .slice va vn vc]) W) := fun W hW => by
    have h1 := hmb.below hW hmb.lt
    have h2 := askCells (h.below hW (Nat.le_refl _))
    have h3 := MapK.lookP (hM.below hW).told hx
    rw [hpo] at h3
    unfold postV at h3
    simp only [hsl] at h3
    exact ⟨h1.cell (i := 4) rfl, h1.lt, h2.1, h2.2.1, h2.2.2.1, h2.2.2.2.2.2.1, h2.2.2.2.2.2.2.2.2, h3⟩
  have P1 : Hid (∀ W, Below w.heap.size w W → Calls Try.prog 63 #[.agg #[.int .u8 p.s, .slice va vn vc]] W fun e w' => ∃ v', e = .returned (.agg #[.int .u8 p.s, v']) ∧ OwnWord 97 163 W.heap.size w' v' p.R ∧ Below W.heap.size W w') := fun W hW =>
    ownP W p.s _ p.R (hsl ▸ hw.below hW) hlk.1 hlk.2.1 hlk.2.2
  clear h hM hmb hw hlk hpo hsd hs2 hp hx hsl
  obtain ⟨m4, lm, a0, a1, a2, a7, la, lk⟩ := hcl.out w (Below.refl _ _)
  go_enter Try.func109, Try.ntmps109
  go_upto_region 1 with fail
  have k1 := Lib.hid (Blk.new w #[.int .u8 0, .slice none 0 0] 40)
  have hl1 := k1.out.lt
  generalize w.alloc (.cells #[.int .u8 0, .slice none 0 0] 40) = w1 at *
  clear m4 lm a0 a1 a2 a7 la lk
  have hb2 : Below w.heap.size w w1.drew := bdrewN hb1 1
  have k2 : Hid (Blk w1.drew w.heap.size #[.int .u8 0, .slice none 0 0] 40) := k1.out
  have hl2 : w.heap.size < w1.drew.heap.size := k2.out.lt
  clear k1
  have hb3 : Below w.heap.size w (w1.alloc (.cells #[.int .u8 0, .slice none 0 0] 40)).drew := bdrewN (hb1.trans ((below_alloc w1 _).mono hb1.size)) 1
  have hb4 : Below w.heap.size w (w1.alloc (.cells #[.int .u8 p.s, .slice va vn vc] 40)).drew := bdrewN (hb1.trans ((below_alloc w1 _).mono hb1.size)) 1
  have k4 : Hid (Blk (w1.alloc (.cells #[.int .u8 p.s, .slice va vn vc] 40)).drew w.heap.size #[.int .u8 0, .slice none 0 0] 40) := k2.out.alloc _
  have kp : Blk (w1.alloc (.cells #[.int .u8 p.s, .slice va vn vc] 40)).drew w1.heap.size #[.int .u8 p.s, .slice va vn vc] 40 := Blk.new _ _ _
  have hP := Lib.hid (P1.out _ hb4)
  clear k2 P1 hb1
  go_region_held3 (fun W => W.cell? ⟨pm, 4, none⟩ = some (.map (some bt)) ∧ pm < W.heap.size ∧ W.cell? ⟨pa, 0, none⟩ = some (.pointer (some ⟨pm, 0, none⟩)) ∧ W.cell? ⟨pa, 1, none⟩ = some (.int .i64 l) ∧ W.cell? ⟨pa, 2, none⟩ = some (.int .i64 t) ∧ W.cell? ⟨pa, 7, none⟩ = some (.int .u64 sp.sd) ∧ pa < W.heap.size ∧
      (Instr.lookup 101 (.map (some bt)) (.agg #[.int .i64 l, .int .i64 (t - sp.sd % 64)]) false).run Try.prog W = .ok (.agg #[.int .u8 p.s, .slice va vn vc]) W)
    (first | exact hcl.out _ hb2 | exact hcl.out _ hb3 | exact hcl.out _ hb4)
    (fail)
  all_goals (clear hcl hb3)
  all_goals
    generalize (w1.alloc (.cells #[.int .u8 p.s, .slice va vn vc] 40)).drew = w4 at *
    have p0 := kp.cell (i := 0) rfl
    have p1 := kp.cell (i := 1) rfl
    have lp := kp.lt
    clear kp
    go_wp2_with fail
    refine hP.out.mono ?_
    rintro e w5 ⟨v', rfl, hO, hb5⟩
    obtain ⟨a, n, c', rfl⟩ : ∃ a n c, v' = .slice a n c := by
      rcases hO with ⟨rfl, _⟩ | ⟨_, _, _, _, rfl, _⟩
      · exact ⟨_, _, _, rfl⟩
      · exact ⟨_, _, _, rfl⟩
    have hbw := Lib.hid (hb4.trans (hb5.mono hb4.size))
    have k5 := Lib.hid (k4.out.below hb5 k4.out.lt)
    replace hO := Lib.hid (hO.mono (Nat.le_trans hB hb4.size))
    have r0 := k5.out.cell (i := 0) rfl
    have r1 := k5.out.cell (i := 1) rfl
    have rf := k5.out.free
    have rl := k5.out.lt
    have hfin := Lib.hid (fun w9 hT => PostR.laid (w := w) (r := p) (w2 := w9) hO.out (hbw.out.mono hB) (KeepU.of_below hbw.out) hB (b := w.heap.size) (Nat.le_refl _) k5.out hT)
    clear hb5 hP k4 p0 p1 lp hb4
    go_wp2_with fail
    exact postRet 2 (by kernel_rfl) w.heap.size p.s _ rfl (((k5.out.set 0 (.int .u8 p.s)).set 1 (.slice a n c')).congr rfl) rfl (hfin.out _ (((Touch.refl [w.heap.size] w5).setCell (p := ⟨w.heap.size, 0, none⟩) (.inl (by simp)) _).setCell (p := ⟨w.heap.size, 1, none⟩) (.inl (by simp)) _))
end Go.Proofs.Ytmdohnbhogfopaa
