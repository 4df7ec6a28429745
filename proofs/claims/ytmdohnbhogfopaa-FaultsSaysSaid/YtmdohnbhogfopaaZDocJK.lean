/- Several texts, one behind the other: DocJ DocFr DocLie DocK DocL. -/
import Derived.Test.YtmdohnbhogfopaaZDocI
import Derived.Maps.AppendAt
import Derived.Test.YtmdohnbhogfopaaZFramesDI
import Derived.Test.YtmdohnbhogfopaaZAskAE
/- What the document's mouth says: nothing of its own. -/
namespace Go.Proofs.Ytmdohnbhogfopaa
open Go.RowKit Go.Maps
set_option linter.unusedSimpArgs false
set_option linter.unusedVariables false
set_option maxRecDepth 100000
theorem fr234 (a : Act) (hs : a.tmps.size = 234) (hd : a.defers = []) : a = ⟨#[slot a 0, slot a 1, slot a 2, slot a 3, slot a 4, slot a 5, slot a 6, slot a 7, slot a 8, slot a 9, slot a 10, slot a 11, slot a 12, slot a 13, slot a 14, slot a 15, slot a 16, slot a 17, slot a 18, slot a 19, slot a 20, slot a 21, slot a 22, slot a 23, slot a 24, slot a 25, slot a 26, slot a 27, slot a 28, slot a 29, slot a 30, slot a 31, slot a 32, slot a 33, slot a 34, slot a 35, slot a 36, slot a 37, slot a 38, slot a 39, slot a 40, slot a 41, slot a 42, slot a 43, slot a 44, slot a 45, slot a 46, slot a 47, slot a 48, slot a 49, slot a 50, slot a 51, slot a 52, slot a 53, slot a 54, slot a 55, slot a 56, slot a 57, slot a 58, slot a 59, slot a 60, slot a 61, slot a 62, slot a 63, slot a 64, slot a 65, slot a 66, slot a 67, slot a 68, slot a 69, slot a 70, slot a 71, slot a 72, slot a 73, slot a 74, slot a 75, slot a 76, slot a 77, slot a 78, slot a 79, slot a 80, slot a 81, slot a 82, slot a 83, slot a 84, slot a 85, slot a 86, slot a 87, slot a 88, slot a 89, slot a 90, slot a 91, slot a 92, slot a 93, slot a 94, slot a 95, slot a 96, slot a 97, slot a 98, slot a 99, slot a 100, slot a 101, slot a 102, slot a 103, slot a 104, slot a 105, slot a 106, slot a 107, slot a 108, slot a 109, slot a 110, slot a 111, slot a 112, slot a 113, slot a 114, slot a 115, slot a 116, slot a 117, slot a 118, slot a 119, slot a 120, slot a 121, slot a 122, slot a 123, slot a 124, slot a 125, slot a 126, slot a 127, slot a 128, slot a 129, slot a 130, slot a 131, slot a 132, slot a 133, slot a 134, slot a 135, slot a 136, slot a 137, slot a 138, slot a 139, slot a 140, slot a 141, slot a 142, slot a 143, slot a 144, slot a 145, slot a 146, slot a 147, slot a 148, slot a 149, slot a 150, slot a 151, slot a 152, slot a 153, slot a 154, slot a 155, slot a 156, slot a 157, slot a 158, slot a 159, slot a 160, slot a 161, slot a 162, slot a 163, slot a 164, slot a 165, slot a 166, slot a 167, slot a 168, slot a 169, slot a 170, slot a 171, slot a 172, slot a 173, slot a 174, slot a 175, slot a 176, slot a 177, slot a 178, slot a 179, slot a 180, slot a 181, slot a 182, slot a 183, slot a 184, slot a 185, slot a 186, slot a 187, slot a 188, slot a 189, slot a 190, slot a 191, slot a 192, slot a 193, slot a 194, slot a 195, slot a 196, slot a 197, slot a 198, slot a 199, slot a 200, slot a 201, slot a 202, slot a 203, slot a 204, slot a 205, slot a 206, slot a 207, slot a 208, slot a 209, slot a 210, slot a 211, slot a 212, slot a 213, slot a 214, slot a 215, slot a 216, slot a 217, slot a 218, slot a 219, slot a 220, slot a 221, slot a 222, slot a 223, slot a 224, slot a 225, slot a 226, slot a 227, slot a 228, slot a 229, slot a 230, slot a 231, slot a 232, slot a 233], []⟩ := frame_of 234 a hs hd
def obl (v : Value) : List Nat := v.ownBlock.toList
theorem DocIs.post {B : Nat} {W W' : World} {pd : Nat} {F : FaultC} {L : List ToldC} {av : Value} (h : DocIs B W pd F L av) (k : ∀ b c U, Blk W b c U → U ≠ 77 → Blk W' b c U) : DocIs B W' pd F L av := by
  obtain ⟨sv, h1, h2⟩ := h.blk
  obtain ⟨vs, h3, h4, h5⟩ := h.all
  exact ⟨⟨sv, k _ _ _ h1 (by decide), ownsRow_keepB h2 fun g c _ hg => k _ _ _ hg (by decide)⟩, ⟨vs, h3, ownsRow_keepB h4 fun g c _ hg => k _ _ _ hg (by decide), fun j x v hj hv => (h5 j x v hj hv).blk fun g c U hU hg => k _ _ _ hg (by rcases hU with rfl | rfl <;> decide)⟩, h.pd, h.ok⟩
/-- What Says of the document comes to. -/
structure SaidD (B : Nat) (w : World) (pd : Nat) (F : FaultC) (L' : List ToldC) (av av' : Value) (r : PostC) (v' : Value) (w' : World) : Prop where
  word : OwnWord 167 204 B w' v' r.R
  doc : DocIs B w' pd F L' av'
  touch : Touch (pd :: obl av) w w'
  new : ∀ k ∈ obl av', k ∈ obl av ∨ w.heap.size ≤ k
def SaidQ (B : Nat) (w : World) (pd : Nat) (F : FaultC) (L' : List ToldC) (av : Value) (r : PostC) (e : Ending) (w' : World) : Prop := ∃ (a : Option Addr) (n k : Nat) (av' : Value), e = .returned (.agg #[.int .u8 r.s, .slice a n k]) ∧ SaidD B w pd F L' av av' r (.slice a n k) w'
set_option maxHeartbeats 4000000 in
theorem saysDnot {B : Nat} {w : World} {pd : Nat} {F : FaultC} {L : List ToldC} {av : Value} (h : DocIs B w pd F L av) (hF : FaultOk F) (t l : Int) (p : PostC) (v : Value) (hv : OwnWord 167 204 B w v p.R) (hi : isF F l = false) :
    Calls Try.prog 31 #[.pointer (some ⟨pd, 0, none⟩), .int .i64 t, .int .i64 l, .agg #[.int .u8 p.s, v]] w fun e w' => SaidQ B w pd F L av p e w' := by
  obtain ⟨va, vn, vk, rfl⟩ := hv.sl
  have hb1 : Below w.heap.size w ((w.alloc (.cells #[.int .u8 p.s, .slice va vn vk] 77)).alloc (.cells #[.int .u8 0, .slice none 0 0] 77)) := blk_alloc2 _ _
  have k0 : Blk ((w.alloc (.cells #[.int .u8 p.s, .slice va vn vk] 77)).alloc (.cells #[.int .u8 0, .slice none 0 0] 77)) w.heap.size #[.int .u8 p.s, .slice va vn vk] 77 := (Blk.new w _ _).alloc _
  have k1 : Blk ((w.alloc (.cells #[.int .u8 p.s, .slice va vn vk] 77)).alloc (.cells #[.int .u8 0, .slice none 0 0] 77)) (w.heap.size + 1) #[.int .u8 0, .slice none 0 0] 77 := by
    have := Blk.new (w.alloc (.cells #[.int .u8 p.s, .slice va vn vk] 77)) #[.int .u8 0, .slice none 0 0] 77
    simpa using this
  have hd1 := Lib.hid (h.below hb1)
  have hv1 := Lib.hid (hv.keep hb1 (Nat.le_refl _))
  have hI := Lib.hid (isR2 hd1.out hF l)
  rw [hi] at hI
  clear h hv hF hi
  go_enter Try.func31, Try.ntmps31
  go_upto_region 1 with fail
  generalize (w.alloc (.cells #[.int .u8 p.s, .slice va vn vk] 77)).alloc (.cells #[.int .u8 0, .slice none 0 0] 77) = w1 at *
  have c0 := k0.cell (i := 0) rfl
  have c1 := k0.cell (i := 1) rfl
  have l0 := k0.lt
  have r0 := k1.cell (i := 0) rfl
  have r1 := k1.cell (i := 1) rfl
  have rf := k1.free
  have rl := k1.lt
  replace k1 := Lib.hid k1
  replace hb1 := Lib.hid hb1
  clear k0
  go_wp2_with fail
  refine hI.out.mono ?_
  rintro e _ ⟨rfl, rfl⟩
  go_wp2_with fail
  have hT : Touch [w.heap.size + 1] w1 ((w1.setCell ⟨w.heap.size + 1, 0, none⟩ (.int .u8 p.s)).setCell ⟨w.heap.size + 1, 1, none⟩ (.slice va vn vk)) := ((Touch.refl [w.heap.size + 1] w1).setCell (p := ⟨w.heap.size + 1, 0, none⟩) (.inl (by simp)) _).setCell (p := ⟨w.heap.size + 1, 1, none⟩) (.inl (by simp)) _
  have hbF := hT.below hb1.out hb1.out.size (by simp)
  have hkeep : ∀ b c U, Blk w1 b c U → U ≠ 77 → Blk ((w1.setCell ⟨w.heap.size + 1, 0, none⟩ (.int .u8 p.s)).setCell ⟨w.heap.size + 1, 1, none⟩ (.slice va vn vk)) b c U := fun b c U hb hU => hb.touch hT (by simpa using hb.ne k1.out hU)
  exact postRet2 8 (by kernel_rfl) (w.heap.size + 1) p.s _ rfl (((k1.out.set 0 (.int .u8 p.s)).set 1 (.slice va vn vk)).congr rfl) rfl ⟨va, vn, vk, av, rfl, hv1.out.blk (fun g c U hU hg => hkeep _ _ _ hg (by rcases hU with rfl | rfl <;> decide)), hd1.out.post hkeep, Touch.of_below hbF (Nat.le_refl _) _, fun k hk => .inl hk⟩
set_option maxHeartbeats 4000000 in
theorem saysDout {B : Nat} {w : World} {pd : Nat} {F : FaultC} {L : List ToldC} {av : Value} (h : DocIs B w pd F L av) (hF : FaultOk F) (t l : Int) (p : PostC) (v : Value) (hv : OwnWord 167 204 B w v p.R) (hi : isF F l = true) (ht : t < 0 ∨ 1099511627776 < t) :
    Calls Try.prog 31 #[.pointer (some ⟨pd, 0, none⟩), .int .i64 t, .int .i64 l, .agg #[.int .u8 p.s, v]] w fun e w' => SaidQ B w pd F L av ⟨0, []⟩ e w' := by
  obtain ⟨va, vn, vk, rfl⟩ := hv.sl
  have hb1 : Below w.heap.size w ((w.alloc (.cells #[.int .u8 p.s, .slice va vn vk] 77)).alloc (.cells #[.int .u8 0, .slice none 0 0] 77)) := blk_alloc2 _ _
  have k0 : Blk ((w.alloc (.cells #[.int .u8 p.s, .slice va vn vk] 77)).alloc (.cells #[.int .u8 0, .slice none 0 0] 77)) w.heap.size #[.int .u8 p.s, .slice va vn vk] 77 := (Blk.new w _ _).alloc _
  have k1 : Blk ((w.alloc (.cells #[.int .u8 p.s, .slice va vn vk] 77)).alloc (.cells #[.int .u8 0, .slice none 0 0] 77)) (w.heap.size + 1) #[.int .u8 0, .slice none 0 0] 77 := by
    have := Blk.new (w.alloc (.cells #[.int .u8 p.s, .slice va vn vk] 77)) #[.int .u8 0, .slice none 0 0] 77
    simpa using this
  have hd1 := Lib.hid (h.below hb1)
  have hv1 := Lib.hid (hv.keep hb1 (Nat.le_refl _))
  have hI := Lib.hid (isR2 hd1.out hF l)
  rw [hi] at hI
  clear h hv hF hi
  have q1 : (t < 0 ∧ decide (t < 0) = true) ∨ (decide (t < 0) = false ∧ decide (1099511627776 < t) = true) := by
    rcases ht with ht | ht
    · exact .inl ⟨ht, by simp [ht]⟩
    · by_cases h0 : t < 0
      · exact .inl ⟨h0, by simp [h0]⟩
      · exact .inr ⟨by simp; omega, by simp [ht]⟩
  clear ht
  rcases q1 with ⟨q0, q1⟩ | ⟨q1, q2⟩
  all_goals
    go_enter Try.func31, Try.ntmps31
    go_upto_region 1 with fail
    generalize (w.alloc (.cells #[.int .u8 p.s, .slice va vn vk] 77)).alloc (.cells #[.int .u8 0, .slice none 0 0] 77) = w1 at *
    have r0 := k1.cell (i := 0) rfl
    have r1 := k1.cell (i := 1) rfl
    have rf := k1.free
    have rl := k1.lt
    replace k1 := Lib.hid k1
    replace hb1 := Lib.hid hb1
    clear k0
    go_wp2_with fail
    refine hI.out.mono ?_
    rintro e _ ⟨rfl, rfl⟩
    go_wp2_with fail
    have hT : Touch [w.heap.size + 1] w1 ((w1.setCell ⟨w.heap.size + 1, 0, none⟩ (.int .u8 0)).setCell ⟨w.heap.size + 1, 1, none⟩ (.slice none 0 0)) := ((Touch.refl [w.heap.size + 1] w1).setCell (p := ⟨w.heap.size + 1, 0, none⟩) (.inl (by simp)) _).setCell (p := ⟨w.heap.size + 1, 1, none⟩) (.inl (by simp)) _
    have hbF := hT.below hb1.out hb1.out.size (by simp)
    have hkeep : ∀ b c U, Blk w1 b c U → U ≠ 77 → Blk ((w1.setCell ⟨w.heap.size + 1, 0, none⟩ (.int .u8 0)).setCell ⟨w.heap.size + 1, 1, none⟩ (.slice none 0 0)) b c U := fun b c U hb hU => hb.touch hT (by simpa using hb.ne k1.out hU)
    exact postRet2 8 (by kernel_rfl) (w.heap.size + 1) 0 _ rfl (((k1.out.set 0 (.int .u8 0)).set 1 (.slice none 0 0)).congr rfl) rfl ⟨none, 0, 0, av, rfl, .inl ⟨rfl, rfl⟩, hd1.out.post hkeep, Touch.of_below hbF (Nat.le_refl _) _, fun k hk => .inl hk⟩
end Go.Proofs.Ytmdohnbhogfopaa
/- The frame's symbols looked through. -/
namespace Go.Proofs.Ytmdohnbhogfopaa
open Go.RowKit Go.Maps
set_option linter.unusedSimpArgs false
set_option linter.unusedVariables false
set_option maxRecDepth 100000
/-- The frame's symbols looked through. -/
structure FrAt (w7 : World) (b9 b12 : Nat) (sp : SpellC) (s : Int) (u : Value) (R : List RowC) (g o : Nat) (LS : Nat → Int) (W : World) : Prop where
  bel : Below w7.heap.size w7 W
  spl : Blk W b9 #[.int .i64 sp.fr, .int .i64 sp.til, .int .u8 sp.lk, .int .i64 sp.kd, .int .u64 sp.sd] 177
  ob : Blk W b12 #[.int .u8 s, u] 77
  ow : OwnWord 167 204 w7.heap.size W u R
  rd : ∀ i : Nat, i < 114 → W.cell? ⟨g, o + i, none⟩ = some (.int .u8 (LS i))
theorem FrAt.set {w7 : World} {b9 b12 : Nat} {sp : SpellC} {s : Int} {u : Value} {R : List RowC} {g o : Nat} {LS : Nat → Int} {W : World} (h : FrAt w7 b9 b12 sp s u R g o LS W) (hl : w7.heap.size ≤ b12) (x : Int) : FrAt w7 b9 b12 sp x u R g o LS (W.setCell ⟨b12, 0, none⟩ (.int .u8 x)) := by
  refine ⟨h.bel.setCell (p := ⟨b12, 0, none⟩) hl _, h.spl.setNe (a := ⟨b12, 0, none⟩) (h.spl.ne h.ob (by decide)) _, (h.ob.set 0 (.int .u8 x)).congr rfl, h.ow.blk fun g c U hU hg => hg.setNe (a := ⟨b12, 0, none⟩) (hg.ne h.ob (by rcases hU with rfl | rfl <;> decide)) _, fun i hi => ?_⟩
  have hg : g ≠ b12 := fun e => by
    subst e
    have h1 := h.rd 113 (by omega)
    simp [World.cell?, h.ob.out] at h1
  have hT : Touch [b12] W (W.setCell ⟨b12, 0, none⟩ (.int .u8 x)) := (Touch.refl [b12] W).setCell (p := ⟨b12, 0, none⟩) (.inl (by simp)) _
  have h1 : Rd .u8 W (some ⟨g, o, none⟩) 114 LS := fun i hi => ⟨g, o, rfl, h.rd i hi⟩
  obtain ⟨b, q, e, h2⟩ := h1.touch hT (fun a ha => by simp only [Option.some.injEq] at ha; subst ha; simpa using hg) i hi
  simp only [Option.some.injEq, Addr.mk.injEq, and_true] at e
  obtain ⟨rfl, rfl⟩ := e
  exact h2
theorem fr_hit {fr t : Int} (hf : (Lit.int .i64 fr).wf = true) (ht : 0 ≤ t ∧ t ≤ 1099511627776) (i : Nat) (hi : i < 114) : (IntKind.i64.wrap (fr + i) == t) = decide (IntKind.i64.wrap (t - fr) = i) := by
  have h1 : IntKind.i64.min = -9223372036854775808 := by decide
  have h2 : IntKind.i64.max = 9223372036854775807 := by decide
  simp [Lit.wf, h1, h2] at hf
  rw [IntKind.wrap_i64, IntKind.wrap_i64]
  by_cases q : t = fr + i ∨ fr + i = t + 18446744073709551616
  · have e1 : (fr + (i : Int) + 9223372036854775808) % 18446744073709551616 - 9223372036854775808 = t := by omega
    have e2 : (t - fr + 9223372036854775808) % 18446744073709551616 - 9223372036854775808 = (i : Int) := by omega
    rw [e1, e2]
    simp
  · have e1 : (fr + (i : Int) + 9223372036854775808) % 18446744073709551616 - 9223372036854775808 ≠ t := by omega
    have e2 : (t - fr + 9223372036854775808) % 18446744073709551616 - 9223372036854775808 ≠ (i : Int) := by omega
    simp [e1, e2]
def InvFr (w : World) (pd : Nat) (t : Int) (w7 : World) (b9 b12 : Nat) (sp : SpellC) (u : Value) (R : List RowC) (g o c : Nat) (LS : Nat → Int) (k : Nat) (a : Act) (W : World) : Prop :=
  ∃ (i : Nat) (s : Int), i + k = 114 ∧ Hid (s = if 0 ≤ IntKind.i64.wrap (t - sp.fr) ∧ IntKind.i64.wrap (t - sp.fr) < i then LS (IntKind.i64.wrap (t - sp.fr)).toNat else 0) ∧ Hid (FrAt w7 b9 b12 sp s u R g o LS W) ∧ a.tmps.size = 234 ∧ a.defers = [] ∧ slot a 0 = .pointer (some ⟨pd, 0, none⟩) ∧ slot a 1 = .int .i64 t ∧ slot a 8 = .pointer (some ⟨w.heap.size + 1, 0, none⟩) ∧ slot a 9 = .pointer (some ⟨b9, 0, none⟩) ∧ slot a 12 = .pointer (some ⟨b12, 0, none⟩) ∧ slot a 16 = .slice (some ⟨g, o, none⟩) 114 c ∧ slot a 18 = .int .i64 i
end Go.Proofs.Ytmdohnbhogfopaa
/- The rows changed by a lie. -/
namespace Go.Proofs.Ytmdohnbhogfopaa
open Go.RowKit Go.Maps
set_option linter.unusedSimpArgs false
set_option linter.unusedVariables false
set_option maxRecDepth 100000
theorem OwnWord.setD {B g n cap : Nat} {w : World} {R : List RowC} (h : OwnWord 167 204 B w (.slice (some ⟨g, 0, none⟩) n cap) R) (hk : ∀ r ∈ R, r.hd.length = 56) {i j : Nat} {r : RowC} (hr : R[i]? = some r) (hj : j < 56) (u : Value) :
    OwnWord 167 204 B (w.setCell ⟨g, i * 57 + j, none⟩ u) (.slice (some ⟨g, 0, none⟩) n cap) (R.set i ⟨r.hd.set j u, r.tab⟩) := by
  rcases h with ⟨h, _⟩ | ⟨g', cap', cur, tvs, h1, h2, h3, h4, h5, h6, h7, h8, h9⟩
  · simp at h
  · simp only [Value.slice.injEq, Option.some.injEq, Addr.mk.injEq] at h1
    obtain ⟨⟨rfl, _⟩, rfl, rfl⟩ := h1
    refine .inr ⟨g, cap, cur.setIfInBounds (i * 57 + j) u, tvs, by simp, by simpa using h2, h3, h4, h5.set _ _, by simpa using h6, flat_set h8 hk h7 hr hj u, by simpa using h8, fun q x tv hq hx => ?_⟩
    have hB : ∀ g2 c2, Blk w g2 c2 204 → Blk (w.setCell ⟨g, i * 57 + j, none⟩ u) g2 c2 204 := fun g2 c2 hg => hg.setNe (a := ⟨g, i * 57 + j, none⟩) (hg.ne h5 (by decide)) u
    by_cases e : q = i
    · subst e
      have hql := (List.getElem?_eq_some_iff.1 hr).1
      rw [List.getElem?_set_self hql] at hq
      simp at hq
      subst hq
      exact (h9 q r tv hr hx).blk fun g2 c2 _ hg => hB _ _ hg
    · rw [List.getElem?_set_ne (fun e2 => e e2.symm)] at hq
      exact (h9 q x tv hq hx).blk fun g2 c2 _ hg => hB _ _ hg
theorem OwnWord.atD {B n cap : Nat} {ao : Option Addr} {w : World} {R : List RowC} (h : OwnWord 167 204 B w (.slice ao n cap) R) {i : Nat} {r : RowC} (hr : R[i]? = some r) : ∃ g cur tvs, ao = some ⟨g, 0, none⟩ ∧ Blk w g cur 167 ∧ B ≤ g ∧ tvs.length = R.length ∧ cur.toList.take (R.length * 57) = rowsFlat R tvs := by
  rcases h with ⟨_, h⟩ | ⟨g', cap', cur, tvs, h1, h2, h3, h4, h5, h6, h7, h8, h9⟩
  · subst h
    simp at hr
  · simp only [Value.slice.injEq] at h1
    exact ⟨g', cur, tvs, h1.1, h5, h4, h8, h7⟩
theorem OwnWord.lenD {B n cap : Nat} {ao : Option Addr} {w : World} {R : List RowC} (h : OwnWord 167 204 B w (.slice ao n cap) R) : n = R.length := by
  rcases h with ⟨h0, h⟩ | ⟨g', cap', cur, tvs, h1, h2, h3, h4, h5, h6, h7, h8, h9⟩
  · subst h
    simp at h0
    simpa using h0.2.1
  · simp only [Value.slice.injEq] at h1
    exact h1.2.1
theorem chg_ok {ch : Nat → RowC → RowC} (hch : ∀ i r, RowOk r → RowOk (ch i r)) {R : List RowC} (h : ∀ r ∈ R, RowOk r) (i : Nat) : ∀ r ∈ chgTo ch R i, RowOk r := fun r hr => by
  unfold chgTo at hr
  rw [List.mem_mapIdx] at hr
  obtain ⟨j, hj, rfl⟩ := hr
  split
  · exact hch _ _ (h _ (List.getElem_mem hj))
  · exact h _ (List.getElem_mem hj)
structure LieAt (w7 : World) (b9 b12 : Nat) (sp : SpellC) (s : Int) (ao : Option Addr) (n cap : Nat) (R : List RowC) (W : World) : Prop where
  bel : Below w7.heap.size w7 W
  spl : Blk W b9 #[.int .i64 sp.fr, .int .i64 sp.til, .int .u8 sp.lk, .int .i64 sp.kd, .int .u64 sp.sd] 177
  ob : Blk W b12 #[.int .u8 s, .slice ao n cap] 77
  ow : OwnWord 167 204 w7.heap.size W (.slice ao n cap) R
  ok : ∀ r ∈ R, RowOk r
theorem LieAt.row {w7 : World} {b9 b12 : Nat} {sp : SpellC} {s : Int} {ao : Option Addr} {n cap : Nat} {R : List RowC} {W : World} (h : LieAt w7 b9 b12 sp s ao n cap R W) {i : Nat} {r : RowC} (hr : R[i]? = some r) :
    ∃ g cur x a b, ao = some ⟨g, 0, none⟩ ∧ Blk W g cur 167 ∧ w7.heap.size ≤ g ∧ cur[i * 57 + 1]? = some (.int .i64 x) ∧ cur[i * 57 + 1 + 6]? = some (.int .u32 a) ∧ cur[i * 57 + 1 + 12]? = some (.int .u32 b) ∧
      r.hd.getD 1 undef = .int .i64 x ∧ r.hd.getD 7 undef = .int .u32 a ∧ r.hd.getD 13 undef = .int .u32 b := by
  obtain ⟨g, cur, tvs, rfl, hg, hBg, hl8, hl7⟩ := h.ow.atD hr
  obtain ⟨x, a, b, e1, e2, e3, f1, f2, f3⟩ := (h.ok r (List.mem_of_getElem? hr)).hd.ints
  exact ⟨g, cur, x, a, b, rfl, hg, hBg, flat_at hl8 h.ok hl7 hr e1, flat_at hl8 h.ok hl7 hr e2, flat_at hl8 h.ok hl7 hr e3, f1, f2, f3⟩
theorem LieAt.lie {w7 : World} {b9 b12 : Nat} {sp : SpellC} {s : Int} {g n cap : Nat} {R : List RowC} {W : World} (h : LieAt w7 b9 b12 sp s (some ⟨g, 0, none⟩) n cap R W) {i : Nat} {r : RowC} (hr : R[i]? = some r) {cur : Array Value} (hg : Blk W g cur 167) (hB : w7.heap.size ≤ g) {x a b : Int}
    (f1 : r.hd.getD 1 undef = .int .i64 x) (f2 : r.hd.getD 7 undef = .int .u32 a) (f3 : r.hd.getD 13 undef = .int .u32 b) {l : Int} (hi : (i : Int) = l / 4) (q : Nat) :
    LieAt w7 b9 b12 sp s (some ⟨g, 0, none⟩) n cap (R.set i (lieR l sp.sd i r)) ((((W.drewN q).setCell ⟨g, i * 57 + 1, none⟩ (.int .i64 (IntKind.i64.wrap (x + sp.sd % 1000)))).setCell ⟨g, i * 57 + 1 + 6, none⟩ (.int .u32 (bits .xor .u32 a 1))).setCell ⟨g, i * 57 + 1 + 12, none⟩ (.int .u32 (bits .xor .u32 b 1))) := by
  have hk := hd_lens h.ok
  have hr6 := hk r (List.mem_of_getElem? hr)
  have hil := (List.getElem?_eq_some_iff.1 hr).1
  have hok := h.ok r (List.mem_of_getElem? hr)
  have o1 := (h.ow.keep (below_drewN W q) (Nat.le_refl _)).setD hk hr (j := 1) (by omega) (.int .i64 (IntKind.i64.wrap (x + sp.sd % 1000)))
  have o2 := o1.setD (set_lens hk i _ (by simpa using hr6)) (List.getElem?_set_self hil) (j := 7) (by omega) (.int .u32 (bits .xor .u32 a 1))
  have o3 := o2.setD (set_lens (set_lens hk i _ (by simpa using hr6)) i _ (by simpa using hr6)) (List.getElem?_set_self (by simpa using hil)) (j := 13) (by omega) (.int .u32 (bits .xor .u32 b 1))
  rw [List.set_set, List.set_set] at o3
  have er : lieR l sp.sd i r = ⟨((r.hd.set 1 (.int .i64 (IntKind.i64.wrap (x + sp.sd % 1000)))).set 7 (.int .u32 (bits .xor .u32 a 1))).set 13 (.int .u32 (bits .xor .u32 b 1)), r.tab⟩ := by
    unfold lieR lieH
    rw [if_pos hi, f1, f2, f3]
    rfl
  refine ⟨(((bdrewN h.bel q).setCell (p := ⟨g, _, none⟩) hB _).setCell (p := ⟨g, _, none⟩) hB _).setCell (p := ⟨g, _, none⟩) hB _, ?_, ?_, by rw [er]; exact o3, set_oks h.ok i _ (lieR_ok hok l sp.sd i)⟩
  · have hn := h.spl.ne hg (by decide)
    exact (((h.spl.drewN q).setNe (a := ⟨g, _, none⟩) hn _).setNe (a := ⟨g, _, none⟩) hn _).setNe (a := ⟨g, _, none⟩) hn _
  · have hn := h.ob.ne hg (by decide)
    exact (((h.ob.drewN q).setNe (a := ⟨g, _, none⟩) hn _).setNe (a := ⟨g, _, none⟩) hn _).setNe (a := ⟨g, _, none⟩) hn _
theorem LieAt.forge {w7 : World} {b9 b12 : Nat} {sp : SpellC} {s : Int} {g n cap : Nat} {R : List RowC} {W : World} (h : LieAt w7 b9 b12 sp s (some ⟨g, 0, none⟩) n cap R W) {i : Nat} {r : RowC} (hr : R[i]? = some r) {cur : Array Value} (hg : Blk W g cur 167) (hB : w7.heap.size ≤ g) {x b : Int}
    (f1 : r.hd.getD 1 undef = .int .i64 x) (f3 : r.hd.getD 13 undef = .int .u32 b) {l : Int} (hi : ¬ (i : Int) = l / 4) :
    LieAt w7 b9 b12 sp s (some ⟨g, 0, none⟩) n cap (R.set i (forgeR l i r)) ((W.setCell ⟨g, i * 57 + 1, none⟩ (.int .i64 (IntKind.i64.wrap (x + 1)))).setCell ⟨g, i * 57 + 1 + 12, none⟩ (.int .u32 (bits .xor .u32 b 1))) := by
  have hk := hd_lens h.ok
  have hr6 := hk r (List.mem_of_getElem? hr)
  have hil := (List.getElem?_eq_some_iff.1 hr).1
  have hok := h.ok r (List.mem_of_getElem? hr)
  have o1 := h.ow.setD hk hr (j := 1) (by omega) (.int .i64 (IntKind.i64.wrap (x + 1)))
  have o3 := o1.setD (set_lens hk i _ (by simpa using hr6)) (List.getElem?_set_self hil) (j := 13) (by omega) (.int .u32 (bits .xor .u32 b 1))
  rw [List.set_set] at o3
  have er : forgeR l i r = ⟨(r.hd.set 1 (.int .i64 (IntKind.i64.wrap (x + 1)))).set 13 (.int .u32 (bits .xor .u32 b 1)), r.tab⟩ := by
    unfold forgeR forgeH
    rw [if_neg hi, f1, f3]
    rfl
  refine ⟨(h.bel.setCell (p := ⟨g, _, none⟩) hB _).setCell (p := ⟨g, _, none⟩) hB _, ?_, ?_, by rw [er]; exact o3, set_oks h.ok i _ (forgeR_ok hok l i)⟩
  · have hn := h.spl.ne hg (by decide)
    exact (h.spl.setNe (a := ⟨g, _, none⟩) hn _).setNe (a := ⟨g, _, none⟩) hn _
  · have hn := h.ob.ne hg (by decide)
    exact (h.ob.setNe (a := ⟨g, _, none⟩) hn _).setNe (a := ⟨g, _, none⟩) hn _
theorem set_same {R : List RowC} {i : Nat} {r : RowC} (hr : R[i]? = some r) : R.set i r = R := by
  have hil := (List.getElem?_eq_some_iff.1 hr).1
  exact List.ext_getElem? fun q => by
    by_cases e : q = i
    · subst e
      rw [List.getElem?_set_self hil, hr]
    · rw [List.getElem?_set_ne (fun e2 => e e2.symm)]
def InvLie (w : World) (l : Int) (w7 : World) (b9 b12 : Nat) (sp : SpellC) (s : Int) (ao : Option Addr) (n cap : Nat) (ch : Nat → RowC → RowC) (R : List RowC) (k : Nat) (a : Act) (W : World) : Prop :=
  ∃ (i : Nat), i + k = R.length ∧ Hid (LieAt w7 b9 b12 sp s ao n cap (chgTo ch R i) W) ∧ a.tmps.size = 234 ∧ a.defers = [] ∧ slot a 2 = .int .i64 l ∧ slot a 8 = .pointer (some ⟨w.heap.size + 1, 0, none⟩) ∧ slot a 9 = .pointer (some ⟨b9, 0, none⟩) ∧ slot a 12 = .pointer (some ⟨b12, 0, none⟩) ∧ slot a 13 = .int .i64 i
end Go.Proofs.Ytmdohnbhogfopaa
/- What the document's mouth says when it was told. -/
namespace Go.Proofs.Ytmdohnbhogfopaa
open Go.RowKit Go.Maps
set_option linter.unusedSimpArgs false
set_option linter.unusedVariables false
set_option maxRecDepth 100000
theorem elemTold : (Try.prog.info? 182).map (fun i => (i.zero, i.size, i.bytes)) = some (some (.agg #[.int .i64 0, .int .i64 0, .int .u8 0, .slice none 0 0]), 4, 48) := by kernel_rfl
section
variable {P : Program} {ops : Array Oper} {o : Oper} {a : Act} {w w' : World} {K : Act → World → Prop} {Q : Exit → Act → World → Prop} {E : Prop}
theorem wp_append_at (s x : Operand) (t : TypeId)
    (ho : o.op = .call { callee := .builtin .append, args := #[s, x], argTypes := #[t, t] })
    (base : Nat) (e : TypeId) (i : TypeInfo) (z : Value) (size bytes : Nat) (ht : P.underlying t = some (.slice e)) (hi : P.info? e = some i) (hz : i.zero = some z)
    (hsize : i.size = size) (hby : i.bytes = bytes) (hzs : z.cells.size = size) (hsz : 0 < size)
    (v : Value) (n : Nat) (xs : List Value) (hs : a.eval s = v) (hown : w.ownsRow base e size v n xs)
    (ad : Addr) (m c : Nat) (news : List Value) (hx : a.eval x = .slice (some ad) m c) (hl : news.length = m * size) (hnews : ∀ j u, news[j]? = some u → w.cell? (ad.add j) = some u) (h1 : ∀ u ∈ news, u.oneCell' = true)
    (h63 : n + m ≤ maxLen) (hbytes : (n + m) * bytes ≤ 140737488355328) (hbase : base ≤ w.heap.size)
    (h : ∀ v' w', w'.ownsRow base e size v' (n + m) (xs ++ news) → w.grownBy w' v.ownBlock → (v'.ownBlock = v.ownBlock ∨ v'.ownBlock = some w.heap.size) → K (a.put o.dst v') w') : o.wp P a w K Q := by
  obtain ⟨v', w', hr, h2, h3, h4, h5⟩ := run_append_own_at (P := P) w base t o.type e i z size bytes ht hi hz hsize hby hzs hsz v n xs hown ad m c news hl hnews h1 h63 hbytes hbase
  unfold Oper.wp execOp
  simp only [ho, resolve, invoke, builtin, Sem.run_bind, Sem.run_pure, Result.andThen_ok, List.map_toArray, List.map_cons, List.map_nil, hs, hx, hr]
  exact h v' w' h2 h3 h5
theorem step_append_at (hgd : o.guard = none) (s x : Operand) (t : TypeId)
    (ho : o.op = .call { callee := .builtin .append, args := #[s, x], argTypes := #[t, t] })
    (base : Nat) (e : TypeId) (i : TypeInfo) (z : Value) (size bytes : Nat) (ht : P.underlying t = some (.slice e)) (hi : P.info? e = some i) (hz : i.zero = some z)
    (hsize : i.size = size) (hby : i.bytes = bytes) (hzs : z.cells.size = size) (hsz : 0 < size)
    (v : Value) (n : Nat) (xs : List Value) (hs : a.eval s = v) (hown : w.ownsRow base e size v n xs)
    (ad : Addr) (m c : Nat) (news : List Value) (hx : a.eval x = .slice (some ad) m c) (hl : news.length = m * size) (hnews : ∀ j u, news[j]? = some u → w.cell? (ad.add j) = some u) (h1 : ∀ u ∈ news, u.oneCell' = true)
    (h63 : n + m ≤ maxLen) (hbytes : (n + m) * bytes ≤ 140737488355328) (hbase : base ≤ w.heap.size)
    (h : ∀ v' w', w'.ownsRow base e size v' (n + m) (xs ++ news) → w.grownBy w' v.ownBlock → (v'.ownBlock = v.ownBlock ∨ v'.ownBlock = some w.heap.size) → K (a.put o.dst v') w') :
    if Region.wanted o (yielded ops a.tmps) = true then Oper.wp P o a w K Q else E := by
  rw [if_pos (by simp [Region.wanted, hgd])]
  exact wp_append_at s x t ho base e i z size bytes ht hi hz hsize hby hzs hsz v n xs hs hown ad m c news hx hl hnews h1 h63 hbytes hbase h
end
theorem toldFlat_more {L : List ToldC} {vs : List Value} {x : ToldC} {v : Value} (h : vs.length = L.length) : toldFlat (L ++ [x]) (vs ++ [v]) = toldFlat L vs ++ toldL x v := by
  unfold toldFlat
  rw [List.zipWith_append (by omega)]
  simp
/-- It was told one more. -/
theorem DocIs.told {B : Nat} {W W' : World} {pd : Nat} {F : FaultC} {L : List ToldC} {av av' : Value} {x : ToldC} {vc : Value} {vs : List Value} (h : DocIs B W pd F L av) (hvl : vs.length = L.length) (hvo : ∀ (j : Nat) (x : ToldC) (v : Value), L[j]? = some x → vs[j]? = some v → OwnWord 167 204 B W v x.p.R)
    (how : W.ownsRow B 182 4 av L.length (toldFlat L vs)) (hc : OwnWord 167 204 B W vc x.p.R) (hx : PostOk x.p ∧ (0 ≤ x.t ∧ x.t ≤ 1099511627776))
    (hown : W'.ownsRow B 182 4 av' (L.length + 1) (toldFlat L vs ++ toldL x vc)) (hg : W.grownBy W' av.ownBlock) :
    (∀ b c U, Blk W b c U → U ≠ 182 → Blk W' b c U) ∧ W'.cell? ⟨pd, 4, none⟩ = some av ∧ (∀ k, W'.frozen? ⟨pd, k, none⟩ = false) ∧ pd < W'.heap.size ∧ DocIs B (W'.setCell ⟨pd, 4, none⟩ av') pd F (L ++ [x]) av' ∧ (∀ b c U, Blk W b c U → U ≠ 182 → U ≠ 175 → Blk (W'.setCell ⟨pd, 4, none⟩ av') b c U) := by
  obtain ⟨sv, h1, h2⟩ := h.blk
  have hkeep : ∀ b c T, Blk W b c T → T ≠ 182 → Blk W' b c T := fun b c T hb hT => (hg.block b hb.lt (fun e => by
    obtain ⟨cur, hc⟩ := ownsRow_blk how e.symm
    exact hc.ne hb (fun e => hT e.symm) rfl)).trans hb
  have hp := hkeep _ _ _ h1 (by decide)
  have hset : ∀ b c T, Blk W' b c T → T ≠ 175 → Blk (W'.setCell ⟨pd, 4, none⟩ av') b c T := fun b c T hb hT => hb.setNe (a := ⟨pd, 4, none⟩) (hb.ne hp hT) _
  refine ⟨hkeep, hp.cell (i := 4) rfl, hp.free, hp.lt, ⟨⟨sv, (hp.set 4 av').congr rfl, ownsRow_keepB h2 fun g c _ hg => hset _ _ _ (hkeep _ _ _ hg (by decide)) (by decide)⟩, ⟨vs ++ [vc], by simp [hvl], ?_, fun j y v hj hv => ?_⟩, h.pd, fun y hy => ?_⟩, fun b c U hb h3 h4 => hset _ _ _ (hkeep _ _ _ hb h3) h4⟩
  · rw [toldFlat_more hvl]
    have e : (L ++ [x]).length = L.length + 1 := by simp
    rw [e]
    exact ownsRow_keepB hown fun g c _ hg => hset _ _ _ hg (by decide)
  · have ho : OwnWord 167 204 B W v y.p.R := by
      rw [List.getElem?_append] at hj hv
      by_cases q : j < L.length
      · rw [if_pos q] at hj
        rw [if_pos (by omega)] at hv
        exact hvo j y v hj hv
      · rw [if_neg q] at hj
        rw [if_neg (by omega)] at hv
        have h0 := (List.getElem?_eq_some_iff.1 hj).1
        simp at h0
        have e0 : j - L.length = 0 := by omega
        have e1 : j - vs.length = 0 := by omega
        rw [e0] at hj
        rw [e1] at hv
        simp at hj hv
        subst hj hv
        exact hc
    exact ho.blk fun g c U hU hg => hset _ _ _ (hkeep _ _ _ hg (by rcases hU with rfl | rfl <;> decide)) (by rcases hU with rfl | rfl <;> decide)
  · rcases List.mem_append.1 hy with hy | hy
    · exact h.ok y hy
    · simp at hy
      subst hy
      exact hx
theorem u64_in' {x : Int} (h : (Lit.int .u64 x).wf = true) : 0 ≤ x ∧ x < 18446744073709551616 := by
  have h1 : IntKind.u64.min = 0 := by decide
  have h2 : IntKind.u64.max = 18446744073709551615 := by decide
  simp [Lit.wf, h1, h2] at h
  omega
theorem should_ok {L : List ToldC} (h : ∀ x ∈ L, PostOk x.p) (t l : Int) : RowsFine (shouldF L t l).R := by
  have h2 : ∀ (L : List ToldC) (st : Int × PostC), (∀ x ∈ L, PostOk x.p) → RowsFine st.2.R → RowsFine (L.foldl (stepS t l) st).2.R := by
    intro L
    induction L with
    | nil => intro st _ h; exact h
    | cons x L ih =>
      intro st hx h
      rw [List.foldl_cons]
      refine ih _ (fun y hy => hx y (by simp [hy])) ?_
      unfold stepS
      repeat' split
      all_goals first | exact h | exact (hx x (by simp)).fine
  unfold shouldF
  split
  · exact .nil
  · exact h2 L _ h .nil
/-- Behind the telling. -/
structure ToldAt (B : Nat) (w : World) (pd : Nat) (F : FaultC) (L' : List ToldC) (av av' : Value) (p : PostC) (v : Value) (W : World) : Prop where
  doc : DocIs B W pd F L' av'
  touch : Touch (pd :: obl av) w W
  new : ∀ k ∈ obl av', k ∈ obl av ∨ w.heap.size ≤ k
  box : Blk W w.heap.size #[.int .u8 p.s, v] 77
  res : Blk W (w.heap.size + 1) #[.int .u8 0, .slice none 0 0] 77
  word : OwnWord 167 204 B W v p.R
theorem ToldAt.below {B : Nat} {w : World} {pd : Nat} {F : FaultC} {L' : List ToldC} {av av' : Value} {p : PostC} {v : Value} {W W' : World} (h : ToldAt B w pd F L' av av' p v W) (hb : Below W.heap.size W W') : ToldAt B w pd F L' av av' p v W' :=
  ⟨h.doc.below hb, h.touch.trans (Touch.of_below hb (Nat.le_refl _) _), h.new, h.box.below hb h.box.lt, h.res.below hb h.res.lt, h.word.keep hb (Nat.le_refl _)⟩
/-- The answer laid into the result's box. -/
theorem ToldAt.fin {B : Nat} {w : World} {pd : Nat} {F : FaultC} {L' : List ToldC} {av av' : Value} {p : PostC} {v : Value} {W : World} (h : ToldAt B w pd F L' av av' p v W) {r : PostC} {a : Option Addr} {n k : Nat} (hr : OwnWord 167 204 B W (.slice a n k) r.R) {W' : World} (hT : Touch [w.heap.size + 1] W W') : SaidQ B w pd F L' av r (.returned (.agg #[.int .u8 r.s, .slice a n k])) W' := by
  have hk : ∀ b c U, Blk W b c U → U ≠ 77 → Blk W' b c U := fun b c U hb hU => hb.touch hT (by simpa using hb.ne h.res hU)
  have hT' : Touch (pd :: obl av) w W' := by
    refine ⟨hT.os.trans h.touch.os, hT.tape.trans h.touch.tape, hT.output.trans h.touch.output, Nat.le_trans h.touch.size hT.size, fun j hj hn => ?_⟩
    rw [hT.block j (Nat.lt_of_lt_of_le hj h.touch.size) (by simp; omega)]
    exact h.touch.block j hj hn
  exact ⟨a, n, k, av', rfl, hr.blk (fun g c U hU hg => hk _ _ _ hg (by rcases hU with rfl | rfl <;> decide)), h.doc.post hk, hT', h.new⟩
set_option maxHeartbeats 16000000 in
theorem saysDin {B : Nat} {w : World} (hB : B ≤ w.heap.size) {pd : Nat} {F : FaultC} {L : List ToldC} {av : Value} (h : DocIs B w pd F L av) (hF : FaultOk F) (hn : L.length ≤ 500) (t l : Int) (p : PostC) (hp : PostOk p) (v : Value) (hv : OwnWord 167 204 B w v p.R) (hi : isF F l = true) (ht : 0 ≤ t ∧ t ≤ 1099511627776) :
    Calls Try.prog 31 #[.pointer (some ⟨pd, 0, none⟩), .int .i64 t, .int .i64 l, .agg #[.int .u8 p.s, v]] w fun e w' => SaidQ B w pd F (L ++ [⟨l, t, p⟩]) av (kindP F (fun x => some (shouldF (L ++ [⟨l, t, p⟩]) x.2 x.1)) (spellF F t l) t l p) e w' := by
  obtain ⟨i0, hti, hz0, hz1, hz2⟩ := info_parts elemTold
  have hl := isF_range hF hi
  obtain ⟨va, vn, vk, rfl⟩ := hv.sl
  have hb1 : Below w.heap.size w ((w.alloc (.cells #[.int .u8 p.s, .slice va vn vk] 77)).alloc (.cells #[.int .u8 0, .slice none 0 0] 77)) := blk_alloc2 _ _
  have k0 : Blk ((w.alloc (.cells #[.int .u8 p.s, .slice va vn vk] 77)).alloc (.cells #[.int .u8 0, .slice none 0 0] 77)) w.heap.size #[.int .u8 p.s, .slice va vn vk] 77 := (Blk.new w _ _).alloc _
  have k1 : Blk ((w.alloc (.cells #[.int .u8 p.s, .slice va vn vk] 77)).alloc (.cells #[.int .u8 0, .slice none 0 0] 77)) (w.heap.size + 1) #[.int .u8 0, .slice none 0 0] 77 := by
    have := Blk.new (w.alloc (.cells #[.int .u8 p.s, .slice va vn vk] 77)) #[.int .u8 0, .slice none 0 0] 77
    simpa using this
  have hd1 := Lib.hid (h.below hb1)
  have hv1 := Lib.hid (hv.keep hb1 (Nat.le_refl _))
  have hI := Lib.hid (isR2 hd1.out hF l)
  rw [hi] at hI
  have t1 : decide (t < 0) = false := by simp; omega
  have t2 : decide (1099511627776 < t) = false := by simp; omega
  have hFk := Lib.hid hF
  replace hp := Lib.hid hp
  clear h hv hF hi
  go_enter Try.func31, Try.ntmps31
  go_upto_region 1 with fail
  generalize (w.alloc (.cells #[.int .u8 p.s, .slice va vn vk] 77)).alloc (.cells #[.int .u8 0, .slice none 0 0] 77) = w1 at *
  replace k0 := Lib.hid k0
  replace k1 := Lib.hid k1
  replace hb1 := Lib.hid hb1
  go_wp2_with fail
  refine hI.out.mono ?_
  rintro e _ ⟨rfl, rfl⟩
  go_upto_region 5 with fail
  obtain ⟨sv, kpd, -⟩ := hd1.out.blk
  obtain ⟨vs, hvl, how, hvo⟩ := hd1.out.all
  obtain ⟨aa, ac, rfl⟩ := own_len how
  have hcl : Hid (∀ W, Below w1.heap.size w1 W → W.cell? ⟨w.heap.size, 0, none⟩ = some (.int .u8 p.s) ∧ W.cell? ⟨w.heap.size, 1, none⟩ = some (.slice va vn vk) ∧ pd < W.heap.size ∧ w.heap.size < W.heap.size) := fun W hW => by
    have h0 := k0.out.below hW k0.out.lt
    exact ⟨h0.cell (i := 0) rfl, h0.cell (i := 1) rfl, Nat.lt_of_lt_of_le kpd.lt hW.size, h0.lt⟩
  have hc4 : Hid (∀ W, Below w1.heap.size w1 W → W.cell? ⟨pd, 4, none⟩ = some (.slice aa L.length ac)) := fun W hW => (kpd.below hW kpd.lt).cell (i := 4) rfl
  have lpd := kpd.lt
  have hbd : Below w1.heap.size w1 w1.drew := below_drewN w1 1
  have hc := Lib.hid hbd
  replace hvo := Lib.hid hvo
  replace how := Lib.hid how
  replace hvl := Lib.hid hvl
  clear kpd
  refine wp_cut (fun a wx => (∃ av', Hid (ToldAt B w pd F (L ++ [⟨l, t, p⟩]) (.slice aa L.length ac) av' p (.slice va vn vk) wx)) ∧ a.tmps.size = 234 ∧ a.defers = [] ∧ slot a 0 = .pointer (some ⟨pd, 0, none⟩) ∧ slot a 1 = .int .i64 t ∧ slot a 2 = .int .i64 l ∧ slot a 7 = .pointer (some ⟨w.heap.size, 0, none⟩) ∧ slot a 8 = .pointer (some ⟨w.heap.size + 1, 0, none⟩)) ?_ ?_
  · intro K' hK'
    refine wp_region_held_drew (S := fun W => W.cell? ⟨w.heap.size, 0, none⟩ = some (.int .u8 p.s) ∧ W.cell? ⟨w.heap.size, 1, none⟩ = some (.slice va vn vk) ∧ pd < W.heap.size ∧ w.heap.size < W.heap.size) (by kernel_rfl) (hcl.out _ hbd) (fun hHeld => ?_)
    generalize w1.drew = wz0 at *
    refine wpAnyH_take (i := 0) (oi := { dst := some 31, op := .move (.tmp 0), type := _, pos := _, after := _, guard := _ }) (v := ?_) rfl (by kernel_rfl) (by kernel_rfl) (by kernel_rfl) (fun _ _ _ h => h) (Or.inl ⟨by rfl, ?_⟩) (by assumption) ?_
    rotate_left
    · (intro w hSw; (try dsimp only at hSw); go_simp) <;> with_reducible rfl
    try simp only [Act.put, List.setIfInBounds_toArray, List.set_cons_zero, List.set_cons_succ]
    refine wpAnyH_take (i := 1) (oi := { dst := some 32, op := .move (.tmp 0), type := _, pos := _, after := _, guard := _ }) (v := ?_) rfl (by kernel_rfl) (by kernel_rfl) (by kernel_rfl) (fun _ _ _ h => h) (Or.inl ⟨by rfl, ?_⟩) (by assumption) ?_
    rotate_left
    · (intro w hSw; (try dsimp only at hSw); go_simp) <;> with_reducible rfl
    try simp only [Act.put, List.setIfInBounds_toArray, List.set_cons_zero, List.set_cons_succ]
    refine wpAnyH_take (i := 2) (oi := { dst := some 33, op := .nilCheck (.tmp 32), type := _, pos := _, after := _, guard := _ }) (v := ?_) rfl (by kernel_rfl) (by kernel_rfl) (by kernel_rfl) (fun _ _ _ h => h) (Or.inl ⟨by rfl, ?_⟩) (by assumption) ?_
    rotate_left
    · (intro w hSw; (try dsimp only at hSw); go_simp) <;> with_reducible rfl
    try simp only [Act.put, List.setIfInBounds_toArray, List.set_cons_zero, List.set_cons_succ]
    refine wpAnyH_take (i := 3) (oi := { dst := some 34, op := .fieldAddr _ (.tmp 33) 2, type := _, pos := _, after := _, guard := _ }) (v := ?_) rfl (by kernel_rfl) (by kernel_rfl) (by kernel_rfl) (fun _ _ _ h => h) (Or.inl ⟨by rfl, ?_⟩) (by assumption) ?_
    rotate_left
    · (intro w hSw; (try dsimp only at hSw); go_simp) <;> with_reducible rfl
    try simp only [Act.put, List.setIfInBounds_toArray, List.set_cons_zero, List.set_cons_succ]
    refine wpAnyH_take (i := 5) (oi := { dst := some 36, op := .move (.tmp 2), type := _, pos := _, after := _, guard := _ }) (v := ?_) rfl (by kernel_rfl) (by kernel_rfl) (by kernel_rfl) (fun _ _ _ h => h) (Or.inl ⟨by rfl, ?_⟩) (by assumption) ?_
    rotate_left
    · (intro w hSw; (try dsimp only at hSw); go_simp) <;> with_reducible rfl
    try simp only [Act.put, List.setIfInBounds_toArray, List.set_cons_zero, List.set_cons_succ]
    refine wpAnyH_take (i := 6) (oi := { dst := some 37, op := .move (.tmp 1), type := _, pos := _, after := _, guard := _ }) (v := ?_) rfl (by kernel_rfl) (by kernel_rfl) (by kernel_rfl) (fun _ _ _ h => h) (Or.inl ⟨by rfl, ?_⟩) (by assumption) ?_
    rotate_left
    · (intro w hSw; (try dsimp only at hSw); go_simp) <;> with_reducible rfl
    try simp only [Act.put, List.setIfInBounds_toArray, List.set_cons_zero, List.set_cons_succ]
    refine wpAnyH_take (i := 7) (oi := { dst := some 38, op := .load _ (.tmp 7), type := _, pos := _, after := _, guard := _ }) (v := ?_) rfl (by kernel_rfl) (by kernel_rfl) (by kernel_rfl) (fun _ _ _ h => h) (Or.inl ⟨by rfl, ?_⟩) (by assumption) ?_
    rotate_left
    · (intro w hSw; (try dsimp only at hSw); go_simp) <;> with_reducible rfl
    try simp only [Act.put, List.setIfInBounds_toArray, List.set_cons_zero, List.set_cons_succ]
    refine wpAnyH_ready (rs := [4, 8]) (by kernel_rfl) (by simp) ?_
    refine AllReadyH.cons (o := { dst := some 35, op := .load _ (.tmp 34), type := _, pos := _, after := _, guard := _ }) rfl (fun K6 hK6 => ?_) ?_
    · have c4 := hc4.out _ hc.out
      go_simp
      refine hK6.out _ _ (hcl.out _ hc.out) (fun hHeld => ?_)
      clear hK6 K6 c4
      try simp only [Act.put, List.setIfInBounds_toArray, List.set_cons_zero, List.set_cons_succ]
      refine wpAnyH_ready (rs := [8]) (by kernel_rfl) (by simp) ?_
      refine AllReadyH.cons (o := { dst := some 39, op := .call { callee := .value (.func 79), args := _, argTypes := _ }, type := _, pos := _, after := _, guard := _ }) rfl (fun K6 hK6 => ?_) AllReadyH.nil
      have hwc := (hv1.out.keep hc.out (Nat.le_refl _)).at0 hp.out.R
      go_simp
      refine (copyP2 wz0 p.s _ p.R hwc hp.out.R hp.out.big.1 hp.out.big.2).mono ?_
      rintro e wz1 ⟨vc, rfl, hO, hbo⟩
      obtain ⟨ca, cn, ck, rfl⟩ := hO.sl
      replace hO := Lib.hid (hO.mono (Nat.le_trans hB (Nat.le_trans hb1.out.size hc.out.size)))
      have hc' := Lib.hid (bthen hc.out hbo)
      refine hK6.out _ _ (hcl.out _ hc'.out) (fun hHeld => ?_)
      clear hK6 K6 hwc hbo
      replace hc := hc'
      clear hc'
      try simp only [Act.put, List.setIfInBounds_toArray, List.set_cons_zero, List.set_cons_succ]
      refine wpAnyH_take (i := 9) (oi := { dst := some 40, op := .build 182 #[(0, .tmp 36), (1, .tmp 37), (2, .tmp 39)], type := _, pos := _, after := _, guard := _ }) (v := ?_) rfl (by kernel_rfl) (by kernel_rfl) (by kernel_rfl) (fun _ _ _ h => h) (Or.inl ⟨by rfl, ?_⟩) (by assumption) ?_
      rotate_left
      · (intro w hSw; (try dsimp only at hSw); go_simp) <;> with_reducible rfl
      try simp only [Act.put, List.setIfInBounds_toArray, List.set_cons_zero, List.set_cons_succ]
      refine wpAnyH_ready (rs := [10]) (by kernel_rfl) (by simp) ?_
      refine AllReadyH.cons (o := { dst := some 41, op := .buildSlice 173 1 #[(0, .tmp 40)], type := _, pos := _, after := _, guard := _ }) rfl (fun K6 hK6 => ?_) AllReadyH.nil
      go_simp
      have hc' := Lib.hid (bthen hc.out (below_alloc wz1 (.cells #[.int .i64 l, .int .i64 t, .int .u8 p.s, .slice ca cn ck] 182)))
      replace hO := Lib.hid (hO.out.keep (below_alloc wz1 (.cells #[.int .i64 l, .int .i64 t, .int .u8 p.s, .slice ca cn ck] 182)) (Nat.le_refl _))
      have kn := Lib.hid (Blk.new wz1 #[.int .i64 l, .int .i64 t, .int .u8 p.s, .slice ca cn ck] 182)
      refine hK6.out _ _ (hcl.out _ hc'.out) (fun hHeld => ?_)
      clear hK6 K6
      generalize wz1.alloc (.cells #[.int .i64 l, .int .i64 t, .int .u8 p.s, .slice ca cn ck] 182) = wz2 at *
      generalize wz1.heap.size = g10 at *
      replace hc := hc'
      clear hc'
      try simp only [Act.put, List.setIfInBounds_toArray, List.set_cons_zero, List.set_cons_succ]
      refine wpAnyH_ready (rs := [11]) (by kernel_rfl) (by simp) ?_
      refine AllReadyH.cons (o := { dst := some 42, op := .call { callee := .builtin .append, args := #[.tmp 35, .tmp 41], argTypes := #[173, 173] }, type := _, pos := _, after := _, guard := _ }) rfl (fun K6 hK6 => ?_) AllReadyH.nil
      have howc := ownsRow_keepB how.out (fun g c _ hg => hg.below hc.out hg.lt)
      have hdc := hd1.out.below hc.out
      have hsz : B ≤ wz2.heap.size := Nat.le_trans hB (Nat.le_trans hb1.out.size hc.out.size)
      refine step_append_at rfl (.tmp 35) (.tmp 41) 173 rfl B 182 i0 _ 4 48 Try.underlying173 hti hz0 hz1 hz2 rfl (by decide) _ L.length (toldFlat L vs) rfl howc ⟨g10, 0, none⟩ 1 1 (toldL ⟨l, t, p⟩ (.slice ca cn ck)) rfl rfl (fun j u hj => by rw [add_head]; exact kn.out.cell (by simpa [toldL] using hj)) (by intro u hu; simp [toldL] at hu; rcases hu with rfl | rfl | rfl | rfl <;> rfl) (by unfold maxLen; omega) (by omega) hsz ?_
      intro v9 wz3 hown hg hat
      replace hg : World.grownBy wz2 wz3 (Value.ownBlock (.slice aa L.length ac)) := hg
      replace hat : v9.ownBlock = Value.ownBlock (.slice aa L.length ac) ∨ v9.ownBlock = some wz2.heap.size := hat
      obtain ⟨e0, e1, e2, e3, hD9, hK9⟩ := hdc.told hvl.out (fun j x v hj hv => (hvo.out j x v hj hv).keep hc.out (Nat.le_refl _)) howc hO.out ⟨hp.out, ht⟩ hown hg
      obtain ⟨a9, c9, rfl⟩ := own_len hown
      have kx9 := e0 _ _ _ (k0.out.below hc.out k0.out.lt) (by decide)
      have kr9 := Lib.hid (hK9 _ _ _ (k1.out.below hc.out k1.out.lt) (by decide) (by decide))
      have kb9 := Lib.hid (hK9 _ _ _ (k0.out.below hc.out k0.out.lt) (by decide) (by decide))
      have hv9 := Lib.hid ((hv1.out.keep hc.out (Nat.le_refl _)).blk (fun g c U hU hg => hK9 _ _ _ hg (by rcases hU with rfl | rfl <;> decide) (by rcases hU with rfl | rfl <;> decide)))
      replace hD9 := Lib.hid hD9
      have hT9 : Hid (Touch (pd :: obl (.slice aa L.length ac)) w wz3) := by
        have h1 : Touch (pd :: obl (.slice aa L.length ac)) w w1 := Touch.of_below hb1.out (Nat.le_refl _) _
        have h2 : Touch (pd :: obl (.slice aa L.length ac)) w1 wz2 := Touch.of_below hc.out (Nat.le_refl _) _
        have h3 : Touch (pd :: obl (.slice aa L.length ac)) wz2 wz3 := ⟨hg.os, hg.tape, hg.output, hg.size, fun k hk hn => hg.block k hk (fun e => hn (List.mem_cons_of_mem _ (by unfold obl; rw [← e]; simp)))⟩
        exact (h1.trans h2).trans h3
      have hnew : Hid (∀ k ∈ obl (.slice a9 (L.length + 1) c9), k ∈ obl (.slice aa L.length ac) ∨ w.heap.size ≤ k) := fun k hk => by
        unfold obl at hk ⊢
        rcases hat with e | e
        · rw [e] at hk
          exact .inl hk
        · rw [e] at hk
          simp at hk
          have h1 := hb1.out.size
          have h2 := hc.out.size
          exact .inr (by omega)
      have hs9 : Hid (∀ W, W.heap.size = wz3.heap.size → (∀ b c U, Blk wz3 b c U → U ≠ 175 → Blk W b c U) → W.cell? ⟨w.heap.size, 0, none⟩ = some (.int .u8 p.s) ∧ W.cell? ⟨w.heap.size, 1, none⟩ = some (.slice va vn vk) ∧ pd < W.heap.size ∧ w.heap.size < W.heap.size) := fun W hW hk => by
        have h0 := hk _ _ _ kx9 (by decide)
        exact ⟨h0.cell (i := 0) rfl, h0.cell (i := 1) rfl, by omega, h0.lt⟩
      have hm9 : Hid (∀ b c U, Blk wz3 b c U → U ≠ 175 → Blk (wz3.setCell ⟨pd, 4, none⟩ (.slice a9 (L.length + 1) c9)) b c U) := by
        obtain ⟨sv9, hq9, -⟩ := hdc.blk
        have hq := e0 _ _ _ hq9 (by decide)
        exact Lib.hid (fun b c U hb hU => hb.setNe (a := ⟨pd, 4, none⟩) (hb.ne hq hU) _)
      refine hK6.out _ _ (hs9.out _ rfl (fun b c U hb _ => hb)) (fun hHeld => ?_)
      clear hK6 K6 howc hdc hown hg hat e0 hK9 kx9
      try simp only [Act.put, List.setIfInBounds_toArray, List.set_cons_zero, List.set_cons_succ]
      refine wpAnyH_take (i := 12) (oi := { dst := some 43, op := .nilCheck (.tmp 31), type := _, pos := _, after := _, guard := _ }) (v := ?_) rfl (by kernel_rfl) (by kernel_rfl) (by kernel_rfl) (fun _ _ _ h => h) (Or.inl ⟨by rfl, ?_⟩) (by assumption) ?_
      rotate_left
      · (intro w hSw; (try dsimp only at hSw); go_simp) <;> with_reducible rfl
      try simp only [Act.put, List.setIfInBounds_toArray, List.set_cons_zero, List.set_cons_succ]
      refine wpAnyH_take (i := 13) (oi := { dst := some 44, op := .fieldAddr _ (.tmp 43) 2, type := _, pos := _, after := _, guard := _ }) (v := ?_) rfl (by kernel_rfl) (by kernel_rfl) (by kernel_rfl) (fun _ _ _ h => h) (Or.inl ⟨by rfl, ?_⟩) (by assumption) ?_
      rotate_left
      · (intro w hSw; (try dsimp only at hSw); go_simp) <;> with_reducible rfl
      try simp only [Act.put, List.setIfInBounds_toArray, List.set_cons_zero, List.set_cons_succ]
      refine wpAnyH_ready (rs := [14]) (by kernel_rfl) (by simp) ?_
      refine AllReadyH.cons (o := { dst := none, op := .store _ (.tmp 44) (.tmp 42), type := _, pos := _, after := _, guard := _ }) rfl (fun K6 hK6 => ?_) AllReadyH.nil
      go_simp
      refine hK6.out _ _ (hs9.out _ (by simp) hm9.out) (fun hHeld => ?_)
      clear hK6 K6 e1 e2
      replace hT9 := Lib.hid (hT9.out.trans ((Touch.refl (pd :: obl (.slice aa L.length ac)) wz3).setCell (p := ⟨pd, 4, none⟩) (.inl (by simp)) (.slice a9 (L.length + 1) c9)))
      clear hs9 hm9
      generalize wz3.setCell ⟨pd, 4, none⟩ (.slice a9 (L.length + 1) c9) = W5 at *
      try simp only [Act.put, List.setIfInBounds_toArray, List.set_cons_zero, List.set_cons_succ]
      refine wpAnyH_done (by kernel_rfl) ?_ _
      have hQ : Hid (ToldAt B w pd F (L ++ [⟨l, t, p⟩]) (.slice aa L.length ac) (.slice a9 (L.length + 1) c9) p (.slice va vn vk) W5) := ⟨hD9.out, hT9.out, hnew.out, kb9.out, kr9.out, hv9.out⟩
      clear hHeld hO kn hc hcl hc4 how hvo hvl k0 k1 hb1 hd1 hv1 hD9 hT9 hnew kb9 kr9 hv9
      refine hK' _ _ trivial ⟨⟨_, hQ⟩, by kernel_rfl, rfl, by kernel_rfl, by kernel_rfl, by kernel_rfl, by kernel_rfl, by kernel_rfl⟩
    refine AllReadyH.cons (o := { dst := some 39, op := .call { callee := .value (.func 79), args := _, argTypes := _ }, type := _, pos := _, after := _, guard := _ }) rfl (fun K6 hK6 => ?_) AllReadyH.nil
    have hwc := (hv1.out.keep hc.out (Nat.le_refl _)).at0 hp.out.R
    go_simp
    refine (copyP2 wz0 p.s _ p.R hwc hp.out.R hp.out.big.1 hp.out.big.2).mono ?_
    rintro e wz1 ⟨vc, rfl, hO, hbo⟩
    obtain ⟨ca, cn, ck, rfl⟩ := hO.sl
    replace hO := Lib.hid (hO.mono (Nat.le_trans hB (Nat.le_trans hb1.out.size hc.out.size)))
    have hc' := Lib.hid (bthen hc.out hbo)
    refine hK6.out _ _ (hcl.out _ hc'.out) (fun hHeld => ?_)
    clear hK6 K6 hwc hbo
    replace hc := hc'
    clear hc'
    try simp only [Act.put, List.setIfInBounds_toArray, List.set_cons_zero, List.set_cons_succ]
    refine wpAnyH_take (i := 9) (oi := { dst := some 40, op := .build 182 #[(0, .tmp 36), (1, .tmp 37), (2, .tmp 39)], type := _, pos := _, after := _, guard := _ }) (v := ?_) rfl (by kernel_rfl) (by kernel_rfl) (by kernel_rfl) (fun _ _ _ h => h) (Or.inl ⟨by rfl, ?_⟩) (by assumption) ?_
    rotate_left
    · (intro w hSw; (try dsimp only at hSw); go_simp) <;> with_reducible rfl
    try simp only [Act.put, List.setIfInBounds_toArray, List.set_cons_zero, List.set_cons_succ]
    refine wpAnyH_ready (rs := [4, 10]) (by kernel_rfl) (by simp) ?_
    refine AllReadyH.cons (o := { dst := some 35, op := .load _ (.tmp 34), type := _, pos := _, after := _, guard := _ }) rfl (fun K6 hK6 => ?_) ?_
    · have c4 := hc4.out _ hc.out
      go_simp
      refine hK6.out _ _ (hcl.out _ hc.out) (fun hHeld => ?_)
      clear hK6 K6 c4
      try simp only [Act.put, List.setIfInBounds_toArray, List.set_cons_zero, List.set_cons_succ]
      refine wpAnyH_ready (rs := [10]) (by kernel_rfl) (by simp) ?_
      refine AllReadyH.cons (o := { dst := some 41, op := .buildSlice 173 1 #[(0, .tmp 40)], type := _, pos := _, after := _, guard := _ }) rfl (fun K6 hK6 => ?_) AllReadyH.nil
      go_simp
      have hc' := Lib.hid (bthen hc.out (below_alloc wz1 (.cells #[.int .i64 l, .int .i64 t, .int .u8 p.s, .slice ca cn ck] 182)))
      replace hO := Lib.hid (hO.out.keep (below_alloc wz1 (.cells #[.int .i64 l, .int .i64 t, .int .u8 p.s, .slice ca cn ck] 182)) (Nat.le_refl _))
      have kn := Lib.hid (Blk.new wz1 #[.int .i64 l, .int .i64 t, .int .u8 p.s, .slice ca cn ck] 182)
      refine hK6.out _ _ (hcl.out _ hc'.out) (fun hHeld => ?_)
      clear hK6 K6
      generalize wz1.alloc (.cells #[.int .i64 l, .int .i64 t, .int .u8 p.s, .slice ca cn ck] 182) = wz2 at *
      generalize wz1.heap.size = g10 at *
      replace hc := hc'
      clear hc'
      try simp only [Act.put, List.setIfInBounds_toArray, List.set_cons_zero, List.set_cons_succ]
      refine wpAnyH_ready (rs := [11]) (by kernel_rfl) (by simp) ?_
      refine AllReadyH.cons (o := { dst := some 42, op := .call { callee := .builtin .append, args := #[.tmp 35, .tmp 41], argTypes := #[173, 173] }, type := _, pos := _, after := _, guard := _ }) rfl (fun K6 hK6 => ?_) AllReadyH.nil
      have howc := ownsRow_keepB how.out (fun g c _ hg => hg.below hc.out hg.lt)
      have hdc := hd1.out.below hc.out
      have hsz : B ≤ wz2.heap.size := Nat.le_trans hB (Nat.le_trans hb1.out.size hc.out.size)
      refine step_append_at rfl (.tmp 35) (.tmp 41) 173 rfl B 182 i0 _ 4 48 Try.underlying173 hti hz0 hz1 hz2 rfl (by decide) _ L.length (toldFlat L vs) rfl howc ⟨g10, 0, none⟩ 1 1 (toldL ⟨l, t, p⟩ (.slice ca cn ck)) rfl rfl (fun j u hj => by rw [add_head]; exact kn.out.cell (by simpa [toldL] using hj)) (by intro u hu; simp [toldL] at hu; rcases hu with rfl | rfl | rfl | rfl <;> rfl) (by unfold maxLen; omega) (by omega) hsz ?_
      intro v9 wz3 hown hg hat
      replace hg : World.grownBy wz2 wz3 (Value.ownBlock (.slice aa L.length ac)) := hg
      replace hat : v9.ownBlock = Value.ownBlock (.slice aa L.length ac) ∨ v9.ownBlock = some wz2.heap.size := hat
      obtain ⟨e0, e1, e2, e3, hD9, hK9⟩ := hdc.told hvl.out (fun j x v hj hv => (hvo.out j x v hj hv).keep hc.out (Nat.le_refl _)) howc hO.out ⟨hp.out, ht⟩ hown hg
      obtain ⟨a9, c9, rfl⟩ := own_len hown
      have kx9 := e0 _ _ _ (k0.out.below hc.out k0.out.lt) (by decide)
      have kr9 := Lib.hid (hK9 _ _ _ (k1.out.below hc.out k1.out.lt) (by decide) (by decide))
      have kb9 := Lib.hid (hK9 _ _ _ (k0.out.below hc.out k0.out.lt) (by decide) (by decide))
      have hv9 := Lib.hid ((hv1.out.keep hc.out (Nat.le_refl _)).blk (fun g c U hU hg => hK9 _ _ _ hg (by rcases hU with rfl | rfl <;> decide) (by rcases hU with rfl | rfl <;> decide)))
      replace hD9 := Lib.hid hD9
      have hT9 : Hid (Touch (pd :: obl (.slice aa L.length ac)) w wz3) := by
        have h1 : Touch (pd :: obl (.slice aa L.length ac)) w w1 := Touch.of_below hb1.out (Nat.le_refl _) _
        have h2 : Touch (pd :: obl (.slice aa L.length ac)) w1 wz2 := Touch.of_below hc.out (Nat.le_refl _) _
        have h3 : Touch (pd :: obl (.slice aa L.length ac)) wz2 wz3 := ⟨hg.os, hg.tape, hg.output, hg.size, fun k hk hn => hg.block k hk (fun e => hn (List.mem_cons_of_mem _ (by unfold obl; rw [← e]; simp)))⟩
        exact (h1.trans h2).trans h3
      have hnew : Hid (∀ k ∈ obl (.slice a9 (L.length + 1) c9), k ∈ obl (.slice aa L.length ac) ∨ w.heap.size ≤ k) := fun k hk => by
        unfold obl at hk ⊢
        rcases hat with e | e
        · rw [e] at hk
          exact .inl hk
        · rw [e] at hk
          simp at hk
          have h1 := hb1.out.size
          have h2 := hc.out.size
          exact .inr (by omega)
      have hs9 : Hid (∀ W, W.heap.size = wz3.heap.size → (∀ b c U, Blk wz3 b c U → U ≠ 175 → Blk W b c U) → W.cell? ⟨w.heap.size, 0, none⟩ = some (.int .u8 p.s) ∧ W.cell? ⟨w.heap.size, 1, none⟩ = some (.slice va vn vk) ∧ pd < W.heap.size ∧ w.heap.size < W.heap.size) := fun W hW hk => by
        have h0 := hk _ _ _ kx9 (by decide)
        exact ⟨h0.cell (i := 0) rfl, h0.cell (i := 1) rfl, by omega, h0.lt⟩
      have hm9 : Hid (∀ b c U, Blk wz3 b c U → U ≠ 175 → Blk (wz3.setCell ⟨pd, 4, none⟩ (.slice a9 (L.length + 1) c9)) b c U) := by
        obtain ⟨sv9, hq9, -⟩ := hdc.blk
        have hq := e0 _ _ _ hq9 (by decide)
        exact Lib.hid (fun b c U hb hU => hb.setNe (a := ⟨pd, 4, none⟩) (hb.ne hq hU) _)
      refine hK6.out _ _ (hs9.out _ rfl (fun b c U hb _ => hb)) (fun hHeld => ?_)
      clear hK6 K6 howc hdc hown hg hat e0 hK9 kx9
      try simp only [Act.put, List.setIfInBounds_toArray, List.set_cons_zero, List.set_cons_succ]
      refine wpAnyH_take (i := 12) (oi := { dst := some 43, op := .nilCheck (.tmp 31), type := _, pos := _, after := _, guard := _ }) (v := ?_) rfl (by kernel_rfl) (by kernel_rfl) (by kernel_rfl) (fun _ _ _ h => h) (Or.inl ⟨by rfl, ?_⟩) (by assumption) ?_
      rotate_left
      · (intro w hSw; (try dsimp only at hSw); go_simp) <;> with_reducible rfl
      try simp only [Act.put, List.setIfInBounds_toArray, List.set_cons_zero, List.set_cons_succ]
      refine wpAnyH_take (i := 13) (oi := { dst := some 44, op := .fieldAddr _ (.tmp 43) 2, type := _, pos := _, after := _, guard := _ }) (v := ?_) rfl (by kernel_rfl) (by kernel_rfl) (by kernel_rfl) (fun _ _ _ h => h) (Or.inl ⟨by rfl, ?_⟩) (by assumption) ?_
      rotate_left
      · (intro w hSw; (try dsimp only at hSw); go_simp) <;> with_reducible rfl
      try simp only [Act.put, List.setIfInBounds_toArray, List.set_cons_zero, List.set_cons_succ]
      refine wpAnyH_ready (rs := [14]) (by kernel_rfl) (by simp) ?_
      refine AllReadyH.cons (o := { dst := none, op := .store _ (.tmp 44) (.tmp 42), type := _, pos := _, after := _, guard := _ }) rfl (fun K6 hK6 => ?_) AllReadyH.nil
      go_simp
      refine hK6.out _ _ (hs9.out _ (by simp) hm9.out) (fun hHeld => ?_)
      clear hK6 K6 e1 e2
      replace hT9 := Lib.hid (hT9.out.trans ((Touch.refl (pd :: obl (.slice aa L.length ac)) wz3).setCell (p := ⟨pd, 4, none⟩) (.inl (by simp)) (.slice a9 (L.length + 1) c9)))
      clear hs9 hm9
      generalize wz3.setCell ⟨pd, 4, none⟩ (.slice a9 (L.length + 1) c9) = W5 at *
      try simp only [Act.put, List.setIfInBounds_toArray, List.set_cons_zero, List.set_cons_succ]
      refine wpAnyH_done (by kernel_rfl) ?_ _
      have hQ : Hid (ToldAt B w pd F (L ++ [⟨l, t, p⟩]) (.slice aa L.length ac) (.slice a9 (L.length + 1) c9) p (.slice va vn vk) W5) := ⟨hD9.out, hT9.out, hnew.out, kb9.out, kr9.out, hv9.out⟩
      clear hHeld hO kn hc hcl hc4 how hvo hvl k0 k1 hb1 hd1 hv1 hD9 hT9 hnew kb9 kr9 hv9
      refine hK' _ _ trivial ⟨⟨_, hQ⟩, by kernel_rfl, rfl, by kernel_rfl, by kernel_rfl, by kernel_rfl, by kernel_rfl, by kernel_rfl⟩
    refine AllReadyH.cons (o := { dst := some 41, op := .buildSlice 173 1 #[(0, .tmp 40)], type := _, pos := _, after := _, guard := _ }) rfl (fun K6 hK6 => ?_) AllReadyH.nil
    go_simp
    have hc' := Lib.hid (bthen hc.out (below_alloc wz1 (.cells #[.int .i64 l, .int .i64 t, .int .u8 p.s, .slice ca cn ck] 182)))
    replace hO := Lib.hid (hO.out.keep (below_alloc wz1 (.cells #[.int .i64 l, .int .i64 t, .int .u8 p.s, .slice ca cn ck] 182)) (Nat.le_refl _))
    have kn := Lib.hid (Blk.new wz1 #[.int .i64 l, .int .i64 t, .int .u8 p.s, .slice ca cn ck] 182)
    refine hK6.out _ _ (hcl.out _ hc'.out) (fun hHeld => ?_)
    clear hK6 K6
    generalize wz1.alloc (.cells #[.int .i64 l, .int .i64 t, .int .u8 p.s, .slice ca cn ck] 182) = wz2 at *
    generalize wz1.heap.size = g10 at *
    replace hc := hc'
    clear hc'
    try simp only [Act.put, List.setIfInBounds_toArray, List.set_cons_zero, List.set_cons_succ]
    refine wpAnyH_ready (rs := [4]) (by kernel_rfl) (by simp) ?_
    refine AllReadyH.cons (o := { dst := some 35, op := .load _ (.tmp 34), type := _, pos := _, after := _, guard := _ }) rfl (fun K6 hK6 => ?_) AllReadyH.nil
    have c4 := hc4.out _ hc.out
    go_simp
    refine hK6.out _ _ (hcl.out _ hc.out) (fun hHeld => ?_)
    clear hK6 K6 c4
    try simp only [Act.put, List.setIfInBounds_toArray, List.set_cons_zero, List.set_cons_succ]
    refine wpAnyH_ready (rs := [11]) (by kernel_rfl) (by simp) ?_
    refine AllReadyH.cons (o := { dst := some 42, op := .call { callee := .builtin .append, args := #[.tmp 35, .tmp 41], argTypes := #[173, 173] }, type := _, pos := _, after := _, guard := _ }) rfl (fun K6 hK6 => ?_) AllReadyH.nil
    have howc := ownsRow_keepB how.out (fun g c _ hg => hg.below hc.out hg.lt)
    have hdc := hd1.out.below hc.out
    have hsz : B ≤ wz2.heap.size := Nat.le_trans hB (Nat.le_trans hb1.out.size hc.out.size)
    refine step_append_at rfl (.tmp 35) (.tmp 41) 173 rfl B 182 i0 _ 4 48 Try.underlying173 hti hz0 hz1 hz2 rfl (by decide) _ L.length (toldFlat L vs) rfl howc ⟨g10, 0, none⟩ 1 1 (toldL ⟨l, t, p⟩ (.slice ca cn ck)) rfl rfl (fun j u hj => by rw [add_head]; exact kn.out.cell (by simpa [toldL] using hj)) (by intro u hu; simp [toldL] at hu; rcases hu with rfl | rfl | rfl | rfl <;> rfl) (by unfold maxLen; omega) (by omega) hsz ?_
    intro v9 wz3 hown hg hat
    replace hg : World.grownBy wz2 wz3 (Value.ownBlock (.slice aa L.length ac)) := hg
    replace hat : v9.ownBlock = Value.ownBlock (.slice aa L.length ac) ∨ v9.ownBlock = some wz2.heap.size := hat
    obtain ⟨e0, e1, e2, e3, hD9, hK9⟩ := hdc.told hvl.out (fun j x v hj hv => (hvo.out j x v hj hv).keep hc.out (Nat.le_refl _)) howc hO.out ⟨hp.out, ht⟩ hown hg
    obtain ⟨a9, c9, rfl⟩ := own_len hown
    have kx9 := e0 _ _ _ (k0.out.below hc.out k0.out.lt) (by decide)
    have kr9 := Lib.hid (hK9 _ _ _ (k1.out.below hc.out k1.out.lt) (by decide) (by decide))
    have kb9 := Lib.hid (hK9 _ _ _ (k0.out.below hc.out k0.out.lt) (by decide) (by decide))
    have hv9 := Lib.hid ((hv1.out.keep hc.out (Nat.le_refl _)).blk (fun g c U hU hg => hK9 _ _ _ hg (by rcases hU with rfl | rfl <;> decide) (by rcases hU with rfl | rfl <;> decide)))
    replace hD9 := Lib.hid hD9
    have hT9 : Hid (Touch (pd :: obl (.slice aa L.length ac)) w wz3) := by
      have h1 : Touch (pd :: obl (.slice aa L.length ac)) w w1 := Touch.of_below hb1.out (Nat.le_refl _) _
      have h2 : Touch (pd :: obl (.slice aa L.length ac)) w1 wz2 := Touch.of_below hc.out (Nat.le_refl _) _
      have h3 : Touch (pd :: obl (.slice aa L.length ac)) wz2 wz3 := ⟨hg.os, hg.tape, hg.output, hg.size, fun k hk hn => hg.block k hk (fun e => hn (List.mem_cons_of_mem _ (by unfold obl; rw [← e]; simp)))⟩
      exact (h1.trans h2).trans h3
    have hnew : Hid (∀ k ∈ obl (.slice a9 (L.length + 1) c9), k ∈ obl (.slice aa L.length ac) ∨ w.heap.size ≤ k) := fun k hk => by
      unfold obl at hk ⊢
      rcases hat with e | e
      · rw [e] at hk
        exact .inl hk
      · rw [e] at hk
        simp at hk
        have h1 := hb1.out.size
        have h2 := hc.out.size
        exact .inr (by omega)
    have hs9 : Hid (∀ W, W.heap.size = wz3.heap.size → (∀ b c U, Blk wz3 b c U → U ≠ 175 → Blk W b c U) → W.cell? ⟨w.heap.size, 0, none⟩ = some (.int .u8 p.s) ∧ W.cell? ⟨w.heap.size, 1, none⟩ = some (.slice va vn vk) ∧ pd < W.heap.size ∧ w.heap.size < W.heap.size) := fun W hW hk => by
      have h0 := hk _ _ _ kx9 (by decide)
      exact ⟨h0.cell (i := 0) rfl, h0.cell (i := 1) rfl, by omega, h0.lt⟩
    have hm9 : Hid (∀ b c U, Blk wz3 b c U → U ≠ 175 → Blk (wz3.setCell ⟨pd, 4, none⟩ (.slice a9 (L.length + 1) c9)) b c U) := by
      obtain ⟨sv9, hq9, -⟩ := hdc.blk
      have hq := e0 _ _ _ hq9 (by decide)
      exact Lib.hid (fun b c U hb hU => hb.setNe (a := ⟨pd, 4, none⟩) (hb.ne hq hU) _)
    refine hK6.out _ _ (hs9.out _ rfl (fun b c U hb _ => hb)) (fun hHeld => ?_)
    clear hK6 K6 howc hdc hown hg hat e0 hK9 kx9
    try simp only [Act.put, List.setIfInBounds_toArray, List.set_cons_zero, List.set_cons_succ]
    refine wpAnyH_take (i := 12) (oi := { dst := some 43, op := .nilCheck (.tmp 31), type := _, pos := _, after := _, guard := _ }) (v := ?_) rfl (by kernel_rfl) (by kernel_rfl) (by kernel_rfl) (fun _ _ _ h => h) (Or.inl ⟨by rfl, ?_⟩) (by assumption) ?_
    rotate_left
    · (intro w hSw; (try dsimp only at hSw); go_simp) <;> with_reducible rfl
    try simp only [Act.put, List.setIfInBounds_toArray, List.set_cons_zero, List.set_cons_succ]
    refine wpAnyH_take (i := 13) (oi := { dst := some 44, op := .fieldAddr _ (.tmp 43) 2, type := _, pos := _, after := _, guard := _ }) (v := ?_) rfl (by kernel_rfl) (by kernel_rfl) (by kernel_rfl) (fun _ _ _ h => h) (Or.inl ⟨by rfl, ?_⟩) (by assumption) ?_
    rotate_left
    · (intro w hSw; (try dsimp only at hSw); go_simp) <;> with_reducible rfl
    try simp only [Act.put, List.setIfInBounds_toArray, List.set_cons_zero, List.set_cons_succ]
    refine wpAnyH_ready (rs := [14]) (by kernel_rfl) (by simp) ?_
    refine AllReadyH.cons (o := { dst := none, op := .store _ (.tmp 44) (.tmp 42), type := _, pos := _, after := _, guard := _ }) rfl (fun K6 hK6 => ?_) AllReadyH.nil
    go_simp
    refine hK6.out _ _ (hs9.out _ (by simp) hm9.out) (fun hHeld => ?_)
    clear hK6 K6 e1 e2
    replace hT9 := Lib.hid (hT9.out.trans ((Touch.refl (pd :: obl (.slice aa L.length ac)) wz3).setCell (p := ⟨pd, 4, none⟩) (.inl (by simp)) (.slice a9 (L.length + 1) c9)))
    clear hs9 hm9
    generalize wz3.setCell ⟨pd, 4, none⟩ (.slice a9 (L.length + 1) c9) = W5 at *
    try simp only [Act.put, List.setIfInBounds_toArray, List.set_cons_zero, List.set_cons_succ]
    refine wpAnyH_done (by kernel_rfl) ?_ _
    have hQ : Hid (ToldAt B w pd F (L ++ [⟨l, t, p⟩]) (.slice aa L.length ac) (.slice a9 (L.length + 1) c9) p (.slice va vn vk) W5) := ⟨hD9.out, hT9.out, hnew.out, kb9.out, kr9.out, hv9.out⟩
    clear hHeld hO kn hc hcl hc4 how hvo hvl k0 k1 hb1 hd1 hv1 hD9 hT9 hnew kb9 kr9 hv9
    refine hK' _ _ trivial ⟨⟨_, hQ⟩, by kernel_rfl, rfl, by kernel_rfl, by kernel_rfl, by kernel_rfl, by kernel_rfl, by kernel_rfl⟩
  clear hcl hc4 how hvo hvl k0 k1 hb1 hd1 hv1 hc hbd lpd hI
  rintro a wx ⟨⟨av', hW⟩, hs', hd', k0', k1', k2', k7', k8'⟩; rw [fr234 a hs' hd']; simp only [k0', k1', k2', k7', k8']; clear hs' hd' k0' k1' k2' k7' k8'
  have hsk := Lib.hid (spell_ok hFk.out t l)
  have hSp := Lib.hid (spellD hW.out.doc hFk.out l t hl)
  unfold spL2 at hSp
  have hLn : (L ++ [(⟨l, t, p⟩ : ToldC)]).length ≤ 1000 := by simp; omega
  generalize hspe : spellF F t l = sp at *
  generalize hLe : L ++ [(⟨l, t, p⟩ : ToldC)] = L' at *
  replace hspe := Lib.hid hspe
  replace hLe := Lib.hid hLe
  clear hn
  go_wp2_with fail
  refine hSp.out.mono ?_
  rintro e w6 ⟨rfl, hb6⟩
  replace hW := Lib.hid (hW.out.below hb6)
  clear hb6 hSp
  go_upto_region 7 with fail
  have hW7 : Hid (ToldAt B w pd F L' (.slice aa L.length ac) av' p (.slice va vn vk) (w6.alloc (.cells #[.int .i64 sp.fr, .int .i64 sp.til, .int .u8 sp.lk, .int .i64 sp.kd, .int .u64 sp.sd] 177))) := hW.out.below (below_alloc _ _)
  have ks : Blk (w6.alloc (.cells #[.int .i64 sp.fr, .int .i64 sp.til, .int .u8 sp.lk, .int .i64 sp.kd, .int .u64 sp.sd] 177)) w6.heap.size #[.int .i64 sp.fr, .int .i64 sp.til, .int .u8 sp.lk, .int .i64 sp.kd, .int .u64 sp.sd] 177 := Blk.new _ _ _
  clear hW
  generalize w6.alloc (.cells #[.int .i64 sp.fr, .int .i64 sp.til, .int .u8 sp.lk, .int .i64 sp.kd, .int .u64 sp.sd] 177) = w7 at *
  generalize w6.heap.size = b9 at *
  have s4 := ks.cell (i := 4) rfl
  have ls := ks.lt
  replace ks := Lib.hid ks
  have hbase : Hid (IntKind.u64.wrap (IntKind.u64.wrap (sp.sd + 1000003 * t) + 10007 * l) = baseI sp.sd t l) := by
    have e1 : IntKind.u64.wrap t = t := by rw [IntKind.wrap_u64]; omega
    have e2 : IntKind.u64.wrap (1000003 * t) = 1000003 * t := by rw [IntKind.wrap_u64]; omega
    have e3 : IntKind.u64.wrap l = l := by rw [IntKind.wrap_u64]; omega
    have e4 : IntKind.u64.wrap (10007 * l) = 10007 * l := by rw [IntKind.wrap_u64]; omega
    have : baseI sp.sd t l = IntKind.u64.wrap (IntKind.u64.wrap (sp.sd + 1000003 * t) + 10007 * l) := by
      unfold baseI u64
      rw [e1, e2, e3, e4]
    exact this.symm
  have r0 := numI_range sp.sd t l 0
  have hMx := Lib.hid (fun W => mixR2 W (baseI sp.sd t l))
  rw [← num_zero] at hMx
  go_upto_region 8 with fail
  rw [hbase.out]
  have hNd : Hid (numI sp.sd t l 0 % 4 = numI sp.sd t l 0 % 4) := rfl
  generalize hbs : baseI sp.sd t l = bs at *
  replace hbs := Lib.hid hbs
  generalize hN0 : numI sp.sd t l 0 = N0 at *
  replace hN0 := Lib.hid hN0
  have eX : Int.tmod N0 4 = N0 % 4 := Int.tmod_eq_emod_of_nonneg r0.1
  have eX2 : IntKind.u64.wrap (N0 % 4) = N0 % 4 := by rw [IntKind.wrap_u64]; omega
  clear hbase hNd s4 ls
  go_wp2_with fail
  refine (hMx.out _).mono ?_
  rintro e _ ⟨rfl, rfl⟩
  have b0 := hW7.out.box.cell (i := 0) rfl
  have b1 := hW7.out.box.cell (i := 1) rfl
  have lb := hW7.out.box.lt
  have hC := Lib.hid (copyP2 w7 p.s _ p.R (hW7.out.word.at0 hp.out.R) hp.out.R hp.out.big.1 hp.out.big.2)
  clear hMx
  go_wp2_with fail
  refine hC.out.mono ?_
  rintro e w8 ⟨v8, rfl, hO8, hb8⟩
  obtain ⟨a8, n8, k8, rfl⟩ := hO8.sl
  have hW8 := Lib.hid (hW7.out.below hb8)
  have ks8 := Lib.hid (ks.out.below hb8 ks.out.lt)
  have hO8' := Lib.hid hO8
  have hB7 : Hid (B ≤ w7.heap.size) := Nat.le_trans hB (by have := hW7.out.touch.size; exact this)
  clear ks hO8 hC b0 b1 lb eX eX2 hW8
  have hb9 : Hid (Below w7.heap.size w7 (w8.alloc (.cells #[.int .u8 p.s, .slice a8 n8 k8] 77))) := bthen hb8 (below_alloc _ _)
  have ks9 := Lib.hid (ks8.out.alloc (.cells #[.int .u8 p.s, .slice a8 n8 k8] 77))
  have ko9 := Lib.hid (Blk.new w8 #[.int .u8 p.s, .slice a8 n8 k8] 77)
  have hO9 := Lib.hid (hO8'.out.keep (below_alloc w8 (.cells #[.int .u8 p.s, .slice a8 n8 k8] 77)) (Nat.le_refl _))
  have hl12 : Hid (w7.heap.size ≤ w8.heap.size) := hb8.size
  go_upto_region 10 with fail
  clear hb8 ks8 hO8'
  generalize w8.alloc (.cells #[.int .u8 p.s, .slice a8 n8 k8] 77) = W at *
  generalize w8.heap.size = b12 at *
  have s0 := ks9.out.cell (i := 0) rfl
  have s3 := ks9.out.cell (i := 3) rfl
  have s4 := ks9.out.cell (i := 4) rfl
  have ls := ks9.out.lt
  have o0 := ko9.out.cell (i := 0) rfl
  have o1 := ko9.out.cell (i := 1) rfl
  have of := ko9.out.free
  have lo := ko9.out.lt
  have hWW := Lib.hid (hW7.out.below hb9.out)
  have b0 := hWW.out.box.cell (i := 0) rfl
  have b1 := hWW.out.box.cell (i := 1) rfl
  have lb := hWW.out.box.lt
  have kr := Lib.hid hWW.out.res
  have r0' := kr.out.cell (i := 0) rfl
  have r1' := kr.out.cell (i := 1) rfl
  have rf := kr.out.free
  have rl := kr.out.lt
  have hkind : Hid (kindP F (fun x => some (shouldF L' x.2 x.1)) sp t l p = kindP F (fun x => some (shouldF L' x.2 x.1)) sp t l p) := rfl
  by_cases z1 : sp.kd = 1
  · have y1 : (sp.kd == 1) = true := by simp [z1]
    have hk : Hid (kindP F (fun x => some (shouldF L' x.2 x.1)) sp t l p = ⟨0, []⟩) := by
      have : kindP F (fun x => some (shouldF L' x.2 x.1)) sp t l p = ⟨0, []⟩ := by
        unfold kindP
        rw [if_pos z1]
      exact this
    clear z1
    go_wp2_with fail
    refine postRet2 8 (by kernel_rfl) (w.heap.size + 1) (0) _ rfl (((kr.out.set 0 (.int .u8 (0))).set 1 (.slice none 0 0)).congr rfl) rfl ?_
    rw [hspe.out, hLe.out, hk.out]
    exact hWW.out.fin (r := ⟨0, _⟩) (.inl ⟨rfl, rfl⟩) (((Touch.refl [w.heap.size + 1] W).setCell (p := ⟨w.heap.size + 1, 0, none⟩) (.inl (by simp)) _).setCell (p := ⟨w.heap.size + 1, 1, none⟩) (.inl (by simp)) _)
  · have y1 : (sp.kd == 1) = false := by simp [z1]
    by_cases z2 : sp.kd = 2
    · have y2 : (sp.kd == 2) = true := by simp [z2]
      have hk : Hid (kindP F (fun x => some (shouldF L' x.2 x.1)) sp t l p = ⟨if numI sp.sd t l 0 % 4 = 0 then turnS p.s else p.s, p.R⟩) := by
        have : kindP F (fun x => some (shouldF L' x.2 x.1)) sp t l p = ⟨if numI sp.sd t l 0 % 4 = 0 then turnS p.s else p.s, p.R⟩ := by
          unfold kindP
          rw [if_neg z1, if_pos z2]
        exact this
      rw [hN0.out] at hk
      by_cases z9 : N0 % 4 = 0
      · have y9 : (N0 % 4 == 0) = true := by simp [z9]
        rw [if_pos z9] at hk
        clear z1 z2 z9
        go_wp2_with fail
        have hb3 : Below W.heap.size W ((W.alloc (.cells #[.int .u8 p.s] 35)).alloc (.cells #[.int .i64 0] 3)) := blk_alloc2 _ _
        have d1 : Blk ((W.alloc (.cells #[.int .u8 p.s] 35)).alloc (.cells #[.int .i64 0] 3)) W.heap.size #[.int .u8 p.s] 35 := (Blk.new W _ _).alloc _
        have d2 : Blk ((W.alloc (.cells #[.int .u8 p.s] 35)).alloc (.cells #[.int .i64 0] 3)) (W.heap.size + 1) #[.int .i64 0] 3 := by
          have := Blk.new (W.alloc (.cells #[.int .u8 p.s] 35)) #[.int .i64 0] 3
          simpa using this
        generalize (W.alloc (.cells #[.int .u8 p.s] 35)).alloc (.cells #[.int .i64 0] 3) = w3 at *
        refine (refTurn w3 (some ⟨W.heap.size, 0, none⟩) 1 1 (fun _ => p.s) (some ⟨W.heap.size + 1, 0, none⟩) 1 1 (fun _ => 0) (rd_one d1) (rd_one d2) (by omega) (by omega)).mono ?_
        rintro e w4 ⟨al, cc, rfl, hMi, hb4⟩
        obtain ⟨g, cur, rfl, hg1, hg2, hg3, hg4⟩ := hMi (by omega)
        have hv := hg4 0 (by omega)
        rw [turn_one] at hv
        have hc := hg2.cell hv
        have hcc : cc = cc := rfl
        have lg := hg2.lt
        have hbW4 := Lib.hid (bthen hb3 hb4)
        have ko4 := Lib.hid (ko9.out.below hbW4.out ko9.out.lt)
        have hb74 := Lib.hid (bthen hb9.out hbW4.out)
        have hO4 := Lib.hid (hO9.out.keep hbW4.out (Nat.le_refl _))
        clear r0' r1' rf rl b0 b1 lb o0 o1 of lo s0 s3 s4 ls hb3 d1 d2 hMi hb4 hg1 hg2 hg3 hg4 hv kr
        generalize turnS p.s = S at *
        have hb7s := Lib.hid (hb74.out.setCell (p := ⟨b12, 0, none⟩) hl12.out (.int .u8 S))
        replace hWW := Lib.hid (hW7.out.below hb7s.out)
        have kr := Lib.hid hWW.out.res
        have kr4 := Lib.hid (hW7.out.below hb74.out).res
        have r0' := kr4.out.cell (i := 0) rfl
        have r1' := kr4.out.cell (i := 1) rfl
        have rf := kr4.out.free
        have rl := kr4.out.lt
        have o0 := ko4.out.cell (i := 0) rfl
        have o1 := ko4.out.cell (i := 1) rfl
        have of := ko4.out.free
        have lo := ko4.out.lt
        have hOs := Lib.hid (hO4.out.blk (w' := w4.setCell ⟨b12, 0, none⟩ (.int .u8 S)) (fun g c U hU hg => hg.setNe (a := ⟨b12, 0, none⟩) (hg.ne ko4.out (by rcases hU with rfl | rfl <;> decide)) _))
        have hne := Lib.hid (ko4.out.ne kr4.out)
        have hnn : b12 ≠ w.heap.size + 1 := by
          have h1 := hW7.out.res.lt
          have h2 := hl12.out
          omega
        have hnn2 : w.heap.size + 1 ≠ b12 := fun e => hnn e.symm
        go_wp2_with fail
        refine postRet2 8 (by kernel_rfl) (w.heap.size + 1) (S) _ rfl (((kr.out.set 0 (.int .u8 (S))).set 1 (.slice a8 n8 k8)).congr rfl) rfl ?_
        rw [hspe.out, hLe.out, hk.out]
        exact hWW.out.fin (r := ⟨S, _⟩) (hOs.out.mono hB7.out) (((Touch.refl [w.heap.size + 1] (w4.setCell ⟨b12, 0, none⟩ (.int .u8 S))).setCell (p := ⟨w.heap.size + 1, 0, none⟩) (.inl (by simp)) _).setCell (p := ⟨w.heap.size + 1, 1, none⟩) (.inl (by simp)) _)
      · have y9 : (N0 % 4 == 0) = false := by simp [z9]
        rw [if_neg z9] at hk
        clear z1 z2 z9
        go_wp2_with fail
        refine postRet2 8 (by kernel_rfl) (w.heap.size + 1) (p.s) _ rfl (((kr.out.set 0 (.int .u8 (p.s))).set 1 (.slice a8 n8 k8)).congr rfl) rfl ?_
        rw [hspe.out, hLe.out, hk.out]
        exact hWW.out.fin (r := ⟨p.s, _⟩) (hO9.out.mono hB7.out) (((Touch.refl [w.heap.size + 1] W).setCell (p := ⟨w.heap.size + 1, 0, none⟩) (.inl (by simp)) _).setCell (p := ⟨w.heap.size + 1, 1, none⟩) (.inl (by simp)) _)
    · have y2 : (sp.kd == 2) = false := by simp [z2]
      by_cases z3 : sp.kd = 3
      · have y3 : (sp.kd == 3) = true := by simp [z3]
        have hk : Hid (kindP F (fun x => some (shouldF L' x.2 x.1)) sp t l p = noiseC sp.sd t l F.m p.R) := by
          have : kindP F (fun x => some (shouldF L' x.2 x.1)) sp t l p = noiseC sp.sd t l F.m p.R := by
            unfold kindP
            rw [if_neg z1, if_neg z2, if_pos z3]
          exact this
        clear z1 z2 z3
        have hN := Lib.hid (noiseD hWW.out.doc hFk.out sp.sd t l p.s _ p.R (hWW.out.word.at0 hp.out.R) hp.out.R hp.out.big.1 hp.out.big.2)
        rw [hbs.out] at hN
        generalize noiseC sp.sd t l F.m p.R = NC at *
        go_wp2_with fail
        refine hN.out.mono ?_
        rintro e W2 ⟨v2, rfl, hO2, hb2⟩
        obtain ⟨a2, n2, k2, rfl⟩ := hO2.sl
        replace hWW := Lib.hid (hWW.out.below hb2)
        replace kr := Lib.hid hWW.out.res
        replace hO2 := Lib.hid (hO2.mono (Nat.le_trans hB7.out hb9.out.size))
        clear r0' r1' rf rl b0 b1 lb o0 o1 of lo s0 s3 s4 ls hN
        have r0' := kr.out.cell (i := 0) rfl
        have r1' := kr.out.cell (i := 1) rfl
        have rf := kr.out.free
        have rl := kr.out.lt
        go_wp2_with fail
        refine postRet2 8 (by kernel_rfl) (w.heap.size + 1) (NC.s) _ rfl (((kr.out.set 0 (.int .u8 (NC.s))).set 1 (.slice a2 n2 k2)).congr rfl) rfl ?_
        rw [hspe.out, hLe.out, hk.out]
        exact hWW.out.fin (r := ⟨NC.s, _⟩) (hO2.out) (((Touch.refl [w.heap.size + 1] W2).setCell (p := ⟨w.heap.size + 1, 0, none⟩) (.inl (by simp)) _).setCell (p := ⟨w.heap.size + 1, 1, none⟩) (.inl (by simp)) _)
      · have y3 : (sp.kd == 3) = false := by simp [z3]
        by_cases z4 : sp.kd = 4
        · have y4 : (sp.kd == 4) = true := by simp [z4]
          have hk : Hid (kindP F (fun x => some (shouldF L' x.2 x.1)) sp t l p = shouldF L' (t - sp.sd % 64) l) := by
            have : kindP F (fun x => some (shouldF L' x.2 x.1)) sp t l p = shouldF L' (t - sp.sd % 64) l := by
              unfold kindP
              rw [if_neg z1, if_neg z2, if_neg z3, if_pos z4]
              rfl
            exact this
          clear z1 z2 z3 z4
          have hSh := Lib.hid (shouldD hWW.out.doc hLn (t - sp.sd % 64) l)
          have hsd := u64_in' (hsk.out.sd)
          have e1 : Int.tmod sp.sd 64 = sp.sd % 64 := Int.tmod_eq_emod_of_nonneg hsd.1
          have e2 : IntKind.u64.wrap (sp.sd % 64) = sp.sd % 64 := by rw [IntKind.wrap_u64]; omega
          have e3 : IntKind.i64.wrap (sp.sd % 64) = sp.sd % 64 := wrapI _ (by omega) (by omega)
          have e4 : IntKind.i64.wrap (t - sp.sd % 64) = t - sp.sd % 64 := wrapI _ (by omega) (by omega)
          have hok := should_ok (fun x hx => (hWW.out.doc.ok x hx).1) (t - sp.sd % 64) l
          replace hok := Lib.hid hok
          generalize shouldF L' (t - sp.sd % 64) l = Q at *
          go_wp2_with fail
          refine hSh.out.mono ?_
          rintro e W2 ⟨v2, rfl, hO2, hb2⟩
          obtain ⟨a2, n2, k2, rfl⟩ := hO2.sl
          have hC2 := Lib.hid (copyP2 W2 Q.s _ Q.R (hO2.at0 hok.out.ok) hok.out.ok (by have := hok.out.n; omega) (fun r hr => by have := hok.out.t r hr; omega))
          replace hWW := Lib.hid (hWW.out.below hb2)
          clear r0' r1' rf rl b0 b1 lb o0 o1 of lo s0 s3 s4 ls hSh e1 e2 e3 e4
          go_wp2_with fail
          refine hC2.out.mono ?_
          rintro e W3 ⟨v3, rfl, hO3, hb3⟩
          obtain ⟨a3, n3, k3, rfl⟩ := hO3.sl
          replace hWW := Lib.hid (hWW.out.below hb3)
          replace kr := Lib.hid hWW.out.res
          replace hO3 := Lib.hid (hO3.mono (Nat.le_trans hB7.out (Nat.le_trans hb9.out.size hb2.size)))
          have r0' := kr.out.cell (i := 0) rfl
          have r1' := kr.out.cell (i := 1) rfl
          have rf := kr.out.free
          have rl := kr.out.lt
          go_wp2_with fail
          refine postRet2 8 (by kernel_rfl) (w.heap.size + 1) (Q.s) _ rfl (((kr.out.set 0 (.int .u8 (Q.s))).set 1 (.slice a3 n3 k3)).congr rfl) rfl ?_
          rw [hspe.out, hLe.out, hk.out]
          exact hWW.out.fin (r := ⟨Q.s, _⟩) (hO3.out) (((Touch.refl [w.heap.size + 1] W3).setCell (p := ⟨w.heap.size + 1, 0, none⟩) (.inl (by simp)) _).setCell (p := ⟨w.heap.size + 1, 1, none⟩) (.inl (by simp)) _)
        · have y4 : (sp.kd == 4) = false := by simp [z4]
          by_cases z5 : sp.kd = 5
          · have y5 : (sp.kd == 5) = true := by simp [z5]
            have y6 : (sp.kd == 6) = false := by simp [z5]
            have hk : Hid (kindP F (fun x => some (shouldF L' x.2 x.1)) sp t l p = ⟨p.s, p.R.mapIdx (lieR l sp.sd)⟩) := by
              have : kindP F (fun x => some (shouldF L' x.2 x.1)) sp t l p = ⟨p.s, p.R.mapIdx (lieR l sp.sd)⟩ := by
                unfold kindP
                rw [if_neg z1, if_neg z2, if_neg z3, if_neg z4, if_pos z5]
              exact this
            clear z1 z2 z3 z4 z5
            have hsd := u64_in' (hsk.out.sd)
            have e3 : Int.tmod sp.sd 1000 = sp.sd % 1000 := Int.tmod_eq_emod_of_nonneg hsd.1
            have e4 : IntKind.u64.wrap (sp.sd % 1000) = sp.sd % 1000 := by rw [IntKind.wrap_u64]; omega
            have e5 : IntKind.i64.wrap (sp.sd % 1000) = sp.sd % 1000 := wrapI _ (by omega) (by omega)
            have e1 : Int.tdiv l 4 = l / 4 := Int.tdiv_eq_ediv_of_nonneg hl.1
            have e2 : IntKind.i64.wrap (l / 4) = l / 4 := wrapI _ (by omega) (by omega)
            have hln := hp.out.big.1
            obtain rfl := hO9.out.lenD
            have hF0 : Hid (LieAt w7 b9 b12 sp p.s a8 p.R.length k8 (chgTo (lieR l sp.sd) p.R 0) W) := by
              rw [chgTo_zero]
              exact Lib.hid ⟨hb9.out, ks9.out, ko9.out, hO9.out, hp.out.R⟩
            go_wp2_with fail
            clear r0' r1' rf rl b0 b1 lb o0 o1 of lo s0 s3 s4 ls kr hWW ks9 ko9 hO9 hb9 hsd
            refine wp_loop_k (InvLie w l w7 b9 b12 sp p.s a8 p.R.length k8 (lieR l sp.sd) p.R) p.R.length ?_ ?_
            · exact ⟨0, by omega, hF0, by kernel_rfl, rfl, by kernel_rfl, by kernel_rfl, by kernel_rfl, by kernel_rfl, by kernel_rfl⟩
            clear hF0
            intro gk a wr hI K hK
            obtain ⟨i, hi0, hF, hs', hd', k2', k8', k9', k12', k13'⟩ := hI
            rw [fr234 a hs' hd']; simp only [k2', k8', k9', k12', k13']; clear hs' hd' k2' k8' k9' k12' k13'
            replace hK := Lib.hid hK
            have o0 := hF.out.ob.cell (i := 0) rfl
            have o1 := hF.out.ob.cell (i := 1) rfl
            have lo := hF.out.ob.lt
            have s3 := hF.out.spl.cell (i := 3) rfl
            have s4 := hF.out.spl.cell (i := 4) rfl
            have ls := hF.out.spl.lt
            by_cases hil : i < p.R.length
            · have g1 : decide ((i : Int) < (p.R.length : Int)) = true := by simp; omega
              have g2 : (i : Int) < (p.R.length : Int) := by omega
              have g3 : IntKind.i64.wrap ((i : Int) + 1) = ((i + 1 : Nat) : Int) := by rw [wrap_i64_small _ (by omega) (by omega)]; omega
              obtain ⟨r, hr⟩ : ∃ r, p.R[i]? = some r := ⟨_, List.getElem?_eq_getElem hil⟩
              have hr2 : (chgTo (lieR l sp.sd) p.R i)[i]? = some r := by rw [chgTo_at]; exact hr
              obtain ⟨g, cur, x, xa, xb, rfl, hg, hBg, x1, x7, x13, f1, f2, f3⟩ := hF.out.row hr2
              have y := chgTo_step (lieR l sp.sd) p.R i r hr
              have c1 := hg.cell x1
              have c7 := hg.cell x7
              have c13 := hg.cell x13
              have fg := hg.free
              have lg := hg.lt
              have nb : b9 ≠ g := hF.out.spl.ne hg (by decide)
              have nb2 : g ≠ b9 := fun e => nb e.symm
              clear x1 x7 x13
              by_cases z : (i : Int) = l / 4
              · have v1 : ((i : Int) == l / 4) = true := by simp [z]
                have hF2 : Hid (LieAt w7 b9 b12 sp p.s (some ⟨g, 0, none⟩) p.R.length k8 (chgTo (lieR l sp.sd) p.R (i + 1)) ((((wr.drewN 1).setCell ⟨g, i * 57 + 1, none⟩ (.int .i64 (wrap64 (x + sp.sd % 1000)))).setCell ⟨g, i * 57 + 1 + 6, none⟩ (.int .u32 (bits .xor .u32 xa 1))).setCell ⟨g, i * 57 + 1 + 12, none⟩ (.int .u32 (bits .xor .u32 xb 1)))) := by
                  have h := hF.out.lie hr2 hg hBg f1 f2 f3 z 1
                  have h64 : wrap64 (x + sp.sd % 1000) = IntKind.i64.wrap (x + sp.sd % 1000) := by unfold wrap64; rw [IntKind.wrap_i64]
                  rw [y] at h
                  rw [h64]
                  exact Lib.hid h
                clear hr hr2 f1 f2 f3 y hg hF
                replace z := Lib.hid z
                go_upto_region 26 with fail
                generalize ho : i * 57 + 1 = o at *
                replace ho := Lib.hid ho
                go_upto_region 27 with fail
                refine wp_region_tail 12 (by kernel_rfl) (by kernel_rfl) ?_; simp only [List.take_succ_cons, List.take_zero, List.drop_succ_cons, List.drop_zero]; (repeat still_step); refine wpStill_nil ?_
                go_wp2_with fail
                exact hK.out (p.R.length - (i + 1)) _ _ (by omega) ⟨i + 1, by omega, hF2, by kernel_rfl, rfl, by kernel_rfl, by kernel_rfl, by kernel_rfl, by kernel_rfl, by kernel_rfl⟩
              · have v1 : ((i : Int) == l / 4) = false := by simp [z]
                have v2 : decide ((i : Int) = l / 4) = false := by simp [z]
                have hF2 : Hid (LieAt w7 b9 b12 sp p.s (some ⟨g, 0, none⟩) p.R.length k8 (chgTo (lieR l sp.sd) p.R (i + 1)) wr) := by
                  have h := hF.out
                  have e : (chgTo (lieR l sp.sd) p.R i).set i (lieR l sp.sd i r) = chgTo (lieR l sp.sd) p.R i := by
                    have e2 : lieR l sp.sd i r = r := by
                      unfold lieR
                      rw [if_neg z]
                    rw [e2]
                    exact set_same hr2
                  rw [← y, e]
                  exact Lib.hid h
                clear e1 e2 hr hr2 f1 f2 f3 y
                replace z := Lib.hid z
                go_wp2_with fail
                exact hK.out (p.R.length - (i + 1)) _ _ (by omega) ⟨i + 1, by omega, hF2, by kernel_rfl, rfl, by kernel_rfl, by kernel_rfl, by kernel_rfl, by kernel_rfl, by kernel_rfl⟩
            have g1 : decide ((i : Int) < (p.R.length : Int)) = false := by simp; omega
            have g2 : ¬ (i : Int) < (p.R.length : Int) := by omega
            obtain rfl : i = p.R.length := by omega
            have hOw := hF.out.ow
            rw [chgTo_all] at hOw
            replace hOw := Lib.hid hOw
            have hWW := Lib.hid (hW7.out.below hF.out.bel)
            have kr := Lib.hid hWW.out.res
            have r0' := kr.out.cell (i := 0) rfl
            have r1' := kr.out.cell (i := 1) rfl
            have rf := kr.out.free
            have rl := kr.out.lt
            clear hF s3 s4 ls hil g2
            go_wp2_with fail
            refine postRet2 8 (by kernel_rfl) (w.heap.size + 1) (p.s) _ rfl (((kr.out.set 0 (.int .u8 (p.s))).set 1 (.slice a8 p.R.length k8)).congr rfl) rfl ?_
            rw [hspe.out, hLe.out, hk.out]
            exact hWW.out.fin (r := ⟨p.s, _⟩) (hOw.out.mono hB7.out) (((Touch.refl [w.heap.size + 1] wr).setCell (p := ⟨w.heap.size + 1, 0, none⟩) (.inl (by simp)) _).setCell (p := ⟨w.heap.size + 1, 1, none⟩) (.inl (by simp)) _)
          · have y5 : (sp.kd == 5) = false := by simp [z5]
            by_cases z6 : sp.kd = 6
            · have y6 : (sp.kd == 6) = true := by simp [z6]
              have hk : Hid (kindP F (fun x => some (shouldF L' x.2 x.1)) sp t l p = ⟨p.s, p.R.mapIdx (forgeR l)⟩) := by
                have : kindP F (fun x => some (shouldF L' x.2 x.1)) sp t l p = ⟨p.s, p.R.mapIdx (forgeR l)⟩ := by
                  unfold kindP
                  rw [if_neg z1, if_neg z2, if_neg z3, if_neg z4, if_neg z5, if_pos z6]
                exact this
              clear z1 z2 z3 z4 z5 z6
              have hsd := u64_in' (hsk.out.sd)
              have e3 : Int.tmod sp.sd 1000 = sp.sd % 1000 := Int.tmod_eq_emod_of_nonneg hsd.1
              have e4 : IntKind.u64.wrap (sp.sd % 1000) = sp.sd % 1000 := by rw [IntKind.wrap_u64]; omega
              have e5 : IntKind.i64.wrap (sp.sd % 1000) = sp.sd % 1000 := wrapI _ (by omega) (by omega)
              have e1 : Int.tdiv l 4 = l / 4 := Int.tdiv_eq_ediv_of_nonneg hl.1
              have e2 : IntKind.i64.wrap (l / 4) = l / 4 := wrapI _ (by omega) (by omega)
              have hln := hp.out.big.1
              obtain rfl := hO9.out.lenD
              have hF0 : Hid (LieAt w7 b9 b12 sp p.s a8 p.R.length k8 (chgTo (forgeR l) p.R 0) W) := by
                rw [chgTo_zero]
                exact Lib.hid ⟨hb9.out, ks9.out, ko9.out, hO9.out, hp.out.R⟩
              go_wp2_with fail
              clear r0' r1' rf rl b0 b1 lb o0 o1 of lo s0 s3 s4 ls kr hWW ks9 ko9 hO9 hb9 hsd
              refine wp_loop_k (InvLie w l w7 b9 b12 sp p.s a8 p.R.length k8 (forgeR l) p.R) p.R.length ?_ ?_
              · exact ⟨0, by omega, hF0, by kernel_rfl, rfl, by kernel_rfl, by kernel_rfl, by kernel_rfl, by kernel_rfl, by kernel_rfl⟩
              clear hF0
              intro gk a wr hI K hK
              obtain ⟨i, hi0, hF, hs', hd', k2', k8', k9', k12', k13'⟩ := hI
              rw [fr234 a hs' hd']; simp only [k2', k8', k9', k12', k13']; clear hs' hd' k2' k8' k9' k12' k13'
              replace hK := Lib.hid hK
              have o0 := hF.out.ob.cell (i := 0) rfl
              have o1 := hF.out.ob.cell (i := 1) rfl
              have lo := hF.out.ob.lt
              have s3 := hF.out.spl.cell (i := 3) rfl
              have s4 := hF.out.spl.cell (i := 4) rfl
              have ls := hF.out.spl.lt
              by_cases hil : i < p.R.length
              · have g1 : decide ((i : Int) < (p.R.length : Int)) = true := by simp; omega
                have g2 : (i : Int) < (p.R.length : Int) := by omega
                have g3 : IntKind.i64.wrap ((i : Int) + 1) = ((i + 1 : Nat) : Int) := by rw [wrap_i64_small _ (by omega) (by omega)]; omega
                obtain ⟨r, hr⟩ : ∃ r, p.R[i]? = some r := ⟨_, List.getElem?_eq_getElem hil⟩
                have hr2 : (chgTo (forgeR l) p.R i)[i]? = some r := by rw [chgTo_at]; exact hr
                obtain ⟨g, cur, x, xa, xb, rfl, hg, hBg, x1, x7, x13, f1, f2, f3⟩ := hF.out.row hr2
                have y := chgTo_step (forgeR l) p.R i r hr
                have c1 := hg.cell x1
                have c7 := hg.cell x7
                have c13 := hg.cell x13
                have fg := hg.free
                have lg := hg.lt
                have nb : b9 ≠ g := hF.out.spl.ne hg (by decide)
                have nb2 : g ≠ b9 := fun e => nb e.symm
                clear x1 x7 x13
                by_cases z : (i : Int) = l / 4
                · have v1 : ((i : Int) != l / 4) = false := by simp [z]
                  have v2 : decide ((i : Int) = l / 4) = true := by simp [z]
                  have v3 : ((i : Int) == l / 4) = true := by simp [z]
                  have hF2 : Hid (LieAt w7 b9 b12 sp p.s (some ⟨g, 0, none⟩) p.R.length k8 (chgTo (forgeR l) p.R (i + 1)) wr) := by
                    have h := hF.out
                    have e : (chgTo (forgeR l) p.R i).set i (forgeR l i r) = chgTo (forgeR l) p.R i := by
                      have e2 : forgeR l i r = r := by
                        unfold forgeR
                        rw [if_pos z]
                      rw [e2]
                      exact set_same hr2
                    rw [← y, e]
                    exact Lib.hid h
                  clear e1 e2 hr hr2 f1 f2 f3 y
                  replace z := Lib.hid z
                  go_wp2_with fail
                  exact hK.out (p.R.length - (i + 1)) _ _ (by omega) ⟨i + 1, by omega, hF2, by kernel_rfl, rfl, by kernel_rfl, by kernel_rfl, by kernel_rfl, by kernel_rfl, by kernel_rfl⟩
                · have v1 : ((i : Int) != l / 4) = true := by simp [z]
                  have v2 : decide ((i : Int) = l / 4) = false := by simp [z]
                  have v3 : ((i : Int) == l / 4) = false := by simp [z]
                  have hF2 : Hid (LieAt w7 b9 b12 sp p.s (some ⟨g, 0, none⟩) p.R.length k8 (chgTo (forgeR l) p.R (i + 1)) ((wr.setCell ⟨g, i * 57 + 1, none⟩ (.int .i64 (wrap64 (x + 1)))).setCell ⟨g, i * 57 + 1 + 12, none⟩ (.int .u32 (bits .xor .u32 xb 1)))) := by
                    have h := hF.out.forge hr2 hg hBg f1 f3 z
                    have h64 : wrap64 (x + 1) = IntKind.i64.wrap (x + 1) := by unfold wrap64; rw [IntKind.wrap_i64]
                    rw [y] at h
                    rw [h64]
                    exact Lib.hid h
                  clear hr hr2 f1 f2 f3 y hg hF
                  replace z := Lib.hid z
                  go_upto_region 26 with fail
                  generalize ho : i * 57 + 1 = o at *
                  replace ho := Lib.hid ho
                  go_wp2_with fail
                  exact hK.out (p.R.length - (i + 1)) _ _ (by omega) ⟨i + 1, by omega, hF2, by kernel_rfl, rfl, by kernel_rfl, by kernel_rfl, by kernel_rfl, by kernel_rfl, by kernel_rfl⟩
              have g1 : decide ((i : Int) < (p.R.length : Int)) = false := by simp; omega
              have g2 : ¬ (i : Int) < (p.R.length : Int) := by omega
              obtain rfl : i = p.R.length := by omega
              have hOw := hF.out.ow
              rw [chgTo_all] at hOw
              replace hOw := Lib.hid hOw
              have hWW := Lib.hid (hW7.out.below hF.out.bel)
              have kr := Lib.hid hWW.out.res
              have r0' := kr.out.cell (i := 0) rfl
              have r1' := kr.out.cell (i := 1) rfl
              have rf := kr.out.free
              have rl := kr.out.lt
              clear hF s3 s4 ls hil g2
              go_wp2_with fail
              refine postRet2 8 (by kernel_rfl) (w.heap.size + 1) (p.s) _ rfl (((kr.out.set 0 (.int .u8 (p.s))).set 1 (.slice a8 p.R.length k8)).congr rfl) rfl ?_
              rw [hspe.out, hLe.out, hk.out]
              exact hWW.out.fin (r := ⟨p.s, _⟩) (hOw.out.mono hB7.out) (((Touch.refl [w.heap.size + 1] wr).setCell (p := ⟨w.heap.size + 1, 0, none⟩) (.inl (by simp)) _).setCell (p := ⟨w.heap.size + 1, 1, none⟩) (.inl (by simp)) _)
            · have y6 : (sp.kd == 6) = false := by simp [z6]
              by_cases z7 : sp.kd = 7
              · have y7 : (sp.kd == 7) = true := by simp [z7]
                have q1 : Int.tmod l 2 = l % 2 := Int.tmod_eq_emod_of_nonneg hl.1
                by_cases z8 : l % 2 = 0
                · have y8 : (l % 2 == 1) = false := by simp; omega
                  have hk : Hid (kindP F (fun x => some (shouldF L' x.2 x.1)) sp t l p = (if l % 2 = 0 then p else ⟨0, []⟩)) := by
                    have : kindP F (fun x => some (shouldF L' x.2 x.1)) sp t l p = (if l % 2 = 0 then p else ⟨0, []⟩) := by
                      unfold kindP
                      rw [if_neg z1, if_neg z2, if_neg z3, if_neg z4, if_neg z5, if_neg z6, if_pos z7]
                    exact this
                  rw [if_pos z8] at hk
                  clear z1 z2 z3 z4 z5 z6 z7 z8
                  go_wp2_with fail
                  refine postRet2 8 (by kernel_rfl) (w.heap.size + 1) (p.s) _ rfl (((kr.out.set 0 (.int .u8 (p.s))).set 1 (.slice a8 n8 k8)).congr rfl) rfl ?_
                  rw [hspe.out, hLe.out, hk.out]
                  exact hWW.out.fin (r := ⟨p.s, _⟩) (hO9.out.mono hB7.out) (((Touch.refl [w.heap.size + 1] W).setCell (p := ⟨w.heap.size + 1, 0, none⟩) (.inl (by simp)) _).setCell (p := ⟨w.heap.size + 1, 1, none⟩) (.inl (by simp)) _)
                · have y8 : (l % 2 == 1) = true := by simp; omega
                  have hk : Hid (kindP F (fun x => some (shouldF L' x.2 x.1)) sp t l p = (if l % 2 = 0 then p else ⟨0, []⟩)) := by
                    have : kindP F (fun x => some (shouldF L' x.2 x.1)) sp t l p = (if l % 2 = 0 then p else ⟨0, []⟩) := by
                      unfold kindP
                      rw [if_neg z1, if_neg z2, if_neg z3, if_neg z4, if_neg z5, if_neg z6, if_pos z7]
                    exact this
                  rw [if_neg z8] at hk
                  clear z1 z2 z3 z4 z5 z6 z7 z8
                  go_wp2_with fail
                  refine postRet2 8 (by kernel_rfl) (w.heap.size + 1) (0) _ rfl (((kr.out.set 0 (.int .u8 (0))).set 1 (.slice none 0 0)).congr rfl) rfl ?_
                  rw [hspe.out, hLe.out, hk.out]
                  exact hWW.out.fin (r := ⟨0, _⟩) (.inl ⟨rfl, rfl⟩) (((Touch.refl [w.heap.size + 1] W).setCell (p := ⟨w.heap.size + 1, 0, none⟩) (.inl (by simp)) _).setCell (p := ⟨w.heap.size + 1, 1, none⟩) (.inl (by simp)) _)
              · have y7 : (sp.kd == 7) = false := by simp [z7]
                by_cases z8 : sp.kd = 8
                · have y8 : (sp.kd == 8) = true := by simp [z8]
                  have hk : Hid (kindP F (fun x => some (shouldF L' x.2 x.1)) sp t l p = ⟨frameS sp.sd sp.fr t, p.R⟩) := by
                    have : kindP F (fun x => some (shouldF L' x.2 x.1)) sp t l p = ⟨frameS sp.sd sp.fr t, p.R⟩ := by
                      unfold kindP
                      rw [if_neg z1, if_neg z2, if_neg z3, if_neg z4, if_neg z5, if_neg z6, if_neg z7, if_pos z8]
                    exact this
                  clear z1 z2 z3 z4 z5 z6 z7 z8
                  have hsd := u64_in' (hsk.out.sd)
                  have e1 : Int.tmod sp.sd 8 = sp.sd % 8 := Int.tmod_eq_emod_of_nonneg hsd.1
                  have e2 : IntKind.u64.wrap (sp.sd % 8) = sp.sd % 8 := by rw [IntKind.wrap_u64]; omega
                  have e3 : IntKind.i64.wrap (sp.sd % 8) = sp.sd % 8 := wrapI _ (by omega) (by omega)
                  have e4 : (2 : Int) ^ 8 = 256 := by decide
                  have e5 : (2 : Int) ^ 16 = 65536 := by decide
                  have hsq : 0 ≤ IntKind.u32.wrap (sp.sd / 256) ∧ IntKind.u32.wrap (sp.sd / 256) < 4294967296 := by rw [IntKind.wrap_u32]; omega
                  have hvl : 0 ≤ IntKind.u32.wrap (sp.sd / 65536) ∧ IntKind.u32.wrap (sp.sd / 65536) < 4294967296 := by rw [IntKind.wrap_u32]; omega
                  have P8 := Lib.hid (fun W => refFrSyms W (sp.sd % 8) 2 0 (IntKind.u32.wrap (sp.sd / 256)) (IntKind.u32.wrap (sp.sd / 65536)) true false (by omega) (by omega) hsq hvl)
                  unfold frV tailV at P8
                  have hl114 : lenS (sp.sd % 8) 2 = 114 := by
                    have hm : mayB (sp.sd % 8) 2 = true := by
                      unfold mayB
                      have h1 : decide (0 ≤ sp.sd % 8) = true := by simp; omega
                      have h2 : decide (sp.sd % 8 < 8) = true := by simp; omega
                      rw [h1, h2]
                      rfl
                    unfold lenS
                    rw [hm]
                    rfl
                  have hfs : Hid (frameS sp.sd sp.fr t = if 0 ≤ IntKind.i64.wrap (t - sp.fr) ∧ IntKind.i64.wrap (t - sp.fr) < lenS (sp.sd % 8) 2 then frSL (sp.sd % 8) 2 0 (IntKind.u32.wrap (sp.sd / 256)) (IntKind.u32.wrap (sp.sd / 65536)) true false (IntKind.i64.wrap (t - sp.fr)).toNat else 0) := rfl
                  rw [hl114] at hfs P8
                  generalize frameS sp.sd sp.fr t = FS at *
                  generalize frSL (sp.sd % 8) 2 0 (IntKind.u32.wrap (sp.sd / 256)) (IntKind.u32.wrap (sp.sd / 65536)) true false = LS at *
                  generalize errF (sp.sd % 8) 2 = er at *
                  clear hsq hvl hl114
                  simp only [IntKind.wrap_u32] at P8
                  go_upto_region 38 with fail
                  have k15 : Blk (W.alloc (.cells #[.int .i64 (sp.sd % 8), .int .u8 2, .int .u8 0, .int .u32 (sp.sd / 256 % 4294967296), .int .u32 (sp.sd / 65536 % 4294967296)] 110)) W.heap.size #[.int .i64 (sp.sd % 8), .int .u8 2, .int .u8 0, .int .u32 (sp.sd / 256 % 4294967296), .int .u32 (sp.sd / 65536 % 4294967296)] 110 := Blk.new _ _ _
                  have hb15 := Lib.hid (bthen hb9.out (below_alloc W (.cells #[.int .i64 (sp.sd % 8), .int .u8 2, .int .u8 0, .int .u32 (sp.sd / 256 % 4294967296), .int .u32 (sp.sd / 65536 % 4294967296)] 110)))
                  have ks15 := Lib.hid (ks9.out.alloc (.cells #[.int .i64 (sp.sd % 8), .int .u8 2, .int .u8 0, .int .u32 (sp.sd / 256 % 4294967296), .int .u32 (sp.sd / 65536 % 4294967296)] 110))
                  have ko15 := Lib.hid (ko9.out.alloc (.cells #[.int .i64 (sp.sd % 8), .int .u8 2, .int .u8 0, .int .u32 (sp.sd / 256 % 4294967296), .int .u32 (sp.sd / 65536 % 4294967296)] 110))
                  have hO15 := Lib.hid (hO9.out.keep (below_alloc W (.cells #[.int .i64 (sp.sd % 8), .int .u8 2, .int .u8 0, .int .u32 (sp.sd / 256 % 4294967296), .int .u32 (sp.sd / 65536 % 4294967296)] 110)) (Nat.le_refl _))
                  clear r0' r1' rf rl b0 b1 lb o0 o1 of lo s0 s3 s4 ls kr hWW ks9 ko9 hO9 hb9
                  generalize W.alloc (.cells #[.int .i64 (sp.sd % 8), .int .u8 2, .int .u8 0, .int .u32 (sp.sd / 256 % 4294967296), .int .u32 (sp.sd / 65536 % 4294967296)] 110) = w15 at *
                  generalize W.heap.size = b15 at *
                  have q0 := k15.cell (i := 0) rfl
                  have q1 := k15.cell (i := 1) rfl
                  have q2 := k15.cell (i := 2) rfl
                  have q3 := k15.cell (i := 3) rfl
                  have q4 := k15.cell (i := 4) rfl
                  have ql := k15.lt
                  clear k15
                  go_wp2_with fail
                  refine (P8.out _).mono ?_
                  rintro e w16 ⟨al, cc, rfl, hRd, hb16⟩
                  have ks16 := ks15.out.below hb16 ks15.out.lt
                  have ko16 := ko15.out.below hb16 ko15.out.lt
                  have hO16 := hO15.out.keep hb16 (Nat.le_refl _)
                  have hb716 := bthen hb15.out hb16
                  obtain ⟨g, o, rfl, -⟩ := hRd 0 (by omega)
                  have hrd : ∀ i : Nat, i < 114 → w16.cell? ⟨g, o + i, none⟩ = some (.int .u8 (LS i)) := fun i hi => by
                    obtain ⟨b, q, h1, h2⟩ := hRd i hi
                    simp only [Option.some.injEq, Addr.mk.injEq, and_true] at h1
                    obtain ⟨rfl, rfl⟩ := h1
                    exact h2
                  have hFr : Hid (FrAt w7 b9 b12 sp p.s (.slice a8 n8 k8) p.R g o LS w16) := ⟨hb716, ks16, ko16, hO16, hrd⟩
                  have o0 := ko16.cell (i := 0) rfl
                  have of := ko16.free
                  have lo := ko16.lt
                  clear q0 q1 q2 q3 q4 ql ks15 ko15 hO15 hb15 hRd hb16 ks16 ko16 hO16 hb716 hrd P8
                  go_upto_region 40 with fail
                  have hFr0 := Lib.hid (hFr.out.set hl12.out 0)
                  clear hFr of lo o0
                  generalize w16.setCell ⟨b12, 0, none⟩ (.int .u8 0) = w17 at *
                  go_wp2_with fail
                  refine wp_loop_k (InvFr w pd t w7 b9 b12 sp (.slice a8 n8 k8) p.R g o cc LS) 114 ?_ ?_
                  · refine ⟨0, 0, by omega, ?_, hFr0, by kernel_rfl, rfl, by kernel_rfl, by kernel_rfl, by kernel_rfl, by kernel_rfl, by kernel_rfl, by kernel_rfl, by kernel_rfl⟩
                    have : (0 : Int) = if 0 ≤ IntKind.i64.wrap (t - sp.fr) ∧ IntKind.i64.wrap (t - sp.fr) < ((0 : Nat) : Int) then LS (IntKind.i64.wrap (t - sp.fr)).toNat else 0 := by rw [if_neg (by omega)]
                    exact this
                  clear hFr0
                  intro gk a wr hI K hK
                  obtain ⟨i, s, hi0, hs, hFr, hs', hd', k0', k1', k8', k9', k12', k16', k18'⟩ := hI
                  rw [fr234 a hs' hd']; simp only [k0', k1', k8', k9', k12', k16', k18']; clear hs' hd' k0' k1' k8' k9' k12' k16' k18'
                  replace hK := Lib.hid hK
                  have o0 := hFr.out.ob.cell (i := 0) rfl
                  have o1 := hFr.out.ob.cell (i := 1) rfl
                  have of := hFr.out.ob.free
                  have lo := hFr.out.ob.lt
                  have s0 := hFr.out.spl.cell (i := 0) rfl
                  have ls := hFr.out.spl.lt
                  by_cases hil : i < 114
                  · have g1 : decide ((i : Int) < 114) = true := by simp; omega
                    have g2 : (i : Int) < 114 := by omega
                    have g3 : IntKind.i64.wrap ((i : Int) + 1) = ((i + 1 : Nat) : Int) := by rw [wrap_i64_small _ (by omega) (by omega)]; omega
                    have hh := fr_hit hsk.out.fr ht i hil
                    have c0 := hFr.out.rd i hil
                    have lg := World.block_lt_of_cell? _ _ c0
                    simp only at lg
                    by_cases z : IntKind.i64.wrap (t - sp.fr) = i
                    · rw [decide_eq_true z] at hh
                      have hh2 : (wrap64 (sp.fr + (i : Int)) == t) = true := by
                        have e64 : wrap64 (sp.fr + (i : Int)) = IntKind.i64.wrap (sp.fr + (i : Int)) := by unfold wrap64; rw [IntKind.wrap_i64]
                        rw [e64]
                        exact hh
                      have hs2 : Hid (LS i = if 0 ≤ IntKind.i64.wrap (t - sp.fr) ∧ IntKind.i64.wrap (t - sp.fr) < ((i + 1 : Nat) : Int) then LS (IntKind.i64.wrap (t - sp.fr)).toNat else 0) := by
                        have : LS i = if 0 ≤ IntKind.i64.wrap (t - sp.fr) ∧ IntKind.i64.wrap (t - sp.fr) < ((i + 1 : Nat) : Int) then LS (IntKind.i64.wrap (t - sp.fr)).toNat else 0 := by
                          rw [if_pos (by omega), z]
                          rfl
                        exact this
                      have hFr2 := Lib.hid (hFr.out.set hl12.out (LS i))
                      clear z hs
                      go_wp2_with fail
                      exact hK.out (114 - (i + 1)) _ _ (by omega) ⟨i + 1, LS i, by omega, hs2, hFr2, by kernel_rfl, rfl, by kernel_rfl, by kernel_rfl, by kernel_rfl, by kernel_rfl, by kernel_rfl, by kernel_rfl, by kernel_rfl⟩
                    · rw [decide_eq_false z] at hh
                      have hh2 : (wrap64 (sp.fr + (i : Int)) == t) = false := by
                        have e64 : wrap64 (sp.fr + (i : Int)) = IntKind.i64.wrap (sp.fr + (i : Int)) := by unfold wrap64; rw [IntKind.wrap_i64]
                        rw [e64]
                        exact hh
                      have hs2 : Hid (s = if 0 ≤ IntKind.i64.wrap (t - sp.fr) ∧ IntKind.i64.wrap (t - sp.fr) < ((i + 1 : Nat) : Int) then LS (IntKind.i64.wrap (t - sp.fr)).toNat else 0) := by
                        have : s = if 0 ≤ IntKind.i64.wrap (t - sp.fr) ∧ IntKind.i64.wrap (t - sp.fr) < ((i + 1 : Nat) : Int) then LS (IntKind.i64.wrap (t - sp.fr)).toNat else 0 := by
                          rw [hs.out]
                          by_cases y : 0 ≤ IntKind.i64.wrap (t - sp.fr) ∧ IntKind.i64.wrap (t - sp.fr) < (i : Int)
                          · rw [if_pos y, if_pos (by omega)]
                          · rw [if_neg y, if_neg (by omega)]
                        exact this
                      clear z hs
                      go_wp2_with fail
                      exact hK.out (114 - (i + 1)) _ _ (by omega) ⟨i + 1, s, by omega, hs2, hFr, by kernel_rfl, rfl, by kernel_rfl, by kernel_rfl, by kernel_rfl, by kernel_rfl, by kernel_rfl, by kernel_rfl, by kernel_rfl⟩
                  have g1 : decide ((i : Int) < 114) = false := by simp; omega
                  have g2 : ¬ (i : Int) < 114 := by omega
                  obtain rfl : i = 114 := by omega
                  obtain rfl : FS = s := by rw [hs.out, hfs.out]
                  have hWW := Lib.hid (hW7.out.below hFr.out.bel)
                  have kr := Lib.hid hWW.out.res
                  have r0' := kr.out.cell (i := 0) rfl
                  have r1' := kr.out.cell (i := 1) rfl
                  have rf := kr.out.free
                  have rl := kr.out.lt
                  have hOw := Lib.hid hFr.out.ow
                  clear hFr hs hfs s0 ls hil g2
                  go_wp2_with fail
                  refine postRet2 8 (by kernel_rfl) (w.heap.size + 1) (FS) _ rfl (((kr.out.set 0 (.int .u8 (FS))).set 1 (.slice a8 n8 k8)).congr rfl) rfl ?_
                  rw [hspe.out, hLe.out, hk.out]
                  exact hWW.out.fin (r := ⟨FS, _⟩) (hOw.out.mono hB7.out) (((Touch.refl [w.heap.size + 1] wr).setCell (p := ⟨w.heap.size + 1, 0, none⟩) (.inl (by simp)) _).setCell (p := ⟨w.heap.size + 1, 1, none⟩) (.inl (by simp)) _)
                · have y8 : (sp.kd == 8) = false := by simp [z8]
                  have hk : Hid (kindP F (fun x => some (shouldF L' x.2 x.1)) sp t l p = p) := by
                    have : kindP F (fun x => some (shouldF L' x.2 x.1)) sp t l p = p := by
                      unfold kindP
                      rw [if_neg z1, if_neg z2, if_neg z3, if_neg z4, if_neg z5, if_neg z6, if_neg z7, if_neg z8]
                    exact this
                  clear z1 z2 z3 z4 z5 z6 z7 z8
                  go_wp2_with fail
                  refine postRet2 8 (by kernel_rfl) (w.heap.size + 1) (p.s) _ rfl (((kr.out.set 0 (.int .u8 (p.s))).set 1 (.slice a8 n8 k8)).congr rfl) rfl ?_
                  rw [hspe.out, hLe.out, hk.out]
                  exact hWW.out.fin (r := ⟨p.s, _⟩) (hO9.out.mono hB7.out) (((Touch.refl [w.heap.size + 1] W).setCell (p := ⟨w.heap.size + 1, 0, none⟩) (.inl (by simp)) _).setCell (p := ⟨w.heap.size + 1, 1, none⟩) (.inl (by simp)) _)
end Go.Proofs.Ytmdohnbhogfopaa
/- The document's Says, all three cases. -/
namespace Go.Proofs.Ytmdohnbhogfopaa
open Go.RowKit Go.Maps
set_option linter.unusedVariables false
/-- The told posts behind a saying. -/
def toldA (F : FaultC) (L : List ToldC) (t l : Int) (p : PostC) : List ToldC := if toldB F t l = true then L ++ [⟨l, t, p⟩] else L
/-- What is said, of the told posts alone. -/
def saidA (F : FaultC) (L : List ToldC) (t l : Int) (p : PostC) : PostC :=
  if isF F l = false then p else if toldB F t l = false then ⟨0, []⟩ else kindP F (fun x => some (shouldF (L ++ [⟨l, t, p⟩]) x.2 x.1)) (spellF F t l) t l p
theorem saysD {B : Nat} {w : World} (hB : B ≤ w.heap.size) {pd : Nat} {F : FaultC} {L : List ToldC} {av : Value} (h : DocIs B w pd F L av) (hF : FaultOk F) (hn : L.length ≤ 500) (t l : Int) (p : PostC) (hp : PostOk p) (v : Value) (hv : OwnWord 167 204 B w v p.R) :
    Calls Try.prog 31 #[.pointer (some ⟨pd, 0, none⟩), .int .i64 t, .int .i64 l, .agg #[.int .u8 p.s, v]] w fun e w' => SaidQ B w pd F (toldA F L t l p) av (saidA F L t l p) e w' := by
  cases hi : isF F l with
  | false =>
    have e1 : toldA F L t l p = L := by simp [toldA, toldB, hi]
    have e2 : saidA F L t l p = p := by simp [saidA, hi]
    rw [e1, e2]
    exact saysDnot h hF t l p v hv hi
  | true =>
    by_cases ht : 0 ≤ t ∧ t ≤ 1099511627776
    · have e1 : toldA F L t l p = L ++ [⟨l, t, p⟩] := by simp [toldA, toldB, hi, ht]
      have e2 : saidA F L t l p = kindP F (fun x => some (shouldF (L ++ [⟨l, t, p⟩]) x.2 x.1)) (spellF F t l) t l p := by simp [saidA, toldB, hi, ht]
      rw [e1, e2]
      exact saysDin hB h hF hn t l p hp v hv hi ht
    · have e1 : toldA F L t l p = L := by simp [toldA, toldB, hi]; omega
      have e2 : saidA F L t l p = ⟨0, []⟩ := by
        unfold saidA
        rw [hi, if_neg (by simp), if_pos (by simp [toldB, hi]; omega)]
      rw [e1, e2]
      exact saysDout h hF t l p v hv hi (by omega)
end Go.Proofs.Ytmdohnbhogfopaa
