/- The chapter's examples. -/
import Derived.Test.YtmdohnbhogfopaaZLivA
import Derived.Test.YtmdohnbhogfopaaZAskN
namespace Go.Proofs.Ytmdohnbhogfopaa
open Go.RowKit Go.Maps
set_option linter.unusedSimpArgs false
set_option linter.unusedVariables false
set_option maxRecDepth 100000
def F4 : FaultC := ⟨4, 1, -1, [⟨5, 9, 15, 1, 0⟩]⟩
theorem F4_ok : FaultOk F4 := ⟨by decide, by decide, by decide, by decide, fun s hs => by
  simp [F4] at hs
  subst hs
  exact ⟨rfl, rfl, rfl, rfl, rfl⟩⟩
theorem says4 (T : Int × Int → Option PostC) (G : Int → Option Int) (p : PostC) : saysP F4 T G 4 4 p = p := by
  have h1 : isF F4 4 = true := by kernel_rfl
  have h2 : toldB F4 4 4 = true := by kernel_rfl
  have h3 : (spellF F4 4 4).kd = 0 := by kernel_rfl
  unfold saysP kindP
  rw [h1, h2, h3]
  simp
theorem says5 (T : Int × Int → Option PostC) (G : Int → Option Int) (p : PostC) : saysP F4 T G 5 4 p = ⟨0, []⟩ := by
  have h1 : isF F4 4 = true := by kernel_rfl
  have h2 : toldB F4 5 4 = true := by kernel_rfl
  have h3 : (spellF F4 5 4).kd = 1 := by kernel_rfl
  unfold saysP kindP
  rw [h1, h2, h3]
  simp
theorem OwnWord.sl {T E : TypeId} {lo : Nat} {w : World} {v : Value} {R : List RowC} (h : OwnWord T E lo w v R) : ∃ a n c, v = .slice a n c := by
  rcases h with ⟨rfl, _⟩ | ⟨_, _, _, _, rfl, _⟩
  · exact ⟨_, _, _, rfl⟩
  · exact ⟨_, _, _, rfl⟩
theorem OwnWord.at0 {T E : TypeId} {lo : Nat} {w : World} {v : Value} {R : List RowC} (h : OwnWord T E lo w v R) (hk : ∀ r ∈ R, RowOk r) : WordAt 0 w v R := (h.word hk).mono (Nat.zero_le _)
theorem OldOut.none : OldOut (fun _ => none) (fun _ => none) := fun x g h => by cases h
theorem PostOk.big {p : PostC} (h : PostOk p) : p.R.length ≤ 1000000 ∧ ∀ r ∈ p.R, r.tab.length ≤ 1000000 := ⟨by have := h.n; omega, fun r hr => by have := h.t r hr; omega⟩
/-- A post and itself are alike. -/
theorem alikeSelf (w : World) (p : PostC) (hp : PostOk p) (v v' : Value) (hw : WordAt 0 w v p.R) (hw' : WordAt 0 w v' p.R) :
    Calls Try.prog 20 #[.agg #[.int .u8 p.s, v], .agg #[.int .u8 p.s, v']] w fun e w' => e = .returned (.bool true) ∧ Below w.heap.size w w' := by
  have := alikeR w p.s p.s v v' p.R p.R hw hw' rfl (RowsNear.self _) hp.R hp.R hp.big.1 hp.big.2
  rw [sameRows_self hp.R] at this
  exact this
theorem emptyTrue (w : World) (a : Option Addr) (c : Nat) : Calls Try.prog 19 #[.agg #[.int .u8 0, .slice a 0 c]] w fun e w' => e = .returned (.bool true) ∧ Below w.heap.size w w' := by
  refine (emptyR w 0 a 0 c).mono ?_
  rintro e w' ⟨rfl, hb⟩
  exact ⟨rfl, hb⟩
theorem SpAt.of_blk {w : World} {b : Nat} {S : List SpellC} {cs : Array Value} {U : TypeId} (h : Blk w b cs U) (e : cs = (spFlat S).toArray) (hn : S.length ≤ maxLen) : SpAt 0 w (.slice (some ⟨b, 0, none⟩) S.length S.length) S := by
  refine .inr ⟨_, _, rfl, Nat.le_refl _, hn, Nat.zero_le _, fun i s hs j u hj => ?_⟩
  have e1 : ((⟨b, 0, none⟩ : Addr).add (i * 5)).add j = ⟨b, i * 5 + j, none⟩ := by rw [add_add', add_head]
  rw [e1]
  refine h.cell ?_
  rw [e]
  simpa using spFlat_get hs j u hj
set_option maxHeartbeats 8000000 in
theorem lives29 (w : World) : Calls Try.prog 15 #[] w fun e w' => e = .returned (.bool true) ∧ Below w.heap.size w w' := by
  have hN := Lib.hid (fun (w1 : World) v hs => (show Calls Try.prog 16 #[.int .i64 4, .agg #[.int .i64 1, .int .i64 (-1), v]] w1 _ from newOk w1 F4 F4_ok v hs))
  have hp1 := Lib.hid (postC_ok 1 (by omega))
  have hP := Lib.hid (fun W => postW W 1 (by omega))
  have hmx := mixI_zero
  have i4 : isF F4 4 = true := by kernel_rfl
  have i8 : isF F4 8 = false := by kernel_rfl
  have hb1 := Lib.hid (below_alloc w (.cells #[.int .i64 5, .int .i64 9, .int .u8 15, .int .u8 1, .int .u64 0] 27))
  have k1 : Hid (SpAt 0 (w.alloc (.cells #[.int .i64 5, .int .i64 9, .int .u8 15, .int .u8 1, .int .u64 0] 27)) (.slice (some ⟨w.heap.size, 0, none⟩) 1 1) F4.S) := SpAt.of_blk (S := F4.S) (Blk.new w #[.int .i64 5, .int .i64 9, .int .u8 15, .int .u8 1, .int .u64 0] 27) rfl (by decide)
  have s4 := fun T G => says4 T G (postC 1)
  have s5 := fun T G => says5 T G (postC 1)
  replace s4 := Lib.hid s4
  replace s5 := Lib.hid s5
  generalize postC 1 = p1 at *
  go_enter Try.func15, Try.ntmps15
  go_wp2_with fail
  refine (hN.out _ _ k1.out).mono ?_
  rintro e w2 ⟨pm, bt, bl, M, rfl, hM, hb2, hMg, g1, g2, g3, g4⟩
  replace hb2 := Lib.hid (bthen hb1.out hb2)
  have gw : w.heap.size ≤ pm ∧ w.heap.size ≤ bt ∧ w.heap.size ≤ bl := by
    have := hb1.out.size
    omega
  replace hM := Lib.hid hM
  clear hN k1 hb1 hMg g1 g2 g3 g4
  go_wp2_with fail
  refine (mixR _ 0).mono ?_
  rintro e _ ⟨rfl, rfl⟩
  rw [hmx]
  go_wp2_with fail
  refine (hP.out _).mono ?_
  rintro e w3 ⟨v3, rfl, hO3, hb3⟩
  have hM3 := Lib.hid (hM.out.below hb3)
  have hW3 := hO3.at0 hp1.out.R
  replace hb3 := Lib.hid (bthen hb2.out hb3)
  obtain ⟨a3, n3, c3, rfl⟩ := hO3.sl
  have hS := saysR hM3.out F4_ok OldOut.none (by omega) 4 4 p1 hp1.out _ hW3
  rw [s4.out] at hS
  clear hO3 hM hb2 hW3
  go_wp2_with fail
  refine hS.mono ?_
  rintro e w4 ⟨v4, lo4, hi4, f4, rfl, q1, q2, q3, hO4, hM4, hT4⟩
  have hb4 := Lib.hid (hT4.below hb3.out hb3.out.size (by simp; omega))
  obtain ⟨a4, n4, c4, rfl⟩ := hO4.sl
  have hW4 := Lib.hid (hO4.at0 hp1.out.R)
  replace hM4 := Lib.hid hM4
  clear hS hM3 hO4 hT4 q1 q2 q3 hb3
  go_wp2_with fail
  refine (hP.out _).mono ?_
  rintro e w5 ⟨v5, rfl, hO5, hb5⟩
  have hW4' := hW4.out.below hb5
  have hW5 := hO5.at0 hp1.out.R
  have hM5 := Lib.hid (hM4.out.below hb5)
  replace hb5 := Lib.hid (bthen hb4.out hb5)
  obtain ⟨a5, n5, c5, rfl⟩ := hO5.sl
  have hA := Lib.hid (alikeSelf w5 p1 hp1.out _ _ hW4' hW5)
  clear hW4 hW4' hW5 hO5 hM4 hb4
  go_wp2_with fail
  refine hA.out.mono ?_
  rintro e w6 ⟨rfl, hb6⟩
  have hM6 := Lib.hid (hM5.out.below hb6)
  replace hb6 := Lib.hid (bthen hb5.out hb6)
  clear hA hM5 hb5
  go_wp2_with fail
  refine (hP.out _).mono ?_
  rintro e w7 ⟨v7, rfl, hO7, hb7⟩
  have hM7 := Lib.hid (hM6.out.below hb7)
  have hW7 := hO7.at0 hp1.out.R
  replace hb7 := Lib.hid (bthen hb6.out hb7)
  obtain ⟨a7, n7, c7, rfl⟩ := hO7.sl
  have hS := saysR hM7.out F4_ok (OldOut.none.says F4 4 4 p1) (by omega) 5 4 p1 hp1.out _ hW7
  rw [s5.out] at hS
  clear hO7 hM6 hb6 hW7
  go_wp2_with fail
  refine hS.mono ?_
  rintro e w8 ⟨v8, lo8, hi8, f8, rfl, q1, q2, q3, hO8, hM8, hT8⟩
  have hb8 := Lib.hid (hT8.below hb7.out hb7.out.size (by simp; omega))
  obtain ⟨a8, c8, rfl⟩ : ∃ a c, v8 = .slice a 0 c := by
    rcases hO8 with ⟨rfl, _⟩ | ⟨_, _, _, _, rfl, h2, _⟩
    · exact ⟨_, _, rfl⟩
    · exact ⟨_, _, rfl⟩
  replace hM8 := Lib.hid hM8
  have hE := Lib.hid (emptyTrue w8 a8 c8)
  clear hS hM7 hO8 hT8 q1 q2 q3 hb7
  go_wp2_with fail
  refine hE.out.mono ?_
  rintro e w9 ⟨rfl, hb9⟩
  have hM9 := Lib.hid (hM8.out.below hb9)
  replace hb9 := Lib.hid (bthen hb8.out hb9)
  have I4 := isR hM9.out F4_ok 4
  have I8 := isR hM9.out F4_ok 8
  rw [i4] at I4
  rw [i8] at I8
  replace I4 := Lib.hid I4
  replace I8 := Lib.hid I8
  clear hE hM8 hb8
  go_wp2_with fail
  refine I4.out.mono ?_
  rintro e _ ⟨rfl, rfl⟩
  go_wp2_with fail
  refine I8.out.mono ?_
  rintro e _ ⟨rfl, rfl⟩
  go_wp2_with fail
  go_ret
  exact ⟨rfl, hb9.out⟩
end Go.Proofs.Ytmdohnbhogfopaa
