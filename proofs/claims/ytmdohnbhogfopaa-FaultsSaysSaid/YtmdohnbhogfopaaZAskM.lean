/- kinds; what is said. -/
import Derived.Test.YtmdohnbhogfopaaZAskI
import Derived.Test.YtmdohnbhogfopaaZAskFK
namespace Go.Proofs.Ytmdohnbhogfopaa
open Go.RowKit Go.Maps
set_option linter.unusedSimpArgs false
set_option linter.unusedVariables false
set_option maxRecDepth 100000
def kindsA : Array Value := #[.func (.func 67) #[] #[], .func (.func 106) #[] #[], .func (.func 107) #[] #[], .func (.func 108) #[] #[], .func (.func 109) #[] #[], .func (.func 110) #[] #[], .func (.func 111) #[] #[], .func (.func 112) #[] #[], .func (.func 113) #[] #[]]
theorem kindsR (w : World) : Calls Try.prog 66 #[] w fun e w' => e = .returned (.slice (some ⟨w.heap.size, 0, none⟩) 9 9) ∧ w' = w.alloc (.cells kindsA 161) := by
  unfold kindsA
  go_enter Try.func66, Try.ntmps66
  go_wp2_with fail
  go_ret
  exact ⟨rfl, rfl⟩
def kindP (F : FaultC) (T : Int × Int → Option PostC) (sp : SpellC) (t l : Int) (p : PostC) : PostC :=
  if sp.kd = 1 then ⟨0, []⟩ else if sp.kd = 2 then ⟨if numI sp.sd t l 0 % 4 = 0 then turnS p.s else p.s, p.R⟩ else if sp.kd = 3 then noiseC sp.sd t l F.m p.R else if sp.kd = 4 then lateC T t l sp.sd else if sp.kd = 5 then ⟨p.s, p.R.mapIdx (lieR l sp.sd)⟩
  else if sp.kd = 6 then ⟨p.s, p.R.mapIdx (forgeR l)⟩ else if sp.kd = 7 then (if l % 2 = 0 then p else ⟨0, []⟩) else if sp.kd = 8 then ⟨frameS sp.sd sp.fr t, p.R⟩ else p
def toldB (F : FaultC) (t l : Int) : Bool := isF F l && decide (0 ≤ t ∧ t ≤ 1099511627776)
def saysP (F : FaultC) (T : Int × Int → Option PostC) (G : Int → Option Int) (t l : Int) (p : PostC) : PostC :=
  if isF F l = false then p else if toldB F t l = false then ⟨0, []⟩ else kindP F (keepT T G t l p) (spellF F t l) t l p
def saysT (F : FaultC) (T : Int × Int → Option PostC) (G : Int → Option Int) (t l : Int) (p : PostC) : Int × Int → Option PostC := if toldB F t l = true then keepT T G t l p else T
def saysG (F : FaultC) (G : Int → Option Int) (t l : Int) : Int → Option Int := if toldB F t l = true then keepG G t l else G
theorem OldOut.says {T : Int × Int → Option PostC} {G : Int → Option Int} (h : OldOut T G) (F : FaultC) (t l : Int) (p : PostC) : OldOut (saysT F T G t l p) (saysG F G t l) := by
  unfold saysT saysG
  split
  · exact h.keep t l p
  · exact h
theorem isF_range {F : FaultC} (hF : FaultOk F) {l : Int} (h : isF F l = true) : 0 ≤ l ∧ l < 64 := by
  unfold isF at h
  simp only [Bool.and_eq_true, decide_eq_true_eq] at h
  have := hF.m
  omega
theorem spell_ok {F : FaultC} (hF : FaultOk F) (t l : Int) : SpellOk (spellF F t l) := by
  unfold spellF
  cases h : F.S.find? (inSp F.nd l t) with
  | none => exact ⟨rfl, rfl, rfl, rfl, rfl⟩
  | some s => exact hF.S s (List.mem_of_find?_eq_some h)
/-- What Says comes to. -/
def SaysR (M : Nat → Prop) (w : World) (pm bt bl c : Nat) (F : FaultC) (T' : Int × Int → Option PostC) (G' : Int → Option Int) (r : PostC) (e : Ending) (w' : World) : Prop :=
  ∃ v' lo hi f', e = .returned (.agg #[.int .u8 r.s, v']) ∧ w.heap.size ≤ lo ∧ lo ≤ hi ∧ hi ≤ w'.heap.size ∧ OwnWord 97 163 hi w' v' r.R ∧ MouthIs (fun k => M k ∨ (lo ≤ k ∧ k < hi)) w' pm bt bl (c + 1) f' F T' G' ∧ Touch [bt, bl] w w'
section
variable {M : Nat → Prop} {w : World} {pm bt bl c : Nat} {f : Int × Int → Option (Int × Option (Nat × Nat × Nat))} {F : FaultC} {T : Int × Int → Option PostC} {G : Int → Option Int}
theorem MouthIs.same (h : MouthIs M w pm bt bl c f F T G) (a : Nat) : MouthIs (fun k => M k ∨ (a ≤ k ∧ k < a)) w pm bt bl (c + 1) f F T G := by
  have e : (fun k => M k ∨ (a ≤ k ∧ k < a)) = M := by
    funext k
    apply propext
    constructor
    · rintro (h | h)
      · exact h
      · omega
    · exact .inl
  rw [e]
  exact h.mono (by omega)
set_option maxHeartbeats 2000000 in
theorem saysNot (h : MouthIs M w pm bt bl c f F T G) (hF : FaultOk F) (t l : Int) (p : PostC) (hp : PostOk p) (v : Value) (hw : WordAt 0 w v p.R) (hi : isF F l = false) :
    Calls Try.prog 17 #[.pointer (some ⟨pm, 0, none⟩), .int .i64 t, .int .i64 l, .agg #[.int .u8 p.s, v]] w fun e w' => SaysR M w pm bt bl c F (saysT F T G t l p) (saysG F G t l) (saysP F T G t l p) e w' := by
  have e0 : toldB F t l = false := by simp [toldB, hi]
  have eP : saysP F T G t l p = p := by simp [saysP, hi]
  have eT : saysT F T G t l p = T := by simp [saysT, e0]
  have eG : saysG F G t l = G := by simp [saysG, e0]
  rw [eP, eT, eG]
  clear eP eT eG e0
  have hv : ∃ a n k, v = .slice a n k := by obtain ⟨a, n, k, _, rfl, _⟩ := hw.len; exact ⟨a, n, k, rfl⟩
  obtain ⟨va, vn, vk, rfl⟩ := hv
  have hb1 : Below w.heap.size w ((w.alloc (.cells #[.int .u8 p.s, .slice va vn vk] 40)).alloc (.cells #[.int .u8 0, .slice none 0 0] 40)) := blk_alloc2 _ _
  have k0 : Blk ((w.alloc (.cells #[.int .u8 p.s, .slice va vn vk] 40)).alloc (.cells #[.int .u8 0, .slice none 0 0] 40)) w.heap.size #[.int .u8 p.s, .slice va vn vk] 40 := (Blk.new w _ _).alloc _
  have k1 : Blk ((w.alloc (.cells #[.int .u8 p.s, .slice va vn vk] 40)).alloc (.cells #[.int .u8 0, .slice none 0 0] 40)) (w.heap.size + 1) #[.int .u8 0, .slice none 0 0] 40 := by
    have := Blk.new (w.alloc (.cells #[.int .u8 p.s, .slice va vn vk] 40)) #[.int .u8 0, .slice none 0 0] 40
    simpa using this
  have hI := Lib.hid (isR (h.below hb1) hF l)
  rw [hi] at hI
  have P1 : Hid (∀ W, Below w.heap.size w W → Calls Try.prog 63 #[.agg #[.int .u8 p.s, .slice va vn vk]] W fun e w' => ∃ v', e = .returned (.agg #[.int .u8 p.s, v']) ∧ OwnWord 97 163 W.heap.size w' v' p.R ∧ Below W.heap.size W w') := fun W hW =>
    ownP W p.s _ p.R (hw.below hW) hp.R (by have := hp.n; omega) (fun r hr => by have := hp.t r hr; omega)
  replace h := Lib.hid h
  clear hw hF hi hp
  replace hb1 := Lib.hid hb1
  go_enter Try.func17, Try.ntmps17
  go_upto_region 1 with fail
  generalize (w.alloc (.cells #[.int .u8 p.s, .slice va vn vk] 40)).alloc (.cells #[.int .u8 0, .slice none 0 0] 40) = w1 at *
  have c0 := k0.cell (i := 0) rfl
  have c1 := k0.cell (i := 1) rfl
  have l0 := k0.lt
  have hP := Lib.hid (P1.out _ hb1.out)
  replace k1 := Lib.hid k1
  clear k0 P1
  go_wp2_with fail
  refine hI.out.mono ?_
  rintro e _ ⟨rfl, rfl⟩
  go_wp2_with fail
  refine hP.out.mono ?_
  rintro e w2 ⟨v', rfl, hO, hb2⟩
  obtain ⟨a, n, c', rfl⟩ : ∃ a n c, v' = .slice a n c := by
    rcases hO with ⟨rfl, _⟩ | ⟨_, _, _, _, rfl, _⟩
    · exact ⟨_, _, _, rfl⟩
    · exact ⟨_, _, _, rfl⟩
  have hbw := Lib.hid (hb1.out.trans (hb2.mono hb1.out.size))
  have k2 := Lib.hid (k1.out.below hb2 k1.out.lt)
  replace hO := Lib.hid (hO.mono hb1.out.size)
  have r0 := k2.out.cell (i := 0) rfl
  have r1 := k2.out.cell (i := 1) rfl
  have rf := k2.out.free
  have rl := k2.out.lt
  clear hb2 hP c0 c1 l0 hI k1
  go_wp2_with fail
  have hT : Touch [w.heap.size + 1] w2 ((w2.setCell ⟨w.heap.size + 1, 0, none⟩ (.int .u8 p.s)).setCell ⟨w.heap.size + 1, 1, none⟩ (.slice a n c')) := ((Touch.refl [w.heap.size + 1] w2).setCell (p := ⟨w.heap.size + 1, 0, none⟩) (.inl (by simp)) _).setCell (p := ⟨w.heap.size + 1, 1, none⟩) (.inl (by simp)) _
  have hbF : Below w.heap.size w ((w2.setCell ⟨w.heap.size + 1, 0, none⟩ (.int .u8 p.s)).setCell ⟨w.heap.size + 1, 1, none⟩ (.slice a n c')) := hT.below hbw.out hbw.out.size (by simp)
  refine postRet 8 (by kernel_rfl) (w.heap.size + 1) p.s _ rfl (((k2.out.set 0 (.int .u8 p.s)).set 1 (.slice a n c')).congr rfl) rfl ⟨.slice a n c', w.heap.size, w.heap.size, f, rfl, Nat.le_refl _, Nat.le_refl _, hbF.size, hO.out.blk (fun g c U hU hg => hg.touch hT (by
    simp only [List.mem_singleton]
    rcases hU with rfl | rfl
    · exact hg.ne k2.out (by decide)
    · exact hg.ne k2.out (by decide))), (h.out.below hbF).same _, Touch.of_below hbF (Nat.le_refl _) _⟩
end
end Go.Proofs.Ytmdohnbhogfopaa
