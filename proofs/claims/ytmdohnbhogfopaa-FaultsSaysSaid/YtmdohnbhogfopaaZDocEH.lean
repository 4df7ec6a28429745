/- Several texts, one behind the other: DocE DocF DocG DocH. -/
import Derived.Test.YtmdohnbhogfopaaZDocAD
/- Which spell it is, as the document has it. -/
namespace Go.Proofs.Ytmdohnbhogfopaa
open Go.RowKit Go.Maps
set_option linter.unusedSimpArgs false
set_option linter.unusedVariables false
set_option maxRecDepth 100000
theorem spellRowD : ∃ d, Try.prog.underlying 177 = some d ∧ (match d with | .struct _ | .array _ _ => true | _ => false) = true := ⟨_, Try.underlying177, rfl⟩
theorem spellSizeD : (Try.prog.info? 177).map (·.size) = some 5 := by kernel_rfl
theorem spellRetD {fn : Func} {Q : Ending → World → Prop} {a : Act} {W : World} (p : Tmp) (h : fn.results = #[.cell p 177]) (b : Nat) (x1 x2 x3 x4 x5 : Value) (hp : a.tmps.getD p undef = .pointer (some ⟨b, 0, none⟩)) (hb : Blk W b #[x1, x2, x3, x4, x5] 177) (hd : a.defers = [])
    (hQ : Q (.returned (.agg #[x1, x2, x3, x4, x5])) W) : bodyPost Try.prog fn Q .ret a W := by
  obtain ⟨d0, hd0, hd1⟩ := spellRowD
  exact bodyPost_ret (v := .agg #[x1, x2, x3, x4, x5]) (results_cell_row h _ _ b 177 _ (0, 0) d0 hp hb.out hd0 (by cases d0 <;> simp_all) (by rw [spellSizeD]; rfl)) hd hQ
theorem find_at {α : Type} {p : α → Bool} : ∀ {S : List α} {i : Nat} {s : α}, S[i]? = some s → p s = true → (∀ (j : Nat) (x : α), j < i → S[j]? = some x → p x = false) → S.find? p = some s
  | [], i, s, h, _, _ => by cases h
  | x :: S, 0, s, h, hp, _ => by
    simp at h
    subst h
    rw [List.find?_cons, hp]
  | x :: S, i + 1, s, h, hp, k => by
    rw [List.find?_cons, k 0 x (by omega) rfl]
    exact find_at (i := i) (by simpa using h) hp fun j y hj hy => k (j + 1) y (by omega) (by simpa using hy)
theorem find_no {α : Type} {p : α → Bool} {S : List α} (k : ∀ (j : Nat) (x : α), j < S.length → S[j]? = some x → p x = false) : S.find? p = none := by
  rw [List.find?_eq_none]
  intro x hx
  obtain ⟨i, hi, rfl⟩ := List.getElem_of_mem hx
  have := k i _ hi (List.getElem?_eq_getElem hi)
  simp [this]
theorem and_bit8 (q : Int) (h : 0 ≤ q ∧ q < 256) : bits .and .u8 q 1 = q % 2 := by
  obtain ⟨n, rfl⟩ : ∃ n : Nat, q = n := ⟨q.toNat, by omega⟩
  have h3 := bits_mask .u8 8 (by decide) (fun n hn hn' => by rw [IntKind.wrap_u8]; omega) 1 (by decide) (n : Int) (Int.natCast_nonneg _) (by rw [show ((2 : Int) ^ 8) = ((256 : Nat) : Int) from by decide]; omega)
  have h4 : ((2 : Int) ^ 1 - 1) = 1 := by decide
  rw [h4] at h3
  rw [h3]
  have : ((2 : Int) ^ 1) = 2 := by decide
  omega
theorem spFlat2_length (S : List SpellC) : (spFlat2 S).length = S.length * 5 := by
  induction S with
  | nil => rfl
  | cons s S ih =>
    unfold spFlat2 at ih ⊢
    simp only [List.map_cons, List.flatten_cons, List.length_append, List.length_cons, ih]
    simp [spL2]
    omega
theorem spFlat2_get {S : List SpellC} {i : Nat} {s : SpellC} (hi : S[i]? = some s) : ∀ j u, (spL2 s)[j]? = some u → (spFlat2 S)[i * 5 + j]? = some u := by
  induction S generalizing i with
  | nil => simp at hi
  | cons s' S ih =>
    intro j u hj
    have hl : (spL2 s').length = 5 := rfl
    unfold spFlat2 at ih ⊢
    rw [List.map_cons, List.flatten_cons]
    cases i with
    | zero =>
      simp at hi
      subst hi
      have := (List.getElem?_eq_some_iff.1 hj).1
      rw [List.getElem?_append_left (by omega)]
      simpa using hj
    | succ i =>
      rw [List.getElem?_append_right (by omega), hl]
      have := ih (by simpa using hi) j u hj
      rw [← this]
      congr 1
      omega
theorem own_cells {w : World} {B : Nat} {E : TypeId} {v : Value} {n z : Nat} {xs : List Value} (h : w.ownsRow B E z v n xs) (hn : 0 < n) : ∃ g cap, v = .slice (some ⟨g, 0, none⟩) n cap ∧ g < w.heap.size ∧ ∀ j u, xs[j]? = some u → w.cell? ⟨g, j, none⟩ = some u := by
  rcases h.2 with ⟨_, h0⟩ | ⟨g, cap, cur, h3, h4, h5, h6, h7, h8, h9⟩
  · omega
  · have hb : Blk w g cur E := h5
    refine ⟨g, cap, h3, hb.lt, fun j u hj => hb.cell ?_⟩
    rw [← h9, List.getElem?_take] at hj
    split at hj
    · simpa using hj
    · cases hj
theorem own_len {w : World} {B : Nat} {E : TypeId} {v : Value} {n z : Nat} {xs : List Value} (h : w.ownsRow B E z v n xs) : ∃ a c, v = .slice a n c := by
  rcases h.2 with ⟨rfl, rfl⟩ | ⟨g, cap, cur, h3, _⟩
  · exact ⟨_, _, rfl⟩
  · exact ⟨_, _, h3⟩
def InvSpD (w w1 : World) (F : FaultC) (pd : Nat) (l t : Int) (n : Nat) (k : Nat) (a : Act) (wr : World) : Prop :=
  ∃ i, i + k = n ∧ Hid (∀ (j : Nat) (s : SpellC), j < i → F.S[j]? = some s → inSp F.nd l t s = false) ∧ Hid (Below w1.heap.size w1 wr) ∧ a.tmps.size = 58 ∧ a.defers = [] ∧ slot a 0 = .pointer (some ⟨pd, 0, none⟩) ∧ slot a 1 = .int .i64 t ∧ slot a 2 = .int .i64 l ∧ slot a 6 = .pointer (some ⟨w.heap.size, 0, none⟩) ∧ slot a 7 = .int .i64 i
set_option maxHeartbeats 4000000 in
theorem spellD {B : Nat} {w : World} {pd : Nat} {F : FaultC} {L : List ToldC} {av : Value} (h : DocIs B w pd F L av) (hF : FaultOk F) (l t : Int) (hl : 0 ≤ l ∧ l < 64) :
    Calls Try.prog 80 #[.pointer (some ⟨pd, 0, none⟩), .int .i64 t, .int .i64 l] w fun e w' => e = .returned (.agg (spL2 (spellF F t l)).toArray) ∧ Below w.heap.size w w' := by
  obtain ⟨sv, hb, hown⟩ := h.blk
  have hn := hF.n
  obtain ⟨va, vc, rfl⟩ := own_len hown
  have hS := Lib.hid hF.S
  have hndk := Lib.hid hF.nd
  have hb1 := below_alloc w (.cells #[.int .i64 0, .int .i64 0, .int .u8 0, .int .i64 0, .int .u64 0] 177)
  have kr : Blk (w.alloc (.cells #[.int .i64 0, .int .i64 0, .int .u8 0, .int .i64 0, .int .u64 0] 177)) w.heap.size #[.int .i64 0, .int .i64 0, .int .u8 0, .int .i64 0, .int .u64 0] 177 := Blk.new _ _ _
  have kb1 := hb.below hb1 hb.lt
  have ow1 : (w.alloc (.cells #[.int .i64 0, .int .i64 0, .int .u8 0, .int .i64 0, .int .u64 0] 177)).ownsRow B 177 5 (.slice va F.S.length vc) F.S.length (spFlat2 F.S) := ownsRow_keepB hown fun g c _ hg => hg.below hb1 hg.lt
  clear h hF hown hb
  replace hb1 := Lib.hid hb1
  go_enter Try.func80, Try.ntmps80
  go_upto_region 1 with fail
  generalize w.alloc (.cells #[.int .i64 0, .int .i64 0, .int .u8 0, .int .i64 0, .int .u64 0] 177) = w1 at *
  replace kr := Lib.hid kr
  replace kb1 := Lib.hid kb1
  replace ow1 := Lib.hid ow1
  go_wp2_with fail
  refine wp_loop_k (InvSpD w w1 F pd l t F.S.length) F.S.length ?_ ?_
  · exact ⟨0, by omega, fun j s hj => by omega, Below.refl _ _, by kernel_rfl, rfl, by kernel_rfl, by kernel_rfl, by kernel_rfl, by kernel_rfl, by kernel_rfl⟩
  intro gk a wr hI K hK
  obtain ⟨i, hi0, hno, hb, hs', hd', k0', k1', k2', k6', k7'⟩ := hI
  rw [fr58 a hs' hd']; simp only [k0', k1', k2', k6', k7']; clear hs' hd' k0' k1' k2' k6' k7'
  have kb := kb1.out.below hb.out kb1.out.lt
  have c1 : wr.cell? ⟨pd, 1, none⟩ = some (.int .i64 F.nd) := kb.cell (i := 1) rfl
  have c3 : wr.cell? ⟨pd, 3, none⟩ = some (.slice va F.S.length vc) := kb.cell (i := 3) rfl
  have lb := kb.lt
  have krr := kr.out.below hb.out kr.out.lt
  clear kb
  replace hK := Lib.hid hK
  by_cases hlt : i < F.S.length
  · have g1 : decide ((i : Int) < (F.S.length : Int)) = true := by simp; omega
    have g2 : (i : Int) < (F.S.length : Int) := by omega
    have g3 : IntKind.i64.wrap ((i : Int) + 1) = ((i + 1 : Nat) : Int) := by rw [wrap_i64_small _ (by omega) (by omega)]; omega
    obtain ⟨s, hs⟩ : ∃ s, F.S[i]? = some s := ⟨_, List.getElem?_eq_getElem hlt⟩
    have hok := hS.out s (List.mem_of_getElem? hs)
    obtain ⟨g, cap, e, lg, hc⟩ := own_cells ow1.out (by omega)
    simp only [Value.slice.injEq] at e
    obtain ⟨rfl, -, rfl⟩ := e
    have hc' : ∀ j u, (spL2 s)[j]? = some u → wr.cell? ⟨g, i * 5 + j, none⟩ = some u := fun j u hj => by
      have h0 := hc _ _ (spFlat2_get hs j u hj)
      exact below_cell h0 hb.out (World.block_lt_of_cell? w1 _ h0)
    have f0 : wr.cell? ⟨g, i * 5, none⟩ = some (.int .i64 s.fr) := hc' 0 _ rfl
    have f1 : wr.cell? ⟨g, i * 5 + 1, none⟩ = some (.int .i64 s.til) := hc' 1 _ rfl
    have f2 : wr.cell? ⟨g, i * 5 + 2, none⟩ = some (.int .u8 s.lk) := hc' 2 _ rfl
    have f3 : wr.cell? ⟨g, i * 5 + 3, none⟩ = some (.int .i64 s.kd) := hc' 3 _ rfl
    have f4 : wr.cell? ⟨g, i * 5 + 4, none⟩ = some (.int .u64 s.sd) := hc' 4 _ rfl
    clear hc hc'
    have lgr : g < wr.heap.size := Nat.lt_of_lt_of_le lg hb.out.size
    have hlk := wf_u8 hok.lk
    have hq : 0 ≤ s.lk / 2 ^ (l % 4).toNat ∧ s.lk / 2 ^ (l % 4).toNat < 256 := by
      have hp : (0 : Int) < 2 ^ (l % 4).toNat := Int.pow_pos (by omega)
      refine ⟨Int.ediv_nonneg hlk.1 (by omega), ?_⟩
      have := Int.ediv_le_self (2 ^ (l % 4).toNat : Int) hlk.1
      omega
    have hbit : (s.lk / 2 ^ (l % 4).toNat % 2 == 1) = bitB s.lk l := by
      unfold bitB
      rw [and_bit8 _ hq]
    have hin : inSp F.nd l t s = (decide (s.fr ≤ t ∧ t < s.til) && (decide (F.nd = -1) || bitB s.lk l)) := rfl
    rw [← hbit] at hin
    clear hbit
    have e1 : Int.tmod (s.lk / 2 ^ (l % 4).toNat) 2 = s.lk / 2 ^ (l % 4).toNat % 2 := Int.tmod_eq_emod_of_nonneg hq.1
    have e2 : IntKind.u8.wrap (s.lk / 2 ^ (l % 4).toNat % 2) = s.lk / 2 ^ (l % 4).toNat % 2 := by rw [IntKind.wrap_u8]; omega
    have hb5 : Hid (Below w1.heap.size w1 (wr.alloc (.cells #[.int .i64 s.fr, .int .i64 s.til, .int .u8 s.lk, .int .i64 s.kd, .int .u64 s.sd] 177))) := bthen hb.out (below_alloc _ _)
    have k5 : Blk (wr.alloc (.cells #[.int .i64 s.fr, .int .i64 s.til, .int .u8 s.lk, .int .i64 s.kd, .int .u64 s.sd] 177)) wr.heap.size #[.int .i64 s.fr, .int .i64 s.til, .int .u8 s.lk, .int .i64 s.kd, .int .u64 s.sd] 177 := Blk.new _ _ _
    have c1' := below_cell c1 (below_alloc wr (.cells #[.int .i64 s.fr, .int .i64 s.til, .int .u8 s.lk, .int .i64 s.kd, .int .u64 s.sd] 177)) lb
    go_upto_region 5 with fail
    clear f0 f1 f2 f3 f4 c3 c1
    replace krr := krr.alloc (.cells #[.int .i64 s.fr, .int .i64 s.til, .int .u8 s.lk, .int .i64 s.kd, .int .u64 s.sd] 177)
    have lb5 : pd < (wr.alloc (.cells #[.int .i64 s.fr, .int .i64 s.til, .int .u8 s.lk, .int .i64 s.kd, .int .u64 s.sd] 177)).heap.size := by simp; omega
    generalize wr.alloc (.cells #[.int .i64 s.fr, .int .i64 s.til, .int .u8 s.lk, .int .i64 s.kd, .int .u64 s.sd] 177) = w5 at *
    generalize wr.heap.size = b5 at *
    clear hb
    have f0 := k5.cell (i := 0) rfl
    have f1 := k5.cell (i := 1) rfl
    have f2 := k5.cell (i := 2) rfl
    have f3 := k5.cell (i := 3) rfl
    have f4 := k5.cell (i := 4) rfl
    have l5 := k5.lt
    have fr := krr.free
    have r0 := krr.cell (i := 0) rfl
    have r1 := krr.cell (i := 1) rfl
    have r2 := krr.cell (i := 2) rfl
    have r3 := krr.cell (i := 3) rfl
    have r4 := krr.cell (i := 4) rfl
    have lr := krr.lt
    replace krr := Lib.hid krr
    clear k5 lgr lb lg
    by_cases z1 : s.fr ≤ t
    · have y1 : decide (s.fr ≤ t) = true := by simp [z1]
      by_cases z2 : t < s.til
      · have y2 : decide (t < s.til) = true := by simp [z2]
        have y12 : decide (s.fr ≤ t ∧ t < s.til) = true := by simp [z1, z2]
        by_cases z3 : F.nd < 0
        · have y3 : decide (F.nd < 0) = true := by simp [z3]
          have y4 : decide (F.nd = -1) = true := by have := hndk.out; simp; omega
          rw [y12, y4] at hin
          simp only [Bool.true_or, Bool.and_self] at hin
          clear z1 z2 z3 y4 y12
          have hfd := find_at (p := inSp F.nd l t) hs hin (fun j x hj hx => hno.out j x hj hx)
          have hsp : Hid (spellF F t l = s) := by
            have : spellF F t l = s := by unfold spellF; rw [hfd]; rfl
            exact this
          clear hfd hin
          go_wp2_with fail
          refine spellRetD 6 (by kernel_rfl) w.heap.size _ _ _ _ _ rfl (((((((krr.out.set 0 (.int .i64 s.fr)).set 1 (.int .i64 s.til)).set 2 (.int .u8 s.lk)).set 3 (.int .i64 s.kd)).set 4 (.int .u64 s.sd))).congr rfl) rfl ⟨by rw [hsp.out]; rfl, ?_⟩
          exact (Touch.below (((((((Touch.refl [w.heap.size] w5).setCell (p := ⟨w.heap.size, 0, none⟩) (.inl (by simp)) _).setCell (p := ⟨w.heap.size, 1, none⟩) (.inl (by simp)) _).setCell (p := ⟨w.heap.size, 2, none⟩) (.inl (by simp)) _).setCell (p := ⟨w.heap.size, 3, none⟩) (.inl (by simp)) _).setCell (p := ⟨w.heap.size, 4, none⟩) (.inl (by simp)) _)) (bthen hb1.out hb5.out) (bthen hb1.out hb5.out).size (by simp))
        · have y3 : decide (F.nd < 0) = false := by simp; omega
          have y4 : decide (F.nd = -1) = false := by simp; omega
          rw [y12, y4] at hin
          cases y5 : (s.lk / 2 ^ (l % 4).toNat % 2 == 1) with
          | true =>
            rw [y5] at hin
            simp only [Bool.false_or, Bool.and_self] at hin
            clear z1 z2 z3 y4 y12
            have hfd := find_at (p := inSp F.nd l t) hs hin (fun j x hj hx => hno.out j x hj hx)
            have hsp : Hid (spellF F t l = s) := by
              have : spellF F t l = s := by unfold spellF; rw [hfd]; rfl
              exact this
            clear hfd hin
            go_wp2_with fail
            refine spellRetD 6 (by kernel_rfl) w.heap.size _ _ _ _ _ rfl (((((((krr.out.set 0 (.int .i64 s.fr)).set 1 (.int .i64 s.til)).set 2 (.int .u8 s.lk)).set 3 (.int .i64 s.kd)).set 4 (.int .u64 s.sd))).congr rfl) rfl ⟨by rw [hsp.out]; rfl, ?_⟩
            exact (Touch.below (((((((Touch.refl [w.heap.size] w5).setCell (p := ⟨w.heap.size, 0, none⟩) (.inl (by simp)) _).setCell (p := ⟨w.heap.size, 1, none⟩) (.inl (by simp)) _).setCell (p := ⟨w.heap.size, 2, none⟩) (.inl (by simp)) _).setCell (p := ⟨w.heap.size, 3, none⟩) (.inl (by simp)) _).setCell (p := ⟨w.heap.size, 4, none⟩) (.inl (by simp)) _)) (bthen hb1.out hb5.out) (bthen hb1.out hb5.out).size (by simp))
          | false =>
            rw [y5] at hin
            simp only [Bool.false_or, Bool.and_false] at hin
            clear z1 z2 z3 y4 y12
            have hno2 : Hid (∀ (j : Nat) (x : SpellC), j < i + 1 → F.S[j]? = some x → inSp F.nd l t x = false) := fun j x hj hx => by
              by_cases hji : j < i
              · exact hno.out j x hji hx
              · obtain rfl : j = i := by omega
                rw [hs] at hx
                cases hx
                exact hin
            go_wp2_with fail
            exact hK.out (F.S.length - (i + 1)) _ _ (by omega) ⟨i + 1, by omega, hno2, hb5, by kernel_rfl, rfl, by kernel_rfl, by kernel_rfl, by kernel_rfl, by kernel_rfl, by kernel_rfl⟩
      · have y2 : decide (t < s.til) = false := by simp; omega
        have y12 : decide (s.fr ≤ t ∧ t < s.til) = false := by simp; omega
        rw [y12, Bool.false_and] at hin
        clear z1 z2 y12
        have hno2 : Hid (∀ (j : Nat) (x : SpellC), j < i + 1 → F.S[j]? = some x → inSp F.nd l t x = false) := fun j x hj hx => by
          by_cases hji : j < i
          · exact hno.out j x hji hx
          · obtain rfl : j = i := by omega
            rw [hs] at hx
            cases hx
            exact hin
        go_wp2_with fail
        exact hK.out (F.S.length - (i + 1)) _ _ (by omega) ⟨i + 1, by omega, hno2, hb5, by kernel_rfl, rfl, by kernel_rfl, by kernel_rfl, by kernel_rfl, by kernel_rfl, by kernel_rfl⟩
    · have y1 : decide (s.fr ≤ t) = false := by simp; omega
      have y12 : decide (s.fr ≤ t ∧ t < s.til) = false := by simp; omega
      rw [y12, Bool.false_and] at hin
      clear z1 y12
      have hno2 : Hid (∀ (j : Nat) (x : SpellC), j < i + 1 → F.S[j]? = some x → inSp F.nd l t x = false) := fun j x hj hx => by
        by_cases hji : j < i
        · exact hno.out j x hji hx
        · obtain rfl : j = i := by omega
          rw [hs] at hx
          cases hx
          exact hin
      go_wp2_with fail
      exact hK.out (F.S.length - (i + 1)) _ _ (by omega) ⟨i + 1, by omega, hno2, hb5, by kernel_rfl, rfl, by kernel_rfl, by kernel_rfl, by kernel_rfl, by kernel_rfl, by kernel_rfl⟩
  have g1 : decide ((i : Int) < (F.S.length : Int)) = false := by simp; omega
  have g2 : ¬ (i : Int) < (F.S.length : Int) := by omega
  have hsp : Hid (spellF F t l = noSpell) := by
    have : spellF F t l = noSpell := by
      unfold spellF
      rw [find_no (fun j x hj hx => hno.out j x (by omega) hx)]
      rfl
    exact this
  have fr := krr.free
  have r0 := krr.cell (i := 0) rfl
  have r1 := krr.cell (i := 1) rfl
  have r2 := krr.cell (i := 2) rfl
  have r3 := krr.cell (i := 3) rfl
  have r4 := krr.cell (i := 4) rfl
  have lr := krr.lt
  replace krr := Lib.hid krr
  go_wp2_with fail
  refine spellRetD 6 (by kernel_rfl) w.heap.size _ _ _ _ _ rfl (((((((krr.out.set 0 (.int .i64 0)).set 1 (.int .i64 0)).set 2 (.int .u8 0)).set 3 (.int .i64 0)).set 4 (.int .u64 0))).congr rfl) rfl ⟨by rw [hsp.out]; rfl, ?_⟩
  exact (Touch.below (((((((Touch.refl [w.heap.size] wr).setCell (p := ⟨w.heap.size, 0, none⟩) (.inl (by simp)) _).setCell (p := ⟨w.heap.size, 1, none⟩) (.inl (by simp)) _).setCell (p := ⟨w.heap.size, 2, none⟩) (.inl (by simp)) _).setCell (p := ⟨w.heap.size, 3, none⟩) (.inl (by simp)) _).setCell (p := ⟨w.heap.size, 4, none⟩) (.inl (by simp)) _)) (bthen hb1.out hb.out) (bthen hb1.out hb.out).size (by simp))
end Go.Proofs.Ytmdohnbhogfopaa
/- What it should have said, as the document has it. -/
namespace Go.Proofs.Ytmdohnbhogfopaa
open Go.RowKit Go.Maps
set_option linter.unusedSimpArgs false
set_option linter.unusedVariables false
set_option maxRecDepth 100000
def stepS (t l : Int) (st : Int × PostC) (x : ToldC) : Int × PostC :=
  if x.l ≠ l then st else
    ((if st.1 < x.t then x.t else st.1), if x.t = t ∧ (if st.1 < x.t then x.t else st.1) - 64 < t then x.p else st.2)
def foldS (L : List ToldC) (t l : Int) : Int × PostC := L.foldl (stepS t l) (-1, ⟨0, []⟩)
def shouldF (L : List ToldC) (t l : Int) : PostC := if t ≤ (foldS L t l).1 - 64 then ⟨0, []⟩ else (foldS L t l).2
theorem foldS_more {L : List ToldC} {i : Nat} {x : ToldC} (h : L[i]? = some x) (t l : Int) : foldS (L.take (i + 1)) t l = stepS t l (foldS (L.take i) t l) x := by
  unfold foldS
  rw [List.take_add_one, h]
  simp
theorem foldS_range {L : List ToldC} (h : ∀ x ∈ L, 0 ≤ x.t ∧ x.t ≤ 1099511627776) (t l : Int) : -1 ≤ (foldS L t l).1 ∧ (foldS L t l).1 ≤ 1099511627776 := by
  unfold foldS
  have : ∀ (L : List ToldC) (st : Int × PostC), (∀ x ∈ L, 0 ≤ x.t ∧ x.t ≤ 1099511627776) → -1 ≤ st.1 ∧ st.1 ≤ 1099511627776 → -1 ≤ (L.foldl (stepS t l) st).1 ∧ (L.foldl (stepS t l) st).1 ≤ 1099511627776 := by
    intro L
    induction L with
    | nil => intro st _ h; exact h
    | cons x L ih =>
      intro st hx h
      rw [List.foldl_cons]
      refine ih _ (fun y hy => hx y (by simp [hy])) ?_
      have := hx x (by simp)
      unfold stepS
      split
      · exact h
      · simp only
        split <;> omega
  exact this L _ h (by simp)
theorem toldFlat_get {L : List ToldC} {vs : List Value} (h : vs.length = L.length) {i : Nat} {x : ToldC} {v : Value} (hx : L[i]? = some x) (hv : vs[i]? = some v) : ∀ j u, (toldL x v)[j]? = some u → (toldFlat L vs)[i * 4 + j]? = some u := by
  induction L generalizing vs i with
  | nil => cases hx
  | cons x' L ih =>
    cases vs with
    | nil => cases hv
    | cons v' vs =>
      intro j u hj
      have hl : (toldL x' v').length = 4 := rfl
      unfold toldFlat at ih ⊢
      rw [List.zipWith_cons_cons, List.flatten_cons]
      cases i with
      | zero =>
        simp at hx hv
        subst hx hv
        have := (List.getElem?_eq_some_iff.1 hj).1
        rw [List.getElem?_append_left (by omega)]
        simpa using hj
      | succ i =>
        rw [List.getElem?_append_right (by omega), hl]
        have := ih (by simpa using h) (by simpa using hx) (by simpa using hv) j u hj
        rw [← this]
        congr 1
        omega
/-- In the loop: the mouth, the result's box, what was found. -/
structure ShAt (B : Nat) (w : World) (pd : Nat) (F : FaultC) (L : List ToldC) (av : Value) (q : PostC) (W : World) : Prop where
  bel : Below w.heap.size w W
  doc : DocIs B W pd F L av
  res : Blk W w.heap.size #[.int .u8 0, .slice none 0 0] 77
  box : ∃ v, Blk W (w.heap.size + 1) #[.int .u8 q.s, v] 77 ∧ OwnWord 167 204 B W v q.R
theorem ShAt.setP {B : Nat} {w : World} {pd : Nat} {F : FaultC} {L : List ToldC} {av : Value} {q : PostC} {W : World} (h : ShAt B w pd F L av q W) (p : PostC) (v : Value) (hv : OwnWord 167 204 B W v p.R) :
    ShAt B w pd F L av p ((W.setCell ⟨w.heap.size + 1, 0, none⟩ (.int .u8 p.s)).setCell ⟨w.heap.size + 1, 1, none⟩ v) := by
  obtain ⟨u, k, _⟩ := h.box
  have hT : Touch [w.heap.size + 1] W ((W.setCell ⟨w.heap.size + 1, 0, none⟩ (.int .u8 p.s)).setCell ⟨w.heap.size + 1, 1, none⟩ v) := ((Touch.refl [w.heap.size + 1] W).setCell (p := ⟨w.heap.size + 1, 0, none⟩) (.inl (by simp)) _).setCell (p := ⟨w.heap.size + 1, 1, none⟩) (.inl (by simp)) _
  obtain ⟨sv, g1, g2⟩ := h.doc.blk
  obtain ⟨vs, g3, g4, g5⟩ := h.doc.all
  have hk : ∀ b c U, Blk W b c U → U ≠ 77 → Blk ((W.setCell ⟨w.heap.size + 1, 0, none⟩ (.int .u8 p.s)).setCell ⟨w.heap.size + 1, 1, none⟩ v) b c U := fun b c U hb hU => hb.touch hT (by simpa using hb.ne k hU)
  refine ⟨hT.below h.bel h.bel.size (by simp), ⟨⟨sv, hk _ _ _ g1 (by decide), ownsRow_keepB g2 fun g c _ hg => hk _ _ _ hg (by decide)⟩, ⟨vs, g3, ownsRow_keepB g4 fun g c _ hg => hk _ _ _ hg (by decide), fun j x v hj hv => (g5 j x v hj hv).blk fun g c U hU hg => hk _ _ _ hg (by rcases hU with rfl | rfl <;> decide)⟩, h.doc.pd, h.doc.ok⟩, h.res.touch hT (by simp), v, ((k.set 0 (.int .u8 p.s)).set 1 v).congr rfl, hv.blk fun g c U hU hg => hk _ _ _ hg (by rcases hU with rfl | rfl <;> decide)⟩
def InvSh (B : Nat) (w : World) (pd : Nat) (F : FaultC) (L : List ToldC) (av : Value) (t l : Int) (n : Nat) (k : Nat) (a : Act) (wr : World) : Prop :=
  ∃ (i : Nat) (st : Int × PostC), i + k = n ∧ Hid (foldS (L.take i) t l = st) ∧ Hid (ShAt B w pd F L av st.2 wr) ∧ a.tmps.size = 78 ∧ a.defers = [] ∧ slot a 0 = .pointer (some ⟨pd, 0, none⟩) ∧ slot a 1 = .int .i64 t ∧ slot a 2 = .int .i64 l ∧ slot a 6 = .pointer (some ⟨w.heap.size, 0, none⟩) ∧ slot a 7 = .int .i64 st.1 ∧ slot a 8 = .pointer (some ⟨w.heap.size + 1, 0, none⟩) ∧ slot a 9 = .int .i64 i
set_option maxHeartbeats 8000000 in
theorem shouldD {B : Nat} {w : World} {pd : Nat} {F : FaultC} {L : List ToldC} {av : Value} (h : DocIs B w pd F L av) (hn : L.length ≤ 1000) (t l : Int) :
    Calls Try.prog 83 #[.pointer (some ⟨pd, 0, none⟩), .int .i64 t, .int .i64 l] w fun e w' => ∃ v, e = .returned (.agg #[.int .u8 (shouldF L t l).s, v]) ∧ OwnWord 167 204 B w' v (shouldF L t l).R ∧ Below w.heap.size w w' := by
  have hok := Lib.hid h.ok
  obtain ⟨va, vc, rfl⟩ := own_len h.all.choose_spec.2.1
  have hsh : Hid (ShAt B w pd F L (.slice va L.length vc) ⟨0, []⟩ ((w.alloc (.cells #[.int .u8 0, .slice none 0 0] 77)).alloc (.cells #[.int .u8 0, .slice none 0 0] 77))) := by
    refine ⟨blk_alloc2 _ _, h.below (blk_alloc2 _ _), (Blk.new _ _ _).alloc _, .slice none 0 0, ?_, .inl ⟨rfl, rfl⟩⟩
    have := Blk.new (w.alloc (.cells #[.int .u8 0, .slice none 0 0] 77)) #[.int .u8 0, .slice none 0 0] 77
    simpa using this
  clear h
  go_enter Try.func83, Try.ntmps83
  go_wp2_with fail
  refine wp_loop_k (InvSh B w pd F L (.slice va L.length vc) t l L.length) L.length ?_ ?_
  · exact ⟨0, (-1, ⟨0, []⟩), by omega, rfl, hsh, by kernel_rfl, rfl, by kernel_rfl, by kernel_rfl, by kernel_rfl, by kernel_rfl, by kernel_rfl, by kernel_rfl, by kernel_rfl⟩
  clear hsh
  intro gk a wr hI K hK
  obtain ⟨i, st, hi0, hfo, hsh, hs', hd', k0', k1', k2', k6', k7', k8', k9'⟩ := hI
  rw [fr78 a hs' hd']; simp only [k0', k1', k2', k6', k7', k8', k9']; clear hs' hd' k0' k1' k2' k6' k7' k8' k9'
  obtain ⟨sv, kb, -⟩ := hsh.out.doc.blk
  have c4 : wr.cell? ⟨pd, 4, none⟩ = some (.slice va L.length vc) := kb.cell (i := 4) rfl
  have lb := kb.lt
  clear kb
  replace hK := Lib.hid hK
  have hrg := foldS_range (L := L.take i) (fun x hx => (hok.out x (List.mem_of_mem_take hx)).2) t l
  rw [hfo.out] at hrg
  by_cases hlt : i < L.length
  · have g1 : decide ((i : Int) < (L.length : Int)) = true := by simp; omega
    have g2 : (i : Int) < (L.length : Int) := by omega
    have g3 : IntKind.i64.wrap ((i : Int) + 1) = ((i + 1 : Nat) : Int) := by rw [wrap_i64_small _ (by omega) (by omega)]; omega
    obtain ⟨x, hx⟩ : ∃ x, L[i]? = some x := ⟨_, List.getElem?_eq_getElem hlt⟩
    have hxr := (hok.out x (List.mem_of_getElem? hx)).2
    obtain ⟨vs, hvl, how, hvo⟩ := hsh.out.doc.all
    obtain ⟨v', hv'⟩ : ∃ v, vs[i]? = some v := ⟨_, List.getElem?_eq_getElem (by omega)⟩
    have hov := Lib.hid (hvo i x v' hx hv')
    obtain ⟨ua, un, uc, rfl⟩ := hov.out.sl
    obtain ⟨g, cap, e, lg, hc⟩ := own_cells how (by omega)
    simp only [Value.slice.injEq] at e
    obtain ⟨rfl, -, rfl⟩ := e
    have f0 : wr.cell? ⟨g, i * 4, none⟩ = some (.int .i64 x.l) := hc _ _ (toldFlat_get hvl hx hv' 0 _ rfl)
    have f1 : wr.cell? ⟨g, i * 4 + 1, none⟩ = some (.int .i64 x.t) := hc _ _ (toldFlat_get hvl hx hv' 1 _ rfl)
    have f2 : wr.cell? ⟨g, i * 4 + 2, none⟩ = some (.int .u8 x.p.s) := hc _ _ (toldFlat_get hvl hx hv' 2 _ rfl)
    have f3 : wr.cell? ⟨g, i * 4 + 3, none⟩ = some (.slice ua un uc) := hc _ _ (toldFlat_get hvl hx hv' 3 _ rfl)
    have hstep : ∀ {s2}, stepS t l st x = s2 → Hid (foldS (L.take (i + 1)) t l = s2) := fun h => by
      have := foldS_more hx t l
      rw [hfo.out, h] at this
      exact this
    obtain ⟨bv, kx, -⟩ := hsh.out.box
    have p0 : wr.cell? ⟨w.heap.size + 1, 0, none⟩ = some (.int .u8 st.2.s) := kx.cell (i := 0) rfl
    have p1 : wr.cell? ⟨w.heap.size + 1, 1, none⟩ = some bv := kx.cell (i := 1) rfl
    have pf := kx.free
    have pl := kx.lt
    clear hc how hvo hvl hv' kx
    by_cases hxl : x.l = l
    · have y1 : (x.l != l) = false := by simp [hxl]
      by_cases z2 : st.1 < x.t
      · have y2 : decide (st.1 < x.t) = true := by simp [z2]
        have zz : (if st.1 < x.t then x.t else st.1) = x.t := if_pos z2
        clear z2
        have y6 : IntKind.i64.wrap (x.t - 64) = x.t - 64 := wrapI _ (by omega) (by omega)
        by_cases zt : x.t = t
        · have y3 : (x.t == t) = true := by simp [zt]
          by_cases z4 : x.t - 64 < t
          · have y4 : decide (x.t - 64 < t) = true := by simp [z4]
            have hst : Hid (foldS (L.take (i + 1)) t l = (x.t, x.p)) := hstep (by unfold stepS; rw [if_neg (by simp [hxl])]; simp only [zz]; rw [if_pos ⟨zt, z4⟩])
            clear z4 zt zz
            go_wp2_with fail
            have hS := Lib.hid (hsh.out.setP x.p _ hov.out)
            exact hK.out (L.length - (i + 1)) _ _ (by omega) ⟨i + 1, (x.t, x.p), by omega, hst, hS, by kernel_rfl, rfl, by kernel_rfl, by kernel_rfl, by kernel_rfl, by kernel_rfl, by kernel_rfl, by kernel_rfl, by kernel_rfl⟩
          · have y4 : decide (x.t - 64 < t) = false := by simp; omega
            have hst : Hid (foldS (L.take (i + 1)) t l = (x.t, st.2)) := hstep (by unfold stepS; rw [if_neg (by simp [hxl])]; simp only [zz]; rw [if_neg (fun h => z4 h.2)])
            clear z4 zt zz
            go_wp2_with fail
            exact hK.out (L.length - (i + 1)) _ _ (by omega) ⟨i + 1, (x.t, st.2), by omega, hst, hsh, by kernel_rfl, rfl, by kernel_rfl, by kernel_rfl, by kernel_rfl, by kernel_rfl, by kernel_rfl, by kernel_rfl, by kernel_rfl⟩
        · have y3 : (x.t == t) = false := by simp [zt]
          have hst : Hid (foldS (L.take (i + 1)) t l = (x.t, st.2)) := hstep (by unfold stepS; rw [if_neg (by simp [hxl])]; simp only [zz]; rw [if_neg (fun h => zt h.1)])
          clear zt zz
          go_wp2_with fail
          exact hK.out (L.length - (i + 1)) _ _ (by omega) ⟨i + 1, (x.t, st.2), by omega, hst, hsh, by kernel_rfl, rfl, by kernel_rfl, by kernel_rfl, by kernel_rfl, by kernel_rfl, by kernel_rfl, by kernel_rfl, by kernel_rfl⟩
      · have y2 : decide (st.1 < x.t) = false := by simp; omega
        have zz : (if st.1 < x.t then x.t else st.1) = st.1 := if_neg z2
        clear z2
        have y6 : IntKind.i64.wrap (st.1 - 64) = st.1 - 64 := wrapI _ (by omega) (by omega)
        by_cases zt : x.t = t
        · have y3 : (x.t == t) = true := by simp [zt]
          by_cases z4 : st.1 - 64 < t
          · have y4 : decide (st.1 - 64 < t) = true := by simp [z4]
            have hst : Hid (foldS (L.take (i + 1)) t l = (st.1, x.p)) := hstep (by unfold stepS; rw [if_neg (by simp [hxl])]; simp only [zz]; rw [if_pos ⟨zt, z4⟩])
            clear z4 zt zz
            go_wp2_with fail
            have hS := Lib.hid (hsh.out.setP x.p _ hov.out)
            exact hK.out (L.length - (i + 1)) _ _ (by omega) ⟨i + 1, (st.1, x.p), by omega, hst, hS, by kernel_rfl, rfl, by kernel_rfl, by kernel_rfl, by kernel_rfl, by kernel_rfl, by kernel_rfl, by kernel_rfl, by kernel_rfl⟩
          · have y4 : decide (st.1 - 64 < t) = false := by simp; omega
            have hst : Hid (foldS (L.take (i + 1)) t l = (st.1, st.2)) := hstep (by unfold stepS; rw [if_neg (by simp [hxl])]; simp only [zz]; rw [if_neg (fun h => z4 h.2)])
            clear z4 zt zz
            go_wp2_with fail
            exact hK.out (L.length - (i + 1)) _ _ (by omega) ⟨i + 1, (st.1, st.2), by omega, hst, hsh, by kernel_rfl, rfl, by kernel_rfl, by kernel_rfl, by kernel_rfl, by kernel_rfl, by kernel_rfl, by kernel_rfl, by kernel_rfl⟩
        · have y3 : (x.t == t) = false := by simp [zt]
          have hst : Hid (foldS (L.take (i + 1)) t l = (st.1, st.2)) := hstep (by unfold stepS; rw [if_neg (by simp [hxl])]; simp only [zz]; rw [if_neg (fun h => zt h.1)])
          clear zt zz
          go_wp2_with fail
          exact hK.out (L.length - (i + 1)) _ _ (by omega) ⟨i + 1, (st.1, st.2), by omega, hst, hsh, by kernel_rfl, rfl, by kernel_rfl, by kernel_rfl, by kernel_rfl, by kernel_rfl, by kernel_rfl, by kernel_rfl, by kernel_rfl⟩
    · have y1 : (x.l != l) = true := by simp [hxl]
      have hst := hstep (by unfold stepS; rw [if_pos hxl])
      go_wp2_with fail
      exact hK.out (L.length - (i + 1)) _ _ (by omega) ⟨i + 1, st, by omega, hst, hsh, by kernel_rfl, rfl, by kernel_rfl, by kernel_rfl, by kernel_rfl, by kernel_rfl, by kernel_rfl, by kernel_rfl, by kernel_rfl⟩
  have g1 : decide ((i : Int) < (L.length : Int)) = false := by simp; omega
  have g2 : ¬ (i : Int) < (L.length : Int) := by omega
  have hfull : foldS L t l = st := by
    have := hfo.out
    rwa [List.take_of_length_le (by omega)] at this
  have y6 : IntKind.i64.wrap (st.1 - 64) = st.1 - 64 := wrapI _ (by omega) (by omega)
  have hres := hsh.out.res
  have rf := hres.free
  have r0 := hres.cell (i := 0) rfl
  have r1 := hres.cell (i := 1) rfl
  have rl := hres.lt
  replace hres := Lib.hid hres
  by_cases z1 : t ≤ st.1 - 64
  · have y1 : decide (t ≤ st.1 - 64) = true := by simp [z1]
    have hF : Hid (shouldF L t l = ⟨0, []⟩) := by
      have : shouldF L t l = ⟨0, []⟩ := by unfold shouldF; rw [hfull, if_pos z1]
      exact this
    clear z1
    go_wp2_with fail
    have hT : Touch [w.heap.size] wr ((wr.setCell ⟨w.heap.size, 0, none⟩ (.int .u8 0)).setCell ⟨w.heap.size, 1, none⟩ (.slice none 0 0)) := ((Touch.refl [w.heap.size] wr).setCell (p := ⟨w.heap.size, 0, none⟩) (.inl (by simp)) _).setCell (p := ⟨w.heap.size, 1, none⟩) (.inl (by simp)) _
    refine postRet2 6 (by kernel_rfl) w.heap.size 0 _ rfl (((hres.out.set 0 (.int .u8 0)).set 1 (.slice none 0 0)).congr rfl) rfl ?_
    rw [hF.out]
    exact ⟨_, rfl, .inl ⟨rfl, rfl⟩, hT.below hsh.out.bel hsh.out.bel.size (by simp)⟩
  · have y1 : decide (t ≤ st.1 - 64) = false := by simp; omega
    have hF : Hid (shouldF L t l = st.2) := by
      have : shouldF L t l = st.2 := by unfold shouldF; rw [hfull, if_neg z1]
      exact this
    obtain ⟨bv, kx, hbv⟩ := hsh.out.box
    obtain ⟨ba, bn, bc, rfl⟩ := hbv.sl
    have p0 : wr.cell? ⟨w.heap.size + 1, 0, none⟩ = some (.int .u8 st.2.s) := kx.cell (i := 0) rfl
    have p1 : wr.cell? ⟨w.heap.size + 1, 1, none⟩ = some (.slice ba bn bc) := kx.cell (i := 1) rfl
    have pl := kx.lt
    replace hbv := Lib.hid hbv
    clear z1 kx
    go_wp2_with fail
    have hT : Touch [w.heap.size] wr ((wr.setCell ⟨w.heap.size, 0, none⟩ (.int .u8 st.2.s)).setCell ⟨w.heap.size, 1, none⟩ (.slice ba bn bc)) := ((Touch.refl [w.heap.size] wr).setCell (p := ⟨w.heap.size, 0, none⟩) (.inl (by simp)) _).setCell (p := ⟨w.heap.size, 1, none⟩) (.inl (by simp)) _
    refine postRet2 6 (by kernel_rfl) w.heap.size st.2.s _ rfl (((hres.out.set 0 (.int .u8 st.2.s)).set 1 (.slice ba bn bc)).congr rfl) rfl ?_
    rw [hF.out]
    exact ⟨_, rfl, hbv.out.blk (fun g c U hU hg => hg.touch hT (by simpa using hg.ne hres.out (by rcases hU with rfl | rfl <;> decide))), hT.below hsh.out.bel hsh.out.bel.size (by simp)⟩
end Go.Proofs.Ytmdohnbhogfopaa
/- A payload by numbers, as the document has it. -/
namespace Go.Proofs.Ytmdohnbhogfopaa
open Go.RowKit Go.Maps
set_option linter.unusedSimpArgs false
set_option linter.unusedVariables false
set_option maxRecDepth 100000
/-- Sixteen numbers: the first to the eighth are f's. -/
def arrN (f : Nat → Int) (K : Nat) : Array Value := ((List.range 16).map (fun j => Value.int .u64 (if 1 ≤ j ∧ j ≤ K then f j else 0))).toArray
theorem arrN_zero (f : Nat → Int) : arrN f 0 = #[.int .u64 0, .int .u64 0, .int .u64 0, .int .u64 0, .int .u64 0, .int .u64 0, .int .u64 0, .int .u64 0, .int .u64 0, .int .u64 0, .int .u64 0, .int .u64 0, .int .u64 0, .int .u64 0, .int .u64 0, .int .u64 0] := rfl
theorem arrN_eight (f : Nat → Int) : arrN f 8 = #[.int .u64 0, .int .u64 (f 1), .int .u64 (f 2), .int .u64 (f 3), .int .u64 (f 4), .int .u64 (f 5), .int .u64 (f 6), .int .u64 (f 7), .int .u64 (f 8), .int .u64 0, .int .u64 0, .int .u64 0, .int .u64 0, .int .u64 0, .int .u64 0, .int .u64 0] := rfl
theorem arrN_size (f : Nat → Int) (K : Nat) : (arrN f K).size = 16 := by simp [arrN]
theorem arrN_get (f : Nat → Int) (K j : Nat) (hj : j < 16) : (arrN f K)[j]? = some (.int .u64 (if 1 ≤ j ∧ j ≤ K then f j else 0)) := by
  unfold arrN
  simp [hj]
theorem arrN_more (f : Nat → Int) (K : Nat) (hK : K < 8) : (arrN f K).setIfInBounds (K + 1) (.int .u64 (f (K + 1))) = arrN f (K + 1) := by
  apply Array.ext
  · simp [arrN]
  · intro j h1 h2
    have hj : j < 16 := by simpa [arrN] using h2
    have e1 := arrN_get f (K + 1) j hj
    have e2 := arrN_get f K j hj
    rw [Array.getElem?_eq_getElem (by simpa [arrN] using hj)] at e1 e2
    simp only [Option.some.injEq] at e1 e2
    rw [e1, Array.getElem_setIfInBounds]
    · by_cases q : K + 1 = j
      · subst q
        rw [if_pos rfl, if_pos ⟨by omega, Nat.le_refl _⟩]
      · rw [if_neg q, e2]
        by_cases q2 : 1 ≤ j ∧ j ≤ K
        · rw [if_pos q2, if_pos ⟨q2.1, by omega⟩]
        · rw [if_neg q2, if_neg (fun h => q2 ⟨h.1, by omega⟩)]
    · simpa [arrN] using hj
theorem saidRetRow : ∃ d, Try.prog.underlying 85 = some d ∧ (match d with | .struct _ | .array _ _ => true | _ => false) = true := ⟨_, Try.underlying85, rfl⟩
set_option maxHeartbeats 4000000 in
theorem saidD (w : World) (a1 a2 a3 a4 a5 a6 a7 a8 : Int) (h3 : 0 ≤ a3 ∧ a3 ≤ 18446744073709551615) (h4 : 0 ≤ a4 ∧ a4 ≤ 18446744073709551615) (h5 : 0 ≤ a5 ∧ a5 ≤ 18446744073709551615) (h6 : 0 ≤ a6 ∧ a6 ≤ 18446744073709551615) (h7 : 0 ≤ a7 ∧ a7 ≤ 18446744073709551615) :
    Calls Try.prog 120 #[.agg #[.int .u64 0, .int .u64 a1, .int .u64 a2, .int .u64 a3, .int .u64 a4, .int .u64 a5, .int .u64 a6, .int .u64 a7, .int .u64 a8, .int .u64 0, .int .u64 0, .int .u64 0, .int .u64 0, .int .u64 0, .int .u64 0, .int .u64 0], .int .i64 3] w fun e w' =>
      e = .returned (.agg #[.bool (a3 % 2 == 1), .int .i64 (a4 % 16), .int .u8 (1 + a5 % 2), .int .u8 0, .int .u32 (a6 % 64), .int .u32 (a7 % 64)]) ∧ Below w.heap.size w w' := by
  have e3 : Int.tmod a3 2 = a3 % 2 := Int.tmod_eq_emod_of_nonneg h3.1
  have e4 : Int.tmod a4 16 = a4 % 16 := Int.tmod_eq_emod_of_nonneg h4.1
  have e5 : Int.tmod a5 2 = a5 % 2 := Int.tmod_eq_emod_of_nonneg h5.1
  have e6 : Int.tmod a6 64 = a6 % 64 := Int.tmod_eq_emod_of_nonneg h6.1
  have e7 : Int.tmod a7 64 = a7 % 64 := Int.tmod_eq_emod_of_nonneg h7.1
  have u3 : IntKind.u64.wrap (a3 % 2) = a3 % 2 := by rw [IntKind.wrap_u64]; omega
  have u4 : IntKind.u64.wrap (a4 % 16) = a4 % 16 := by rw [IntKind.wrap_u64]; omega
  have u5 : IntKind.u64.wrap (a5 % 2) = a5 % 2 := by rw [IntKind.wrap_u64]; omega
  have u55 : IntKind.u64.wrap (1 + a5 % 2) = 1 + a5 % 2 := by rw [IntKind.wrap_u64]; omega
  have u6 : IntKind.u64.wrap (a6 % 64) = a6 % 64 := by rw [IntKind.wrap_u64]; omega
  have u7 : IntKind.u64.wrap (a7 % 64) = a7 % 64 := by rw [IntKind.wrap_u64]; omega
  have v4 : IntKind.i64.wrap (a4 % 16) = a4 % 16 := wrapI _ (by omega) (by omega)
  have v5 : IntKind.u8.wrap (1 + a5 % 2) = 1 + a5 % 2 := by rw [IntKind.wrap_u8]; omega
  have v6 : IntKind.u32.wrap (a6 % 64) = a6 % 64 := by rw [IntKind.wrap_u32]; omega
  have v7 : IntKind.u32.wrap (a7 % 64) = a7 % 64 := by rw [IntKind.wrap_u32]; omega
  clear h3 h4 h5 h6 h7
  go_enter Try.func120, Try.ntmps120
  go_upto_region 1 with fail
  have hb1 : Below w.heap.size w ((w.alloc (.cells #[.int .u64 0, .int .u64 a1, .int .u64 a2, .int .u64 a3, .int .u64 a4, .int .u64 a5, .int .u64 a6, .int .u64 a7, .int .u64 a8, .int .u64 0, .int .u64 0, .int .u64 0, .int .u64 0, .int .u64 0, .int .u64 0, .int .u64 0] 212)).alloc (.cells #[.bool false, .int .i64 0, .int .u8 0, .int .u8 0, .int .u32 0, .int .u32 0] 85)) := blk_alloc2 _ _
  have kA : Blk ((w.alloc (.cells #[.int .u64 0, .int .u64 a1, .int .u64 a2, .int .u64 a3, .int .u64 a4, .int .u64 a5, .int .u64 a6, .int .u64 a7, .int .u64 a8, .int .u64 0, .int .u64 0, .int .u64 0, .int .u64 0, .int .u64 0, .int .u64 0, .int .u64 0] 212)).alloc (.cells #[.bool false, .int .i64 0, .int .u8 0, .int .u8 0, .int .u32 0, .int .u32 0] 85)) w.heap.size #[.int .u64 0, .int .u64 a1, .int .u64 a2, .int .u64 a3, .int .u64 a4, .int .u64 a5, .int .u64 a6, .int .u64 a7, .int .u64 a8, .int .u64 0, .int .u64 0, .int .u64 0, .int .u64 0, .int .u64 0, .int .u64 0, .int .u64 0] 212 := (Blk.new _ _ _).alloc _
  have kr : Blk ((w.alloc (.cells #[.int .u64 0, .int .u64 a1, .int .u64 a2, .int .u64 a3, .int .u64 a4, .int .u64 a5, .int .u64 a6, .int .u64 a7, .int .u64 a8, .int .u64 0, .int .u64 0, .int .u64 0, .int .u64 0, .int .u64 0, .int .u64 0, .int .u64 0] 212)).alloc (.cells #[.bool false, .int .i64 0, .int .u8 0, .int .u8 0, .int .u32 0, .int .u32 0] 85)) (w.heap.size + 1) #[.bool false, .int .i64 0, .int .u8 0, .int .u8 0, .int .u32 0, .int .u32 0] 85 := by
    have := Blk.new (w.alloc (.cells #[.int .u64 0, .int .u64 a1, .int .u64 a2, .int .u64 a3, .int .u64 a4, .int .u64 a5, .int .u64 a6, .int .u64 a7, .int .u64 a8, .int .u64 0, .int .u64 0, .int .u64 0, .int .u64 0, .int .u64 0, .int .u64 0, .int .u64 0] 212)) #[.bool false, .int .i64 0, .int .u8 0, .int .u8 0, .int .u32 0, .int .u32 0] 85
    simpa using this
  generalize ((w.alloc (.cells #[.int .u64 0, .int .u64 a1, .int .u64 a2, .int .u64 a3, .int .u64 a4, .int .u64 a5, .int .u64 a6, .int .u64 a7, .int .u64 a8, .int .u64 0, .int .u64 0, .int .u64 0, .int .u64 0, .int .u64 0, .int .u64 0, .int .u64 0] 212)).alloc (.cells #[.bool false, .int .i64 0, .int .u8 0, .int .u8 0, .int .u32 0, .int .u32 0] 85)) = w1 at *
  have hcl : Hid (∀ W, Below w1.heap.size w1 W → W.cell? ⟨w.heap.size, 3, none⟩ = some (.int .u64 a3) ∧ W.cell? ⟨w.heap.size, 4, none⟩ = some (.int .u64 a4) ∧ W.cell? ⟨w.heap.size, 5, none⟩ = some (.int .u64 a5) ∧ W.cell? ⟨w.heap.size, 6, none⟩ = some (.int .u64 a6) ∧ W.cell? ⟨w.heap.size, 7, none⟩ = some (.int .u64 a7) ∧ w.heap.size < W.heap.size) := fun W hW =>
    ⟨(kA.below hW kA.lt).cell (i := 3) rfl, (kA.below hW kA.lt).cell (i := 4) rfl, (kA.below hW kA.lt).cell (i := 5) rfl, (kA.below hW kA.lt).cell (i := 6) rfl, (kA.below hW kA.lt).cell (i := 7) rfl, Nat.lt_of_lt_of_le kA.lt hW.size⟩
  have lA := kA.lt
  replace kA := Lib.hid kA
  replace kr := Lib.hid kr
  replace hb1 := Lib.hid hb1
  have hq1 : Below w1.heap.size w1 w1.drew := below_drewN w1 1
  have hq2 : Below w1.heap.size w1 (w1.alloc (.cells #[.int .u8 0, .int .u8 0, .int .u32 0, .int .u32 0] 56)).drew := bdrewN (below_alloc _ _) 1
  have hq3 : Below w1.heap.size w1 (w1.alloc (.cells #[.int .u8 (1 + a5 % 2), .int .u8 0, .int .u32 (a6 % 64), .int .u32 (a7 % 64)] 56)).drew := bdrewN (below_alloc _ _) 1
  go_region_held3 (fun W => W.cell? ⟨w.heap.size, 3, none⟩ = some (.int .u64 a3) ∧ W.cell? ⟨w.heap.size, 4, none⟩ = some (.int .u64 a4) ∧ W.cell? ⟨w.heap.size, 5, none⟩ = some (.int .u64 a5) ∧ W.cell? ⟨w.heap.size, 6, none⟩ = some (.int .u64 a6) ∧ W.cell? ⟨w.heap.size, 7, none⟩ = some (.int .u64 a7) ∧ w.heap.size < W.heap.size)
    (first | exact hcl.out _ hq1 | exact hcl.out _ hq2 | exact hcl.out _ hq3)
    (fail)
  go_upto_region 2 with fail
  have kp : Blk (w1.alloc (.cells #[.int .u8 (1 + a5 % 2), .int .u8 0, .int .u32 (a6 % 64), .int .u32 (a7 % 64)] 56)).drew w1.heap.size #[.int .u8 (1 + a5 % 2), .int .u8 0, .int .u32 (a6 % 64), .int .u32 (a7 % 64)] 56 := (Blk.new _ _ _).drew
  have kr2 := Lib.hid (kr.out.below hq3 kr.out.lt)
  have hb2 := Lib.hid (bthen hb1.out hq3)
  have kA2 := kA.out.below hq3 kA.out.lt
  clear kr hb1 hcl hq1 hq2 hq3 lA kA
  generalize (w1.alloc (.cells #[.int .u8 (1 + a5 % 2), .int .u8 0, .int .u32 (a6 % 64), .int .u32 (a7 % 64)] 56)).drew = w2 at *
  generalize w1.heap.size = b5 at *
  have n1 : w.heap.size ≠ w.heap.size + 1 := by omega
  have n2 : b5 ≠ w.heap.size + 1 := kp.ne kr2.out (by decide)
  have hcl2 : Hid (∀ W, Touch [w.heap.size + 1] w2 W → W.cell? ⟨w.heap.size, 3, none⟩ = some (.int .u64 a3) ∧ W.cell? ⟨w.heap.size, 4, none⟩ = some (.int .u64 a4) ∧ W.cell? ⟨b5, 0, none⟩ = some (.int .u8 (1 + a5 % 2)) ∧ W.cell? ⟨b5, 1, none⟩ = some (.int .u8 0) ∧ W.cell? ⟨b5, 2, none⟩ = some (.int .u32 (a6 % 64)) ∧ W.cell? ⟨b5, 3, none⟩ = some (.int .u32 (a7 % 64)) ∧ w.heap.size < W.heap.size ∧ b5 < W.heap.size) := fun W hT => by
    have h1 := kA2.touch hT (by simp)
    have h2 := kp.touch hT (by simpa using n2)
    exact ⟨h1.cell (i := 3) rfl, h1.cell (i := 4) rfl, h2.cell (i := 0) rfl, h2.cell (i := 1) rfl, h2.cell (i := 2) rfl, h2.cell (i := 3) rfl, h1.lt, h2.lt⟩
  clear kp kA2
  have r0 := kr2.out.cell (i := 0) rfl
  have r1 := kr2.out.cell (i := 1) rfl
  have r2 := kr2.out.cell (i := 2) rfl
  have r3 := kr2.out.cell (i := 3) rfl
  have r4 := kr2.out.cell (i := 4) rfl
  have r5 := kr2.out.cell (i := 5) rfl
  have rf := kr2.out.free
  have rl := kr2.out.lt
  have hT1 : Touch [w.heap.size + 1] w2 w2.drew := (Touch.refl [w.heap.size + 1] w2).drew
  have hT6 : Touch [w.heap.size + 1] w2 ((((((w2.setCell ⟨w.heap.size + 1, 0, none⟩ (.bool (a3 % 2 == 1))).setCell ⟨w.heap.size + 1, 1, none⟩ (.int .i64 (a4 % 16))).setCell ⟨w.heap.size + 1, 2, none⟩ (.int .u8 (1 + a5 % 2))).setCell ⟨w.heap.size + 1, 3, none⟩ (.int .u8 0)).setCell ⟨w.heap.size + 1, 4, none⟩ (.int .u32 (a6 % 64))).setCell ⟨w.heap.size + 1, 5, none⟩ (.int .u32 (a7 % 64))).drew := (((((((Touch.refl [w.heap.size + 1] w2).setCell (p := ⟨w.heap.size + 1, 0, none⟩) (.inl (by simp)) (.bool (a3 % 2 == 1))).setCell (p := ⟨w.heap.size + 1, 1, none⟩) (.inl (by simp)) (.int .i64 (a4 % 16))).setCell (p := ⟨w.heap.size + 1, 2, none⟩) (.inl (by simp)) (.int .u8 (1 + a5 % 2))).setCell (p := ⟨w.heap.size + 1, 3, none⟩) (.inl (by simp)) (.int .u8 0)).setCell (p := ⟨w.heap.size + 1, 4, none⟩) (.inl (by simp)) (.int .u32 (a6 % 64))).setCell (p := ⟨w.heap.size + 1, 5, none⟩) (.inl (by simp)) (.int .u32 (a7 % 64))).drew
  go_region_held3 (fun W => W.cell? ⟨w.heap.size, 3, none⟩ = some (.int .u64 a3) ∧ W.cell? ⟨w.heap.size, 4, none⟩ = some (.int .u64 a4) ∧ W.cell? ⟨b5, 0, none⟩ = some (.int .u8 (1 + a5 % 2)) ∧ W.cell? ⟨b5, 1, none⟩ = some (.int .u8 0) ∧ W.cell? ⟨b5, 2, none⟩ = some (.int .u32 (a6 % 64)) ∧ W.cell? ⟨b5, 3, none⟩ = some (.int .u32 (a7 % 64)) ∧ w.heap.size < W.heap.size ∧ b5 < W.heap.size)
    (first | (with_reducible exact hcl2.out _ hT1) | (with_reducible exact hcl2.out _ hT6))
    (fail)
  have hbE : Below w.heap.size w ((((((w2.setCell ⟨w.heap.size + 1, 0, none⟩ (.bool (a3 % 2 == 1))).setCell ⟨w.heap.size + 1, 1, none⟩ (.int .i64 (a4 % 16))).setCell ⟨w.heap.size + 1, 2, none⟩ (.int .u8 (1 + a5 % 2))).setCell ⟨w.heap.size + 1, 3, none⟩ (.int .u8 0)).setCell ⟨w.heap.size + 1, 4, none⟩ (.int .u32 (a6 % 64))).setCell ⟨w.heap.size + 1, 5, none⟩ (.int .u32 (a7 % 64))).drew := hT6.below hb2.out hb2.out.size (by simp)
  have kE := (((((((kr2.out.set 0 (.bool (a3 % 2 == 1))).set 1 (.int .i64 (a4 % 16))).set 2 (.int .u8 (1 + a5 % 2))).set 3 (.int .u8 0)).set 4 (.int .u32 (a6 % 64))).set 5 (.int .u32 (a7 % 64))).drew).congr (c' := #[.bool (a3 % 2 == 1), .int .i64 (a4 % 16), .int .u8 (1 + a5 % 2), .int .u8 0, .int .u32 (a6 % 64), .int .u32 (a7 % 64)]) rfl
  go_wp2_with fail
  obtain ⟨d0, hd0, hd1⟩ := saidRetRow
  exact bodyPost_ret (v := .agg #[.bool (a3 % 2 == 1), .int .i64 (a4 % 16), .int .u8 (1 + a5 % 2), .int .u8 0, .int .u32 (a6 % 64), .int .u32 (a7 % 64)]) (results_cell_row (p := 4) (ty := 85) (by kernel_rfl) _ _ (w.heap.size + 1) 85 _ (0, 0) d0 rfl kE.out hd0 (by cases d0 <;> simp_all) (by rw [saidSize]; rfl)) rfl ⟨rfl, hbE⟩
end Go.Proofs.Ytmdohnbhogfopaa
/- The document's noise: what lies in memory. -/
namespace Go.Proofs.Ytmdohnbhogfopaa
open Go.RowKit Go.Maps
set_option linter.unusedSimpArgs false
set_option linter.unusedVariables false
set_option maxRecDepth 100000
theorem built_none {P : Program} {t : TypeId} {it : TypeInfo} {z : Value} {fs : Array Field} {places : List (Nat × Nat)} (hi : P.info? t = some it) (hz : it.zero = some z) (hu : P.underlying t = some (.struct fs))
    (hp : fs.toList.mapM (fun f => (P.info? f.type).map fun i => (f.offset, i.size)) = some places) : P.built t [] = some z.cells := by
  rw [built_places hi hz hu hp]
  rfl
theorem wrap_two (x Y : Int) : IntKind.i64.wrap (IntKind.i64.wrap (x - 8) + Y) = IntKind.i64.wrap (x + (Y - 8)) := by
  rw [IntKind.wrap_i64, IntKind.wrap_i64, IntKind.wrap_i64]
  omega
/-- In the midst of noise. -/
structure NoisD (B : Nat) (w : World) (s0 : Int) (wv : Value) (b3 : Nat) (s : Int) (R : List RowC) (i : Nat) (v : Value) (tvs : List Value) (wr : World) : Prop where
  bel : Below w.heap.size w wr
  post : Blk wr b3 #[.int .u8 s, v] 77
  box : Blk wr w.heap.size #[.int .u8 s0, wv] 77
  out : Blk wr (w.heap.size + 1) #[.int .u8 0, .slice none 0 0] 77
  ge : w.heap.size + 1 < b3
  row : wr.ownsRow w.heap.size 167 57 v i (rowsFlat (R.take i) tvs)
  len : tvs.length = i
  tabs : ∀ (j : Nat) (r : RowC) (tv : Value), R[j]? = some r → tvs[j]? = some tv → OwnTab 204 B wr tv r.tab
theorem NoisD.below {B : Nat} {w : World} {s0 : Int} {wv : Value} {b3 : Nat} {s : Int} {R : List RowC} {i : Nat} {v : Value} {tvs : List Value} {wr W : World} (h : NoisD B w s0 wv b3 s R i v tvs wr) (hb : Below wr.heap.size wr W) : NoisD B w s0 wv b3 s R i v tvs W :=
  ⟨bthen h.bel hb, h.post.below hb h.post.lt, h.box.below hb h.box.lt, h.out.below hb h.out.lt, h.ge, ownsRow_below h.row hb, h.len, fun j r tv hj ht => (h.tabs j r tv hj ht).below hb (Nat.le_refl _)⟩
theorem NoisD.other {B : Nat} {w : World} {s0 : Int} {wv : Value} {b3 : Nat} {s : Int} {R : List RowC} {i : Nat} {v : Value} {tvs : List Value} {wr : World} (h : NoisD B w s0 wv b3 s R i v tvs wr) {b : Nat} {cs : Array Value} {U : TypeId} (hb : Blk wr b cs U) (j : Nat) (u : Value) (hg : w.heap.size ≤ b) (hU : U ≠ 77 ∧ U ≠ 167 ∧ U ≠ 204) : NoisD B w s0 wv b3 s R i v tvs (wr.setCell ⟨b, j, none⟩ u) := by
  have hT : Touch [b] wr (wr.setCell ⟨b, j, none⟩ u) := (Touch.refl [b] wr).setCell (p := ⟨b, j, none⟩) (.inl (by simp)) u
  have hB : ∀ g c V, Blk wr g c V → V ≠ U → Blk (wr.setCell ⟨b, j, none⟩ u) g c V := fun g c V hg hn => hg.touch hT (by simpa using hg.ne hb hn)
  exact ⟨hT.below h.bel h.bel.size (by simpa using hg), hB _ _ _ h.post (fun e => hU.1 e.symm), hB _ _ _ h.box (fun e => hU.1 e.symm), hB _ _ _ h.out (fun e => hU.1 e.symm), h.ge, ownsRow_keepB h.row fun g c _ hg => hB _ _ _ hg (fun e => hU.2.1 e.symm), h.len, fun j r tv hj ht => (h.tabs j r tv hj ht).blk fun g c _ hg => hB _ _ _ hg (fun e => hU.2.2 e.symm)⟩
theorem NoisD.append {B : Nat} {w : World} {s0 : Int} {wv : Value} {b3 : Nat} {s : Int} {R : List RowC} {i : Nat} {v : Value} {tvs : List Value} {W w8 : World} {r : RowC} {tv' v1 : Value} (h : NoisD B w s0 wv b3 s R i v tvs W) (hr : R[i]? = some r) (ht' : OwnTab 204 B W tv' r.tab)
    (hown : w8.ownsRow w.heap.size 167 57 v1 (i + 1) (rowsFlat (R.take i) tvs ++ (r.hd ++ [tv']))) (hg : W.grownBy w8 v.ownBlock) :
    w8.cell? ⟨b3, 1, none⟩ = some v ∧ w8.frozen? ⟨b3, 1, none⟩ = false ∧ b3 < w8.heap.size ∧ NoisD B w s0 wv b3 s R (i + 1) v1 (tvs ++ [tv']) (w8.setCell ⟨b3, 1, none⟩ v1) := by
  have hkeep : ∀ b c T, Blk W b c T → T ≠ 167 → Blk w8 b c T := fun b c T hb hT => (hg.block b hb.lt (fun e => by
    obtain ⟨cur, hc⟩ := ownsRow_blk h.row e.symm
    exact hT (by
      have := hb.out.symm.trans hc.out
      simp at this
      exact this.2))).trans hb
  have hb0 := hkeep _ _ _ h.post (by decide)
  have hb1 := hkeep _ _ _ h.out (by decide)
  have hbx := hkeep _ _ _ h.box (by decide)
  have hset : ∀ b c T, Blk w8 b c T → b ≠ b3 → Blk (w8.setCell ⟨b3, 1, none⟩ v1) b c T := fun b c T hb hn => hb.setNe (a := ⟨b3, 1, none⟩) hn _
  have hbel : Below w.heap.size w w8 := Below.grown h.bel hg h.bel.size (fun k hk => (h.row.lt k hk).1)
  have htk : R.take (i + 1) = R.take i ++ [r] := by
    rw [List.take_add_one, hr]
    rfl
  have hil : (R.take i).length = i := by
    have := (List.getElem?_eq_some_iff.1 hr).1
    simp
    omega
  have hge := h.ge
  refine ⟨hb0.cell (i := 1) rfl, hb0.free 1, hb0.lt, ⟨hbel.setCell (show w.heap.size ≤ (⟨b3, 1, none⟩ : Addr).block by simp; omega) _, (hb0.set 1 v1).congr rfl, hset _ _ _ hbx (by omega), hset _ _ _ hb1 (by omega), h.ge, ?_, by simp [h.len], fun j r' tv hj ht => ?_⟩⟩
  · rw [htk, rowsFlat_more (by rw [h.len, hil])]
    refine ⟨hown.1, ?_⟩
    rcases hown.2 with h3 | ⟨g, cap, cur, h3, h4, h5, h6⟩
    · exact .inl h3
    · have hgb : Blk w8 g cur 167 := h5
      exact .inr ⟨g, cap, cur, h3, h4, hset _ _ _ hgb (hgb.ne hb0 (by decide)), h6⟩
  · have hto : OwnTab 204 B W tv r'.tab := by
      rw [List.getElem?_append] at ht
      split at ht
      · exact h.tabs j r' tv hj ht
      · rename_i hlt
        rw [h.len] at hlt ht
        have : j - i = 0 := by
          have := (List.getElem?_eq_some_iff.1 ht).1
          simp at this
          omega
        rw [this] at ht
        simp at ht
        obtain rfl : j = i := by omega
        rw [hr] at hj
        simp at hj
        subst hj ht
        exact ht'
    refine hto.blk fun g c hlo hgb => ?_
    have := hkeep _ _ _ hgb (by decide)
    exact hset _ _ _ this (this.ne hb0 (by decide))
theorem NoisD.fin {B : Nat} {w : World} {s0 : Int} {wv : Value} {b3 : Nat} {s : Int} {R : List RowC} {v : Value} {tvs : List Value} {wr : World} (h : NoisD B w s0 wv b3 s R R.length v tvs wr) (hB : B ≤ w.heap.size) : OwnWord 167 204 B wr v R := by
  rcases h.row.2 with ⟨rfl, h2⟩ | ⟨g, cap, cur, rfl, h2, h3, h4, h5, h6, h7⟩
  · exact .inl ⟨rfl, List.length_eq_zero_iff.1 h2⟩
  · refine .inr ⟨g, cap, cur, tvs, rfl, h4, h5, by omega, h3, by omega, ?_, h.len, h.tabs⟩
    rw [h7, List.take_length]
/-- A row in the making: its block b6. -/
structure MidD (B : Nat) (w : World) (s0 : Int) (wv : Value) (b3 : Nat) (s : Int) (RN : List RowC) (i : Nat) (v : Value) (tvs : List Value) (b6 : Nat) (tv : Value) (tab : List (List Value)) (W : World) (c : Array Value) : Prop where
  n : NoisD B w s0 wv b3 s RN i v tvs W
  k : Blk W b6 c 167
  t : OwnTab 204 B W tv tab
  ge : w.heap.size ≤ b6
  ne : v.ownBlock ≠ some b6
section
variable {B : Nat} {w : World} {s0 : Int} {wv : Value} {b3 : Nat} {s : Int} {RN : List RowC} {i : Nat} {v : Value} {tvs : List Value} {b6 : Nat} {tv : Value} {tab : List (List Value)} {W W' : World} {c c' : Array Value}
theorem MidD.congr (h : MidD B w s0 wv b3 s RN i v tvs b6 tv tab W c) (e : c = c') : MidD B w s0 wv b3 s RN i v tvs b6 tv tab W c' := e ▸ h
theorem MidD.below (h : MidD B w s0 wv b3 s RN i v tvs b6 tv tab W c) (hb : Below W.heap.size W W') : MidD B w s0 wv b3 s RN i v tvs b6 tv tab W' c :=
  ⟨h.n.below hb, h.k.below hb h.k.lt, h.t.below hb (Nat.le_refl _), h.ge, h.ne⟩
/-- Only that block is written to. -/
theorem MidD.wrote (h : MidD B w s0 wv b3 s RN i v tvs b6 tv tab W c) (hT : Touch [b6] W W') (hk : Blk W' b6 c' 167) : MidD B w s0 wv b3 s RN i v tvs b6 tv tab W' c' := by
  have hB : ∀ g cs U, Blk W g cs U → g ≠ b6 → Blk W' g cs U := fun g cs U hg hn => hg.touch hT (by simpa using hn)
  have h3 := h.n.post.ne h.k (by decide)
  have h0 := h.n.out.ne h.k (by decide)
  have hx := h.n.box.ne h.k (by decide)
  refine ⟨⟨hT.below h.n.bel h.n.bel.size (by have := h.ge; simp; omega), hB _ _ _ h.n.post h3, hB _ _ _ h.n.box hx, hB _ _ _ h.n.out h0, h.n.ge, ?_, h.n.len, fun j r tv hj ht => (h.n.tabs j r tv hj ht).blk fun g cs _ hg => hB _ _ _ hg (hg.ne h.k (by decide))⟩, hk, h.t.blk fun g cs _ hg => hB _ _ _ hg (hg.ne h.k (by decide)), h.ge, h.ne⟩
  refine ⟨h.n.row.1, ?_⟩
  rcases h.n.row.2 with h1 | ⟨g, cap, cur, h1, h2, h4, h5⟩
  · exact .inl h1
  · refine .inr ⟨g, cap, cur, h1, h2, hB _ _ _ h4 (fun e => h.ne (by rw [h1, e]; rfl)), h5⟩
theorem MidD.set (h : MidD B w s0 wv b3 s RN i v tvs b6 tv tab W c) (j : Nat) (u : Value) : MidD B w s0 wv b3 s RN i v tvs b6 tv tab (W.setCell ⟨b6, j, none⟩ u) (c.setIfInBounds j u) :=
  h.wrote ((Touch.refl [b6] W).setCell (p := ⟨b6, j, none⟩) (.inl (by simp)) u) (h.k.set j u)
theorem MidD.setRow (h : MidD B w s0 wv b3 s RN i v tvs b6 tv tab W c) (c' : Array Value) : MidD B w s0 wv b3 s RN i v tvs b6 tv tab (W.setRow b6 c') c' :=
  h.wrote ((Touch.refl [b6] W).setRow (.inl (by simp)) c') (h.k.setRow c')
theorem MidD.cell (h : MidD B w s0 wv b3 s RN i v tvs b6 tv tab W c) {j : Nat} {u : Value} (hj : c[j]? = some u) : W.cell? ⟨b6, j, none⟩ = some u := h.k.cell hj
end
end Go.Proofs.Ytmdohnbhogfopaa
