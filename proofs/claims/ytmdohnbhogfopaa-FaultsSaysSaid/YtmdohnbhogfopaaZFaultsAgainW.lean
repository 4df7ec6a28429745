/- FaultsAgain: the law. -/
import Derived.Test.YtmdohnbhogfopaaZLivAC
namespace Go.Proofs.Ytmdohnbhogfopaa
open Go.RowKit Go.Maps
set_option linter.unusedSimpArgs false
set_option linter.unusedVariables false
set_option maxRecDepth 100000
/-- Two mouths of one fault that were told the same. -/
structure AgainAt (w : World) (F : FaultC) (pm bt bl ph ht hl c : Nat) (W : World) : Prop where
  bel : Below w.heap.size w W
  ge : w.heap.size ≤ bt ∧ w.heap.size ≤ bl ∧ w.heap.size ≤ ht ∧ w.heap.size ≤ hl
  m : ∃ T G, Mo W pm bt bl c F T G [ht, hl] ∧ Mo W ph ht hl c F T G [bt, bl]
theorem AgainAt.below {w : World} {F : FaultC} {pm bt bl ph ht hl c : Nat} {W W' : World} (h : AgainAt w F pm bt bl ph ht hl c W) (hb : Below W.heap.size W W') : AgainAt w F pm bt bl ph ht hl c W' := by
  obtain ⟨T, G, h1, h2⟩ := h.m
  exact ⟨bthen h.bel hb, h.ge, ⟨T, G, h1.below hb, h2.below hb⟩⟩
/-- The first was told, the second not yet. -/
structure HalfAt (w : World) (F : FaultC) (pm bt bl ph ht hl c : Nat) (t l : Int) (p r : PostC) (W : World) : Prop where
  bel : Below w.heap.size w W
  ge : w.heap.size ≤ bt ∧ w.heap.size ≤ bl ∧ w.heap.size ≤ ht ∧ w.heap.size ≤ hl
  m : ∃ T G, Mo W pm bt bl (c + 1) F (saysT F T G t l p) (saysG F G t l) [ht, hl] ∧ Mo W ph ht hl c F T G [bt, bl] ∧ r = saysP F T G t l p
theorem HalfAt.below {w : World} {F : FaultC} {pm bt bl ph ht hl c : Nat} {t l : Int} {p r : PostC} {W W' : World} (h : HalfAt w F pm bt bl ph ht hl c t l p r W) (hb : Below W.heap.size W W') : HalfAt w F pm bt bl ph ht hl c t l p r W' := by
  obtain ⟨T, G, h1, h2, h3⟩ := h.m
  exact ⟨bthen h.bel hb, h.ge, ⟨T, G, h1.below hb, h2.below hb, h3⟩⟩
theorem AgainAt.says {w : World} {F : FaultC} {pm bt bl ph ht hl c : Nat} {W : World} (h : AgainAt w F pm bt bl ph ht hl c W) (hF : FaultOk F) (hc : c < 1000) (t l : Int) (p : PostC) (hp : PostOk p) (v : Value) (hw : WordAt 0 W v p.R) :
    Calls Try.prog 17 #[.pointer (some ⟨pm, 0, none⟩), .int .i64 t, .int .i64 l, .agg #[.int .u8 p.s, v]] W fun e W' => ∃ r a n k, e = .returned (.agg #[.int .u8 r.s, .slice a n k]) ∧ WordAt 0 W' (.slice a n k) r.R ∧ RowsFine r.R ∧ HalfAt w F pm bt bl ph ht hl c t l p r W' := by
  obtain ⟨T, G, h1, h2⟩ := h.m
  have hS := saysM h1 hF (by omega) t l p hp v hw
  have hf := h1.fine hF t l p hp
  refine hS.mono ?_
  rintro e W' ⟨v', rfl, ⟨a, n, k, rfl⟩, h5, h6, hT⟩
  have hge := h.ge
  exact ⟨_, a, n, k, rfl, h5, hf, hT.below h.bel h.bel.size (by simp; omega), h.ge, ⟨T, G, h6, h2.other hT (fun k hk => hk), rfl⟩⟩
theorem HalfAt.says {w : World} {F : FaultC} {pm bt bl ph ht hl c : Nat} {W : World} {t l : Int} {p r : PostC} (h : HalfAt w F pm bt bl ph ht hl c t l p r W) (hF : FaultOk F) (hc : c < 1000) (hp : PostOk p) (v : Value) (hw : WordAt 0 W v p.R) (u : Value) (hu : WordAt 0 W u r.R) :
    Calls Try.prog 17 #[.pointer (some ⟨ph, 0, none⟩), .int .i64 t, .int .i64 l, .agg #[.int .u8 p.s, v]] W fun e W' => ∃ a n k, e = .returned (.agg #[.int .u8 r.s, .slice a n k]) ∧ WordAt 0 W' (.slice a n k) r.R ∧ WordAt 0 W' u r.R ∧ AgainAt w F pm bt bl ph ht hl (c + 1) W' := by
  obtain ⟨T, G, h1, h2, rfl⟩ := h.m
  have hS := saysM h2 hF (by omega) t l p hp v hw
  refine hS.mono ?_
  rintro e W' ⟨v', rfl, ⟨a, n, k, rfl⟩, h5, h6, hT⟩
  have hge := h.ge
  exact ⟨a, n, k, rfl, h5, hu.keep (h2.keepC hT), hT.below h.bel h.bel.size (by simp; omega), h.ge, ⟨_, _, h1.other hT (fun k hk => hk), h6⟩⟩
/-- What lies at an ask among asks, wherever in worlds behind. -/
theorem AsksIn.len {w : World} {v : Value} {L : List AskC} (h : AsksIn w v L) : ∃ ao n cap, n = L.length ∧ v = .slice ao n cap ∧ ∀ i x, L[i]? = some x → ∃ ad, ao = some ad ∧ AskIn w (ad.add (i * 4)) x := by
  rcases h with ⟨rfl, rfl⟩ | ⟨ad, cap, rfl, _, _, h2⟩
  · exact ⟨none, 0, 0, rfl, rfl, fun i x h => by simp at h⟩
  · exact ⟨some ad, _, cap, rfl, rfl, fun i x hx => ⟨ad, rfl, h2 i x hx⟩⟩
theorem ask_cells4 {w W : World} {ad : Addr} {x : AskC} {v : Value} (h : ∀ j u, (askL x v)[j]? = some u → w.cell? (ad.add j) = some u) (hW : Below w.heap.size w W) :
    W.cell? ad = some (.int .i64 x.t) ∧ W.cell? ⟨ad.block, ad.off + 1, none⟩ = some (.int .i64 x.l) ∧ W.cell? ⟨ad.block, ad.off + 2, none⟩ = some (.int .u8 x.p.s) ∧ W.cell? ⟨ad.block, ad.off + 3, none⟩ = some v := by
  have hk : ∀ j u, (askL x v)[j]? = some u → W.cell? (ad.add j) = some u := fun j u hj => by
    have h0 := h j u hj
    exact below_cell h0 hW (World.block_lt_of_cell? w _ h0)
  have e : ∀ j, ad.add (j + 1) = ⟨ad.block, ad.off + (j + 1), none⟩ := fun j => by
    unfold Addr.add
    rw [if_neg (by omega)]
  have e0 : ad.add 0 = ad := by simp [Addr.add]
  exact ⟨by have := hk 0 _ rfl; rwa [e0] at this, by have := hk 1 _ rfl; rwa [e 0] at this, by have := hk 2 _ rfl; rwa [e 1] at this, by have := hk 3 _ rfl; rwa [e 2] at this⟩
def InvAgain (w : World) (F : FaultC) (pm bt bl ph ht hl : Nat) (ao : Option Addr) (n cap : Nat) (k : Nat) (a : Act) (wr : World) : Prop :=
  ∃ i, i + k = n ∧ Hid (AgainAt w F pm bt bl ph ht hl i wr) ∧ a.tmps.size = 90 ∧ a.defers = [] ∧ slot a 2 = .slice ao n cap ∧ slot a 7 = .pointer (some ⟨pm, 0, none⟩) ∧ slot a 9 = .pointer (some ⟨ph, 0, none⟩) ∧ slot a 11 = .int .i64 i
set_option maxHeartbeats 8000000 in
theorem again_long (w : World) (n0 nd lk : Int) (u : Value) (S : List SpellC) (hs : SpAt 0 w u S) (ao : Option Addr) (n cap : Nat) (hn : 60 < n) :
    Calls Try.prog 9 #[.int .i64 n0, .agg #[.int .i64 nd, .int .i64 lk, u], .slice ao n cap] w fun e w' => e = .returned (.bool true) ∧ Below w.heap.size w w' := by
  obtain ⟨sa, sn, sc, rfl, hsn⟩ : ∃ a n c, u = .slice a n c ∧ n = S.length := by
    rcases hs with ⟨rfl, h⟩ | ⟨ad, cap, rfl, _⟩
    · exact ⟨_, _, _, rfl, by rw [h]; rfl⟩
    · exact ⟨_, _, _, rfl, rfl⟩
  have hb0 := below_alloc w (.cells #[.int .i64 nd, .int .i64 lk, .slice sa sn sc] 34)
  have k0 : Blk (w.alloc (.cells #[.int .i64 nd, .int .i64 lk, .slice sa sn sc] 34)) w.heap.size #[.int .i64 nd, .int .i64 lk, .slice sa sn sc] 34 := Blk.new w _ _
  have hLv := Lib.hid (fun W => lives29 W)
  replace hb0 := Lib.hid hb0
  clear k0 hs hsn
  have g1 : decide ((60 : Int) < (n : Int)) = true := by simp; omega
  go_enter Try.func9, Try.ntmps9
  go_wp2_with fail
  refine (hLv.out _).mono ?_
  rintro e w3 ⟨rfl, hb3⟩
  have hb13 := Lib.hid (bthen hb0.out hb3)
  go_wp2_with fail
  go_ret
  exact ⟨rfl, hb13.out⟩
set_option maxHeartbeats 8000000 in
theorem again_bad (w : World) (n0 nd lk : Int) (u : Value) (S : List SpellC) (hs : SpAt 0 w u S) (ao : Option Addr) (n cap : Nat) (hn : ¬ 60 < n) (hF : faultB n0 nd lk S.length = false) :
    Calls Try.prog 9 #[.int .i64 n0, .agg #[.int .i64 nd, .int .i64 lk, u], .slice ao n cap] w fun e w' => e = .returned (.bool true) ∧ Below w.heap.size w w' := by
  obtain ⟨sa, sn, sc, rfl, hsn⟩ : ∃ a n c, u = .slice a n c ∧ n = S.length := by
    rcases hs with ⟨rfl, h⟩ | ⟨ad, cap, rfl, _⟩
    · exact ⟨_, _, _, rfl, by rw [h]; rfl⟩
    · exact ⟨_, _, _, rfl, rfl⟩
  have hb0 := below_alloc w (.cells #[.int .i64 nd, .int .i64 lk, .slice sa sn sc] 34)
  have k0 : Blk (w.alloc (.cells #[.int .i64 nd, .int .i64 lk, .slice sa sn sc] 34)) w.heap.size #[.int .i64 nd, .int .i64 lk, .slice sa sn sc] 34 := Blk.new w _ _
  have hLv := Lib.hid (fun W => lives29 W)
  rw [← hsn] at hF
  have hN := Lib.hid (fun W => newBad W n0 nd lk sa sn sc hF)
  replace hb0 := Lib.hid hb0
  clear hs hsn hF
  have g1 : decide ((60 : Int) < (n : Int)) = false := by simp; omega
  go_enter Try.func9, Try.ntmps9
  go_upto_region 3 with fail
  generalize w.alloc (.cells #[.int .i64 nd, .int .i64 lk, .slice sa sn sc] 34) = w1 at *
  have d0 := k0.cell (i := 0) rfl
  have d1 := k0.cell (i := 1) rfl
  have d2 := k0.cell (i := 2) rfl
  have l0 := k0.lt
  replace k0 := Lib.hid k0
  go_wp2_with fail
  refine (hN.out _).mono ?_
  rintro e w2 ⟨rfl, hb2⟩
  have hb02 := Lib.hid (bthen hb0.out hb2)
  have k2 := k0.out.below hb2 k0.out.lt
  clear d0 d1 d2 l0 k0 hb0 hb2
  have d0 := k2.cell (i := 0) rfl
  have d1 := k2.cell (i := 1) rfl
  have d2 := k2.cell (i := 2) rfl
  have l0 := k2.lt
  replace k2 := Lib.hid k2
  go_wp2_with fail
  refine (hN.out _).mono ?_
  rintro e w3 ⟨rfl, hb3⟩
  have hb03 := Lib.hid (bthen hb02.out hb3)
  clear d0 d1 d2 l0 k2 hb02 hb3
  go_wp2_with fail
  refine (hLv.out _).mono ?_
  rintro e w4 ⟨rfl, hb4⟩
  have hb13 := Lib.hid (bthen hb03.out hb4)
  go_wp2_with fail
  go_ret
  exact ⟨rfl, hb13.out⟩
/-- Rows that are fine are alike with themselves. -/
theorem alikeFine (w : World) (s : Int) (R : List RowC) (hR : RowsFine R) (v v' : Value) (hw : WordAt 0 w v R) (hw' : WordAt 0 w v' R) :
    Calls Try.prog 20 #[.agg #[.int .u8 s, v], .agg #[.int .u8 s, v']] w fun e w' => e = .returned (.bool true) ∧ Below w.heap.size w w' := by
  have := alikeR w s s v v' R R hw hw' rfl (RowsNear.self _) hR.ok hR.ok (by have := hR.n; omega) (fun r hr => by have := hR.t r hr; omega)
  rw [sameRows_self hR.ok] at this
  exact this
theorem AgainAt.make {w W2 W3 : World} {F : FaultC} {pm bt bl ph ht hl : Nat} (hb : Below w.heap.size w W2) (h1 : Mo W2 pm bt bl 0 F (fun _ => none) (fun _ => none) []) (g1 : w.heap.size ≤ bt ∧ w.heap.size ≤ bl ∧ bt < W2.heap.size ∧ bl < W2.heap.size) (hb3 : Below W2.heap.size W2 W3) (h2 : Mo W3 ph ht hl 0 F (fun _ => none) (fun _ => none) [bt, bl]) (g2 : W2.heap.size ≤ ht ∧ W2.heap.size ≤ hl ∧ ht < W3.heap.size ∧ hl < W3.heap.size) : AgainAt w F pm bt bl ph ht hl 0 W3 :=
  ⟨bthen hb hb3, ⟨g1.1, g1.2.1, by have := hb.size; omega, by have := hb.size; omega⟩, _, _, h1.grow hb3 (by simp; omega), h2⟩
set_option maxHeartbeats 8000000 in
theorem again_good (w : World) (F : FaultC) (hF : FaultOk F) (u : Value) (hs : SpAt 0 w u F.S) (v : Value) (L : List AskC) (hL : AsksIn w v L) (hf : ∀ x ∈ L, AskFit x) (hn : L.length ≤ 60) :
    Calls Try.prog 9 #[.int .i64 F.m, .agg #[.int .i64 F.nd, .int .i64 F.lk, u], v] w fun e w' => e = .returned (.bool true) ∧ Below w.heap.size w w' := by
  obtain ⟨ao, n, cap, hnL, rfl, hA⟩ := hL.len
  rw [← hnL] at hn
  have hN := Lib.hid (fun (W : World) (hW : Below w.heap.size w W) A hA => newM W F hF u (hs.keep (KeepC.of_below hW)) A hA)
  obtain ⟨sa, sn, sc, rfl⟩ : ∃ a n c, u = .slice a n c := by
    rcases hs with ⟨rfl, h⟩ | ⟨ad, cap, rfl, _⟩
    · exact ⟨_, _, _, rfl⟩
    · exact ⟨_, _, _, rfl⟩
  have hb0 := Lib.hid (below_alloc w (.cells #[.int .i64 F.nd, .int .i64 F.lk, .slice sa sn sc] 34))
  have k0 : Blk (w.alloc (.cells #[.int .i64 F.nd, .int .i64 F.lk, .slice sa sn sc] 34)) w.heap.size #[.int .i64 F.nd, .int .i64 F.lk, .slice sa sn sc] 34 := Blk.new w _ _
  have hLv := Lib.hid (fun W => lives29 W)
  have hask : Hid (∀ i : Nat, i < n → ∃ ad x va vn vc, ao = some ad ∧ AskFit x ∧ WordAt 0 w (.slice va vn vc) x.p.R ∧ ∀ W, Below w.heap.size w W → W.cell? (ad.add (i * 4)) = some (.int .i64 x.t) ∧ W.cell? ⟨(ad.add (i * 4)).block, (ad.add (i * 4)).off + 1, none⟩ = some (.int .i64 x.l) ∧ W.cell? ⟨(ad.add (i * 4)).block, (ad.add (i * 4)).off + 2, none⟩ = some (.int .u8 x.p.s) ∧ W.cell? ⟨(ad.add (i * 4)).block, (ad.add (i * 4)).off + 3, none⟩ = some (.slice va vn vc)) := fun i hi => by
    obtain ⟨x, hx⟩ : ∃ x, L[i]? = some x := ⟨_, List.getElem?_eq_getElem (by omega)⟩
    obtain ⟨ad, rfl, v, hv, hc⟩ := hA i x hx
    obtain ⟨va, vn, vc, _, rfl, _⟩ := hv.len
    exact ⟨ad, x, va, vn, vc, rfl, hf x (List.mem_of_getElem? hx), hv, fun W hW => ask_cells4 hc hW⟩
  clear hL hf hA hs hnL L
  have hFm := Lib.hid hF
  clear hF
  generalize F.m = m at *
  generalize F.nd = nd at *
  generalize F.lk = lk at *
  have g1 : decide ((60 : Int) < (n : Int)) = false := by simp; omega
  go_enter Try.func9, Try.ntmps9
  go_upto_region 3 with fail
  generalize w.alloc (.cells #[.int .i64 nd, .int .i64 lk, .slice sa sn sc] 34) = w1 at *
  have d0 := k0.cell (i := 0) rfl
  have d1 := k0.cell (i := 1) rfl
  have d2 := k0.cell (i := 2) rfl
  have l0 := k0.lt
  replace k0 := Lib.hid k0
  go_wp2_with fail
  refine (hN.out _ hb0.out [] (by simp)).mono ?_
  rintro e w2 ⟨pm, bt, bl, rfl, hM, hb2, _, e1, e2, e3, e4⟩
  have hb02 := Lib.hid (bthen hb0.out hb2)
  have hM1 := Lib.hid hM
  have hge1 : Hid (w.heap.size ≤ bt ∧ w.heap.size ≤ bl ∧ bt < w2.heap.size ∧ bl < w2.heap.size) := by
    have := hb0.out.size
    exact ⟨by omega, by omega, e3, e4⟩
  have k2 := k0.out.below hb2 k0.out.lt
  clear d0 d1 d2 l0 k0 hb0 hb2 hM e1 e2 e3 e4
  have d0 := k2.cell (i := 0) rfl
  have d1 := k2.cell (i := 1) rfl
  have d2 := k2.cell (i := 2) rfl
  have l0 := k2.lt
  clear k2
  go_wp2_with fail
  refine (hN.out _ hb02.out [bt, bl] (by have := hge1.out; simp; omega)).mono ?_
  rintro e w3 ⟨ph, ht, hl, rfl, hM, hb3, _, e1, e2, e3, e4⟩
  have hV : Hid (AgainAt w F pm bt bl ph ht hl 0 w3) := AgainAt.make hb02.out hM1.out hge1.out hb3 hM ⟨e1, e2, e3, e4⟩
  clear d0 d1 d2 l0 hb02 hb3 hM hM1 hge1 e1 e2 e3 e4 hN
  go_wp2_with fail
  refine wp_loop_k (InvAgain w F pm bt bl ph ht hl ao n cap) n ?_ ?_
  · exact ⟨0, by omega, hV, by kernel_rfl, rfl, by kernel_rfl, by kernel_rfl, by kernel_rfl, by kernel_rfl⟩
  clear hV
  intro gk a wr hI K hK
  obtain ⟨i, hi0, hV, hs', hd', k2', k7', k9', k11'⟩ := hI
  rw [fr90 a hs' hd']; simp only [k2', k7', k9', k11']; clear hs' hd' k2' k7' k9' k11'
  by_cases hlt : i < n
  · have g1 : decide ((i : Int) < (n : Int)) = true := by simp; omega
    have g2 : (i : Int) < (n : Int) := by omega
    have g3 : IntKind.i64.wrap ((i : Int) + 1) = ((i + 1 : Nat) : Int) := by rw [wrapI _ (by omega) (by omega)]; omega
    obtain ⟨ad, ⟨t, l, ⟨s, R⟩⟩, va, vn, vc, rfl, hx, hv, hc⟩ := hask.out i hlt
    simp only at hc hv
    replace hx := Lib.hid hx
    replace hv := Lib.hid hv
    replace hc := Lib.hid hc
    obtain ⟨d0, d1, d2, d3⟩ := hc.out _ hV.out.bel
    replace hK := Lib.hid hK
    go_wp2_with fail
    refine (greatR _ s _ ⟨va, vn, vc, rfl⟩ R (hv.out.below hV.out.bel) hx.out.R).mono ?_
    rintro e w4 ⟨g, rfl, hb4, hg⟩
    replace hV := Lib.hid (hV.out.below hb4)
    replace hg := Lib.hid hg
    clear hb4 d0 d1 d2 d3
    cases g
    · obtain ⟨hn2, ht2⟩ := hg.out rfl
      have hp : Hid (PostOk ⟨s, R⟩) := ⟨hx.out.s, hx.out.R.ok, hn2, ht2⟩
      clear hn2 ht2 hg
      have hQ : Hid (AgainAt w F pm bt bl ph ht hl i w4.drew) := hV.out.below (below_drewN w4 1)
      have hR : Hid (Below w.heap.size w w4.drew) := hQ.out.bel
      clear hV
      go_upto_region 12 with fail
      go_region_held3 (fun W => W.cell? (ad.add (i * 4)) = some (.int .i64 t) ∧ W.cell? ⟨(ad.add (i * 4)).block, (ad.add (i * 4)).off + 1, none⟩ = some (.int .i64 l) ∧ W.cell? ⟨(ad.add (i * 4)).block, (ad.add (i * 4)).off + 2, none⟩ = some (.int .u8 s) ∧ W.cell? ⟨(ad.add (i * 4)).block, (ad.add (i * 4)).off + 3, none⟩ = some (.slice va vn vc))
        (exact hc.out _ hR.out)
        (first
          | (go_at_call 17
             (with_reducible refine (AgainAt.says hQ.out hFm.out (by omega) t l ⟨s, R⟩ hp.out _ (hv.out.below hR.out)).mono ?_)
             rintro e wn ⟨r, an, nn, cn, rfl, hX, hXf, hRn⟩
             replace hR : Hid (Below w.heap.size w wn) := hRn.bel
             replace hQ := Lib.hid hRn
             replace hX := Lib.hid hX
             replace hXf := Lib.hid hXf
             clear hRn)
          | (go_at_call 17
             (with_reducible refine (HalfAt.says hQ.out hFm.out (by omega) hp.out _ (hv.out.below hR.out) _ hX.out).mono ?_)
             rintro e wn ⟨am, nm, cm, rfl, hY, hX2, hRn⟩
             replace hR : Hid (Below w.heap.size w wn) := hRn.bel
             replace hQ := Lib.hid hRn
             replace hX := Lib.hid hX2
             replace hY := Lib.hid hY
             clear hRn hX2)
          | (go_at_call 20
             (with_reducible refine (alikeFine _ _ _ hXf.out _ _ hX.out hY.out).mono ?_)
             rintro e wn ⟨rfl, hbn⟩
             replace hQ := Lib.hid (hQ.out.below hbn)
             replace hR := Lib.hid (bthen hR.out hbn)
             clear hX hY hbn)
          | fail)
      clear hR hc hv hx hp hXf hask hLv
      go_wp2_with fail
      exact hK.out (n - (i + 1)) _ _ (by omega) ⟨i + 1, by omega, hQ, by kernel_rfl, rfl, by kernel_rfl, by kernel_rfl, by kernel_rfl, by kernel_rfl⟩
    · go_wp2_with fail
      refine (hLv.out _).mono ?_
      rintro e w5 ⟨rfl, hb5⟩
      have hb13 := Lib.hid (bthen hV.out.bel hb5)
      go_wp2_with fail
      go_ret
      exact ⟨rfl, hb13.out⟩
  have g1 : decide ((i : Int) < (n : Int)) = false := by simp; omega
  have g2 : ¬ (i : Int) < (n : Int) := by omega
  have hb3 := Lib.hid hV.out.bel
  clear hV
  go_wp2_with fail
  refine (hLv.out _).mono ?_
  rintro e w4 ⟨rfl, hb4⟩
  have hb13 := Lib.hid (bthen hb3.out hb4)
  go_wp2_with fail
  go_ret
  exact ⟨rfl, hb13.out⟩
theorem faultB_ok {n0 nd lk : Int} {S : List SpellC} (h : faultB n0 nd lk S.length = true) (hS : ∀ s ∈ S, SpellOk s) : ∃ F : FaultC, FaultOk F ∧ (F.m : Int) = n0 ∧ F.nd = nd ∧ F.lk = lk ∧ F.S = S := by
  unfold faultB at h
  simp only [Bool.and_eq_true, decide_eq_true_eq] at h
  obtain ⟨⟨⟨h1, h2⟩, h3⟩, h4⟩ := h
  have e : ((n0.toNat : Nat) : Int) = n0 := by omega
  exact ⟨⟨n0.toNat, nd, lk, S⟩, ⟨by simp only; omega, by simp only; omega, by simp only; omega, h4, hS⟩, e, rfl, rfl, rfl⟩
theorem faultsAgain_any (w : World) (n0 nd lk : Int) (u : Value) (S : List SpellC) (hs : SpAt 0 w u S) (hS : ∀ s ∈ S, SpellOk s) (ao : Option Addr) (n cap : Nat) (L : List AskC) (hL : AsksIn w (.slice ao n cap) L) (hf : ∀ x ∈ L, AskFit x) :
    Calls Try.prog 9 #[.int .i64 n0, .agg #[.int .i64 nd, .int .i64 lk, u], .slice ao n cap] w fun e w' => e = .returned (.bool true) ∧ Below w.heap.size w w' := by
  by_cases hn : 60 < n
  · exact again_long w n0 nd lk u S hs ao n cap hn
  cases hB : faultB n0 nd lk S.length with
  | false => exact again_bad w n0 nd lk u S hs ao n cap hn hB
  | true =>
    obtain ⟨F, hF, rfl, rfl, rfl, rfl⟩ := faultB_ok hB hS
    refine again_good w F hF u hs _ L hL hf ?_
    obtain ⟨ao', n', cap', h1, h2, _⟩ := hL.len
    simp only [Value.slice.injEq] at h2
    omega
end Go.Proofs.Ytmdohnbhogfopaa
