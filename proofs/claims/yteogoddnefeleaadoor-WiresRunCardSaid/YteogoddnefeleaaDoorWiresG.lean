/- Wires in the laws: nodes, links' ends, wires by what they hold, contracts in short. -/
import Derived.Test.YteogoddnefeleaaDoorWiresF
namespace Go.Proofs.YteogoddnefeleaaDoor
open Go.RowKit Go.Maps
set_option linter.unusedSimpArgs false
set_option linter.unusedVariables false
set_option maxRecDepth 100000
def nodesN (x : Int) : Nat := (4 + x % 13).toNat
theorem nodesN_in {x : Int} : 4 ≤ nodesN x ∧ nodesN x ≤ 16 := by unfold nodesN; omega
theorem lawNodes8 (w : World) (x : Int) (hx : 0 ≤ x) (hx' : x < 256) : Calls Tryd.prog 33 #[.int .u8 x] w fun e w' => e = .returned (.int .i64 (nodesN x)) ∧ w = w' := by
  have e1 : IntKind.i64.wrap x = x := wrap_near _ (by omega) (by omega)
  have e2 : Int.tmod x 13 = x % 13 := Int.tmod_eq_emod_of_nonneg hx
  have e3 : IntKind.i64.wrap (x % 13) = x % 13 := wrap_near _ (by omega) (by omega)
  have e4 : IntKind.i64.wrap (4 + x % 13) = nodesN x := by rw [wrap_near _ (by omega) (by omega)]; unfold nodesN; omega
  clear hx hx'
  go_enter Tryd.func33, Tryd.ntmps33
  go_wp2
  go_ret
  exact ⟨by simp [*], rfl⟩
theorem ends_facts {m k : Int} (h : 4 ≤ m ∧ m ≤ 16) (hk : 0 ≤ k ∧ k < 4 * m) :
    linkOf m (endD m k) (endT m k) (endH m k) = k ∧ srcI m (endD m k) (endT m k) (endH m k) = endF m k ∧ endH m k = k % 2 + 1 ∧ 0 ≤ endD m k := by
  have he : okE m k = true := by simp [okE, okR]; omega
  have e1 : endF m k = k / 4 := by simp [endF, he]
  have e2 : endD m k = k % 4 / 2 := by simp [endD, he]
  have e3 : endH m k = k % 2 + 1 := by simp [endH, he]
  have hd : 0 ≤ endD m k := by omega
  have hs : srcK m (endD m k) (endT m k) (endH m k) = k := (srcK_iff hd hk.1).2 ⟨by omega, rfl, rfl, rfl⟩
  have hS := srcI_of_srcK hd hk.1 hs
  refine ⟨?_, hS, e3, hd⟩
  unfold linkOf
  rw [hS]
  exact (linkI_iff hd hk.1).2 ⟨by omega, rfl, rfl, rfl⟩
/-- Wires by what they hold. -/
def WA (B : Nat) (w : World) (pw n c : Nat) (p1 p2 g : Int → Option Int) (t : Int) : Prop := ∃ bl bg ng lb lw, ng ≤ c ∧ WiresAt B w pw bl bg n ng lb lw p1 p2 g t
theorem WA.drewN {B : Nat} {w : World} {pw n c : Nat} {p1 p2 g : Int → Option Int} {t : Int} (h : WA B w pw n c p1 p2 g t) (q : Nat) : WA B (w.drewN q) pw n c p1 p2 g t := by
  obtain ⟨bl, bg, ng, lb, lw, h1, h2⟩ := h
  exact ⟨bl, bg, ng, lb, lw, h1, h2.drewN q⟩
theorem WA.mono {B : Nat} {w : World} {pw n c c' : Nat} {p1 p2 g : Int → Option Int} {t : Int} (h : WA B w pw n c p1 p2 g t) (hc : c ≤ c') : WA B w pw n c' p1 p2 g t := by
  obtain ⟨bl, bg, ng, lb, lw, h1, h2⟩ := h
  exact ⟨bl, bg, ng, lb, lw, by omega, h2⟩
theorem aNew (w : World) (n : Nat) (hn : 4 ≤ n ∧ n ≤ 16) (hs : Signs w) : Calls Tryd.prog 34 #[.int .i64 n] w fun e w' => ∃ pw, e = .returned (.tuple #[.pointer (some ⟨pw, 0, none⟩), .int .i64 0]) ∧ WA w.heap.size w' pw n 0 noneG noneG noneG 0 ∧ Below w.heap.size w w' := by
  refine (wNew w n hn hs).mono ?_
  rintro e w' ⟨pw, bl, bg, lb, lw, rfl, h, hb⟩
  exact ⟨pw, rfl, ⟨bl, bg, 0, lb, lw, Nat.le_refl _, h⟩, hb⟩
theorem aGive {B : Nat} {w : World} {pw n c : Nat} {p1 p2 g : Int → Option Int} {t : Int} (h : WA B w pw n c p1 p2 g t) (hc : c < 1000000000) (k v : Int) (hk : (Lit.int .i64 k).wf = true) (hv : (Lit.int .i64 v).wf = true) :
    Calls Tryd.prog 35 #[.pointer (some ⟨pw, 0, none⟩), .int .i64 k, .int .i64 v] w fun e w' => e = .returned (.int .i64 (mayE n k)) ∧ WA B w' pw n (c + 1) p1 p2 (giveG n g k v) t ∧ Below B w w' ∧ w.heap.size ≤ w'.heap.size := by
  obtain ⟨bl, bg, ng, lb, lw, h1, h2⟩ := h
  refine (wGive h2 (by omega) k v hk hv).mono ?_
  rintro e w' ⟨rfl, ⟨ng', h3, h4⟩, ht⟩
  have hB : ∀ k ∈ [bg], B ≤ k := by simpa using h2.ge.2.2.1
  have hlt : B ≤ w.heap.size := by have := h2.ge.1; have := h2.blk.lt; omega
  exact ⟨rfl, ⟨bl, bg, ng', lb, lw, by omega, h4⟩, ht.below (Below.refl _ _) hlt hB, ht.size⟩
theorem aTake {B : Nat} {w : World} {pw n c : Nat} {p1 p2 g : Int → Option Int} {t : Int} (h : WA B w pw n c p1 p2 g t) (k : Int) (hk : (Lit.int .i64 k).wf = true) :
    Calls Tryd.prog 40 #[.pointer (some ⟨pw, 0, none⟩), .int .i64 k] w fun e w' => e = .returned (.int .i64 (mayE n k)) ∧ WA B w' pw n c p1 p2 (takeG n g k) t ∧ Below B w w' ∧ w.heap.size ≤ w'.heap.size := by
  obtain ⟨bl, bg, ng, lb, lw, h1, h2⟩ := h
  refine (wTake h2 k hk).mono ?_
  rintro e w' ⟨rfl, h4, ht⟩
  have hB : ∀ k ∈ [bg], B ≤ k := by simpa using h2.ge.2.2.1
  have hlt : B ≤ w.heap.size := by have := h2.ge.1; have := h2.blk.lt; omega
  exact ⟨rfl, ⟨bl, bg, ng, lb, lw, by omega, h4⟩, ht.below (Below.refl _ _) hlt hB, ht.size⟩
theorem aGiven {B : Nat} {w : World} {pw n c : Nat} {p1 p2 g : Int → Option Int} {t : Int} (h : WA B w pw n c p1 p2 g t) (k : Int) (hk : (Lit.int .i64 k).wf = true) :
    Calls Tryd.prog 39 #[.pointer (some ⟨pw, 0, none⟩), .int .i64 k] w fun e w' => e = .returned (.tuple #[.int .i64 ((givenO n g k).getD 0), .bool (givenO n g k).isSome]) ∧ w = w' := by
  obtain ⟨bl, bg, ng, lb, lw, h1, h2⟩ := h
  exact wGiven h2 k hk
theorem aTicks {B : Nat} {w : World} {pw n c : Nat} {p1 p2 g : Int → Option Int} {t : Int} (h : WA B w pw n c p1 p2 g t) :
    Calls Tryd.prog 46 #[.pointer (some ⟨pw, 0, none⟩)] w fun e w' => e = .returned (.int .i64 t) ∧ w = w' := by
  obtain ⟨bl, bg, ng, lb, lw, h1, h2⟩ := h
  exact wTicks h2
theorem aHere {B : Nat} {w : World} {pw n c : Nat} {p1 p2 g : Int → Option Int} {t : Int} (h : WA B w pw n c p1 p2 g t) (hs : Signs w) (d node hop : Int) (hd : 0 ≤ d) (o : Option Int) (ho : hereO n p1 p2 (linkOf n d node hop) = o) :
    Calls Tryd.prog 37 #[.pointer (some ⟨pw, 0, none⟩), .int .u8 d, .int .i64 node, .int .i64 hop] w fun e w' => e = .returned (.tuple #[.int .i64 (o.getD 0), .bool o.isSome]) ∧ ∃ q, w' = w.drewN q := by
  obtain ⟨bl, bg, ng, lb, lw, h1, h2⟩ := h
  subst ho
  exact wHere h2 hs d node hop hd
theorem aEnd {B : Nat} {w : World} {pw n c : Nat} {p1 p2 g : Int → Option Int} {t : Int} (h : WA B w pw n c p1 p2 g t) (ht : 0 ≤ t ∧ t < 9223372036854775800) :
    Calls Tryd.prog 36 #[.pointer (some ⟨pw, 0, none⟩)] w fun e w' => e = .returned (.int .i64 0) ∧ WA B w' pw n 0 g p1 noneG (t + 1) ∧ Below B w w' ∧ w.heap.size ≤ w'.heap.size := by
  obtain ⟨bl, bg, ng, lb, lw, h1, h2⟩ := h
  refine (wEnd h2 ht).mono ?_
  rintro e w' ⟨rfl, h3, hb, hz, _⟩
  exact ⟨rfl, ⟨bl, bg, 0, lb, lw, Nat.le_refl _, h3⟩, hb, hz⟩
theorem WA.size {B : Nat} {w : World} {pw n c : Nat} {p1 p2 g : Int → Option Int} {t : Int} (h : WA B w pw n c p1 p2 g t) : B ≤ w.heap.size := by
  obtain ⟨bl, bg, ng, lb, lw, h1, h2⟩ := h
  have := h2.ge.1
  have := h2.blk.lt
  omega
/-- What was given j ticks ago, in tick 'tick' behind the one in which G was given. -/
def pF (G : Int → Option Int) (j tick : Nat) : Int → Option Int := if tick = j then G else noneG
theorem here_pF {m : Nat} {G : Int → Option Int} {tick : Nat} {k : Int} (hk : 0 ≤ k ∧ k < 4 * m) : hereO m (pF G 1 tick) (pF G 2 tick) k = if (tick : Int) = k % 2 + 1 then G k else none := by
  unfold hereO pF
  rw [if_pos hk]
  by_cases h : k % 2 = 0
  · rw [if_pos h]
    by_cases h1 : tick = 1
    · rw [if_pos h1, if_pos (by omega)]
    · rw [if_neg h1, if_neg (by omega)]
      rfl
  · rw [if_neg h]
    by_cases h1 : tick = 2
    · rw [if_pos h1, if_pos (by omega)]
    · rw [if_neg h1, if_neg (by omega)]
      rfl
theorem pF_next (G : Int → Option Int) (tick : Nat) : pF G 1 (tick + 1) = (if tick = 0 then G else noneG) ∧ pF G 2 (tick + 1) = pF G 1 tick := by
  unfold pF
  exact ⟨by simp, by simp⟩
theorem int_wf {x : Int} (h : -9223372036854775808 ≤ x ∧ x ≤ 9223372036854775807) : (Lit.int .i64 x).wf = true := by
  have h1 : IntKind.i64.min = -9223372036854775808 := by decide
  have h2 : IntKind.i64.max = 9223372036854775807 := by decide
  simp [Lit.wf, h1, h2]
  omega
end Go.Proofs.YteogoddnefeleaaDoor
