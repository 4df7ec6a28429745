/- CatchesCut: the plain law, the walk. -/
import Derived.Test.YtbfbpagfmhdblaaCatchG
namespace Go.Proofs.Ytbfbpagfmhdblaa
open Go.RowKit
set_option linter.unusedSimpArgs false
set_option linter.unusedVariables false
set_option maxRecDepth 100000
theorem unlike_at {N F : Nat → Int} {m : Nat} (h : ∀ i, i < m → N i = F i ∧ N i ≠ 0) (hm : N m ≠ F m ∨ N m = 0) : ∀ n, m < n → unlikeI N F n = m
  | 0, h0 => by omega
  | n + 1, h0 => by
    rw [unlikeI]
    by_cases h1 : m < n
    · rw [unlike_at h hm n h1, if_neg (by rintro ⟨h2, _⟩; omega)]
    · obtain rfl : m = n := by omega
      rw [if_pos ⟨unlike_none.2 h, hm⟩]
/-- The lists that are cut. -/
def cutN (SL : Nat → Int) (One Both i : Nat) : Int := if i = Both then 7 else if i = One then 0 else SL i
def cutF (SL : Nat → Int) (Both i : Nat) : Int := if i = Both then 0 else SL i
theorem cut_law {SL : Nat → Int} {One Both : Nat} (o : Int) (hS : ∀ p, p < 114 → SL p = 1 ∨ SL p = 2) (h1 : One < 112) (h2 : Both < 112) :
    (∀ i, i < 114 → outI o (knL (cutN SL One Both) 114) (knL (cutF SL Both) 114) i = if i < Both then SL i else 0) ∧ cutB (knL (cutN SL One Both) 114) (knL (cutF SL Both) 114) 114 = true ∧
    highQ o (knL (cutN SL One Both) 114) (knL (cutF SL Both) 114) = false ∧ unlikeI (knL (cutN SL One Both) 114) (knL (cutF SL Both) 114) 114 = if Both < One then (Both : Int) else One := by
  have nB : knL (cutN SL One Both) 114 Both = 0 := by
    rw [knL, if_pos (by omega), cutN, if_pos rfl]; rfl
  have fB : knL (cutF SL Both) 114 Both = 0 := by
    rw [knL, if_pos (by omega), cutF, if_pos rfl]; rfl
  have nO : knL (cutN SL One Both) 114 One = 0 := by
    rw [knL, if_pos (by omega), cutN]
    split
    · rfl
    · rw [if_pos rfl]; rfl
  have nE : ∀ i, i < 114 → i ≠ Both → i ≠ One → knL (cutN SL One Both) 114 i = SL i := fun i hi a b => by
    rw [knL_one hi (by rw [cutN, if_neg a, if_neg b]; exact hS i hi), cutN, if_neg a, if_neg b]
  have fE : ∀ i, i < 114 → i ≠ Both → knL (cutF SL Both) 114 i = SL i := fun i hi a => by
    rw [knL_one hi (by rw [cutF, if_neg a]; exact hS i hi), cutF, if_neg a]
  generalize knL (cutN SL One Both) 114 = N at *
  generalize knL (cutF SL Both) 114 = F at *
  have hB : ∀ i, i < 114 → i ≠ Both → bodyI N F i = SL i := fun i hi a => by
    unfold bodyI
    split
    · rename_i h
      rw [nE i hi a (fun e => h (by rw [e]; exact nO))]
    · exact fE i hi a
  have hB0 : bodyI N F Both = 0 := by simp [bodyI, nB, fB]
  have hc : ∀ n, n ≤ 114 → cutB N F n = decide (Both < n) := fun n hn => by
    by_cases h : Both < n
    · rw [decide_eq_true h]
      cases hc : cutB N F n with
      | true => rfl
      | false => exact absurd hB0 (cut_none.1 hc Both h h2)
    · rw [decide_eq_false h]
      refine cut_none.2 fun i hi hi2 => ?_
      rw [hB i (by omega) (by omega)]
      have := hS i (by omega)
      omega
  have hhq : highQ o N F = false := by
    cases hh : highQ o N F with
    | false => rfl
    | true => have := high_uncut hh; rw [hc 114 (by omega)] at this; simp at this; omega
  refine ⟨fun i hi => ?_, by rw [hc 114 (by omega)]; simp; omega, hhq, ?_⟩
  · unfold outI
    by_cases h : i < Both
    · have e1 : ¬ (114 ≤ i ∨ cutB N F (i + 1) = true) := by rw [hc (i + 1) (by omega)]; simp; omega
      rw [if_pos h, if_neg e1, if_pos (by omega), hB i hi (by omega)]
    · have e1 : 114 ≤ i ∨ cutB N F (i + 1) = true := by rw [hc (i + 1) (by omega)]; simp; omega
      rw [if_neg h, if_pos e1]
  · split
    · rename_i h
      exact unlike_at (fun i hi => ⟨by rw [nE i (by omega) (by omega) (by omega), fE i (by omega) (by omega)], by rw [nE i (by omega) (by omega) (by omega)]; have := hS i (by omega); omega⟩) (.inr nB) _ (by omega)
    · rename_i h
      exact unlike_at (fun i hi => ⟨by rw [nE i (by omega) (by omega) (by omega), fE i (by omega) (by omega)], by rw [nE i (by omega) (by omega) (by omega)]; have := hS i (by omega); omega⟩) (.inr nO) _ (by omega)
theorem Mine.setNe {k : IntKind} {E : TypeId} {B : Nat} {w : World} {g n : Nat} {L : Nat → Int} (h : Mine k E B w (Option.some ⟨g, 0, Option.none⟩) n L) {p : Addr} (hne : g ≠ p.block) (u : Value) : Mine k E B (w.setCell p u) (Option.some ⟨g, 0, Option.none⟩) n L := fun hn => by
  obtain ⟨g', cur, h1, h2, h3, h4, h5⟩ := h hn
  simp only [Option.some.injEq, Addr.mk.injEq, and_true] at h1
  subst h1
  exact ⟨g, cur, rfl, h2, h3.setNe (a := p) hne u, h4, h5⟩
theorem rd_cell {k : IntKind} {W : World} {g n i : Nat} {L : Nat → Int} (h : Rd k W (some ⟨g, 0, none⟩) n L) (hi : i < n) : W.cell? ⟨g, i, none⟩ = some (.int k (L i)) := by
  obtain ⟨b, o, e1, e2⟩ := h i hi
  simp only [Option.some.injEq, Addr.mk.injEq, and_true] at e1
  obtain ⟨rfl, rfl⟩ := e1
  simpa using e2
def InvCut (wL : World) (b : Nat) (o : Int) (s ax : Option Addr) (cx : Nat) (ay : Option Addr) (cy : Nat) (One Both : Nat) (N F : Nat → Int) (k : Nat) (a : Act) (wr : World) : Prop :=
  ∃ (i : Nat) (v : Value), i + k = 114 ∧ Below wL.heap.size wL wr ∧ CatchAt wr b v o N F i ∧ (∀ q ∈ catchS b v, wL.heap.size ≤ q) ∧ a.tmps.size = 128 ∧ a.defers = [] ∧ slot a 8 = .slice s 114 114 ∧ slot a 9 = .int .i64 Both ∧ slot a 10 = .int .i64 One ∧ slot a 11 = .slice ax 114 cx ∧ slot a 12 = .slice ay 114 cy ∧ slot a 13 = .pointer (some ⟨b, 0, none⟩) ∧ slot a 15 = .int .i64 i
set_option maxHeartbeats 8000000 in
theorem catchesCut_any (w : World) (o k st sq v : Int) (z0 z1 : Nat) (ho : 0 ≤ o ∧ o < 256) (hk : 0 ≤ k ∧ k < 256) (hst : 0 ≤ st ∧ st < 256) (hsq : 0 ≤ sq ∧ sq < 4294967296) (hv : 0 ≤ v ∧ v < 4294967296) (hz0 : z0 < 256) (hz1 : z1 < 256) :
    Calls Try.prog 13 #[.int .u8 o, payV k st sq v, .agg #[.int .u8 z0, .int .u8 z1]] w fun e w' => e = .returned (.bool true) ∧ Below w.heap.size w w' := by
  obtain ⟨j0, hj0, hy0, hy1, hy2⟩ := info_parts elemS
  obtain ⟨kk, hkk, hkk2⟩ : ∃ kk : Int, 1 + k % 2 = kk ∧ (kk = 1 ∨ kk = 2) := ⟨_, rfl, by omega⟩
  obtain ⟨oo, hoo, hoo2⟩ : ∃ oo : Int, o % 8 = oo ∧ 0 ≤ oo ∧ oo < 8 := ⟨_, rfl, by omega⟩
  have u1 : IntKind.u8.wrap (1 + k % 2) = kk := by rw [IntKind.wrap_u8]; omega
  have u2 : IntKind.i64.wrap oo = oo := wrap_i64_small _ (by omega) (by omega)
  obtain ⟨Both, hB, hB2⟩ : ∃ F : Nat, (z0 : Int) % 112 = (F : Int) ∧ F < 112 := ⟨z0 % 112, by omega, by omega⟩
  obtain ⟨One, hO, hO2⟩ : ∃ F : Nat, (z1 : Int) % 112 = (F : Int) ∧ F < 112 := ⟨z1 % 112, by omega, by omega⟩
  have u3 : IntKind.i64.wrap (z0 : Int) = z0 := wrap_i64_small _ (by omega) (by omega)
  have u4 : IntKind.i64.wrap (z1 : Int) = z1 := wrap_i64_small _ (by omega) (by omega)
  have hm : mayB oo kk = true := by simp [mayB]; omega
  have G := Lib.hid (fun W => lawGood W oo kk st sq v (by omega) hm hst hsq hv)
  have NW := Lib.hid (fun W => catchNew W oo hoo2)
  obtain ⟨L1, L2, L3, L4⟩ := cut_law (SL := frSL oo kk st sq v true false) oo frSL_one hO2 hB2
  generalize frSL oo kk st sq v true false = SL at *
  have ST := Lib.hid (fun W b v n (h : CatchAt W b v oo (knL (cutN SL One Both) 114) (knL (cutF SL Both) 114) n) (hn : n < 114) => by
    have := catchStep W b v oo (knL (cutN SL One Both) 114) (knL (cutF SL Both) 114) n (cutN SL One Both n) (cutF SL Both n) hn (knL_in _ _) (knL_in _ _) (by rw [knL, if_pos hn]) (by rw [knL, if_pos hn]) h
    rw [L1 n hn] at this
    exact this)
  have HI := Lib.hid (fun W b v (h : CatchAt W b v oo (knL (cutN SL One Both) 114) (knL (cutF SL Both) 114) 114) => by
    have := catchHigh W b v oo (knL (cutN SL One Both) 114) (knL (cutF SL Both) 114) (knL_in _ _) (knL_in _ _) h
    rw [if_neg (by rw [L3]; simp), L3] at this
    exact this)
  have hCt : Hid (∀ W b v, CatchAt W b v oo (knL (cutN SL One Both) 114) (knL (cutF SL Both) 114) 114 → ∃ f cut wh hi, Ct W b oo (.func f #[.pointer (some ⟨b, 0, none⟩)] #[]) v 114 (if Both < One then (Both : Int) else One) cut wh hi) := fun W b v h => by
    have h1 := h.ct
    rw [L4] at h1
    have : ∃ f, nextV b (knL (cutN SL One Both) 114) (knL (cutF SL Both) 114) 114 = .func f #[.pointer (some ⟨b, 0, none⟩)] #[] := by
      rw [nextV, if_pos L2]
      split
      · exact ⟨_, rfl⟩
      · exact ⟨_, rfl⟩
    obtain ⟨f, hf⟩ := this
    rw [hf] at h1
    exact ⟨f, _, _, _, h1⟩
  have hnil : Hid (∀ W b, Ct W b oo (firstF b) (.slice none 0 0) 0 (-1) false false false → CatchAt W b (.slice none 0 0) oo (knL (cutN SL One Both) 114) (knL (cutF SL Both) 114) 0) := fun W b h => catchAt_new h
  generalize knL (cutN SL One Both) 114 = N at *
  generalize knL (cutF SL Both) 114 = F at *
  clear L1 L2 L3 L4 hm hsq hv hst
  unfold payV at *
  unfold frV at *
  go_enter Try.func13, Try.ntmps13
  go_wp2_with fail
  refine calls_abs (fun W => Below w.heap.size w W ∧ Blk W (w.heap.size + 1) #[.int .u8 z0, .int .u8 z1] 105) ⟨(below_alloc _ _).trans ((below_alloc _ _).mono (by simp)), by have := Blk.new (w.alloc (.cells #[.int .u8 kk, .int .u8 st, .int .u32 sq, .int .u32 v] 25)) #[.int .u8 z0, .int .u8 z1] 105; simpa using this⟩ ?_
  rintro w1 ⟨hb1, hZ1⟩
  refine (G.out w1).mono ?_
  rintro e w2 ⟨a2, rfl, m2, hb2⟩
  have hb02 := bthen hb1 hb2
  obtain ⟨⟨z00, z01⟩, _⟩ := tl_cells (hZ1.below hb2 hZ1.lt)
  have hw12 := hb1.size
  have m2' := Lib.hid (m2.mono hw12)
  obtain ⟨g2, rfl, hg2, hg2', _, _⟩ := m2.some (by omega)
  clear hZ1 m2 hb1 hb2 G hw12
  have xr2 := Lib.hid (m2'.out.rd)
  go_wp2_with (at_builtin; refine append_src rfl _ _ 40 rfl w2.heap.size 77 j0 (.int .u8 0) 1 Try.underlying40 hj0 hy0 hy1 hy2 rfl _ _ _ rfl (World.ownsRow_nil _ _ _ _) (some ⟨g2, 0, none⟩) 114 114 (nums .u8 SL 114) rfl (fun e => by simp at e) (nums_len _ _ _) (nums_news xr2.out) (nums_one _ _ _) (by omega) (by omega) (Nat.le_refl _) ?_)
  intro v3 w3 hown3 hg3 _
  have hb23 : Below w2.heap.size w2 w3 := Below.grown (Below.refl _ _) hg3 (Nat.le_refl _) (by simp [Value.ownBlock])
  try simp only [Nat.zero_add, List.nil_append] at hown3
  obtain ⟨a3, c3, rfl, h3a, h3b, h3c, m3⟩ := own_mine hown3
  obtain ⟨g3, rfl, hg3a, hg3b, _, _⟩ := m3.some (by omega)
  have hb03 := bthen hb02 hb23
  have xr3 := Lib.hid (xr2.out.below hb23 (Nat.le_refl _))
  replace m3 := Lib.hid m3
  clear hown3 hg3
  have hs23 := hb23.size
  go_wp2_with (at_builtin; refine append_src rfl _ _ 40 rfl w3.heap.size 77 j0 (.int .u8 0) 1 Try.underlying40 hj0 hy0 hy1 hy2 rfl _ _ _ rfl (World.ownsRow_nil _ _ _ _) (some ⟨g2, 0, none⟩) 114 114 (nums .u8 SL 114) rfl (fun e => by simp at e) (nums_len _ _ _) (nums_news xr3.out) (nums_one _ _ _) (by omega) (by omega) (Nat.le_refl _) ?_)
  intro v4 w4 hown4 hg4 _
  have hb34 : Below w3.heap.size w3 w4 := Below.grown (Below.refl _ _) hg4 (Nat.le_refl _) (by simp [Value.ownBlock])
  try simp only [Nat.zero_add, List.nil_append] at hown4
  obtain ⟨a4, c4, rfl, h4a, h4b, h4c, m4⟩ := own_mine hown4
  obtain ⟨g4, rfl, hg4a, hg4b, k4, f4⟩ := m4.some (by omega)
  have hb24 := bthen hb23 hb34
  have m34 := m3.out.below hb34 (Nat.le_refl _)
  obtain ⟨_, e3, _, hg3c, k3, f3⟩ := m34.some (by omega)
  simp only [Option.some.injEq, Addr.mk.injEq, and_true] at e3
  subst e3
  have k3O := k3 One (by omega)
  have f3O := f3 One
  have i1 : (One : Int) < 114 := by omega
  have i2 : (Both : Int) < 114 := by omega
  have hne34 : g3 ≠ g4 := by omega
  replace m4 := Lib.hid m4
  replace m34 := Lib.hid m34
  replace hb24 := Lib.hid hb24
  clear hown4 hg4 m3 xr3 hb34 hb23 hb03 k3 f3 k4 f4
  go_upto_region 11 with fail
  have m5 := m34.out.set One (by omega) 0 (fun j => if j = One then 0 else SL j) (fun j _ => rfl)
  have m54 := m4.out.setNe (p := ⟨g3, One, none⟩) (fun e => hne34 e.symm) (.int .u8 0)
  have hb25 := hb24.out.setCell (p := ⟨g3, One, none⟩) hg3a (.int .u8 0)
  generalize w4.setCell ⟨g3, One, none⟩ (.int .u8 0) = w5 at *
  obtain ⟨_, e3, _, hg3d, k3, f3⟩ := m5.some (by omega)
  simp only [Option.some.injEq, Addr.mk.injEq, and_true] at e3
  subst e3
  have k3B := k3 Both (by omega)
  have f3B := f3 Both
  replace m5 := Lib.hid m5
  replace m54 := Lib.hid m54
  replace hb25 := Lib.hid hb25
  clear m4 m34 hb24 k3O f3O k3 f3
  go_upto_region 12 with fail
  have m6 := m5.out.set Both (by omega) 7 (cutN SL One Both) (fun j _ => rfl)
  have m64 := m54.out.setNe (p := ⟨g3, Both, none⟩) (fun e => hne34 e.symm) (.int .u8 7)
  have hb26 := hb25.out.setCell (p := ⟨g3, Both, none⟩) hg3a (.int .u8 7)
  generalize w5.setCell ⟨g3, Both, none⟩ (.int .u8 7) = w6 at *
  obtain ⟨_, e3, _, hg4d, k3, f3⟩ := m64.some (by omega)
  simp only [Option.some.injEq, Addr.mk.injEq, and_true] at e3
  subst e3
  have k4B := k3 Both (by omega)
  have f4B := f3 Both
  replace m6 := Lib.hid m6
  replace m64 := Lib.hid m64
  replace hb26 := Lib.hid hb26
  clear m5 m54 hb25 k3B f3B k3 f3
  go_upto_region 13 with fail
  have m7 := Lib.hid (m6.out.setNe (p := ⟨g4, Both, none⟩) hne34 (.int .u8 0))
  have m74 := Lib.hid (m64.out.set Both (by omega) 0 (cutF SL Both) (fun j _ => rfl))
  have hb27 := hb26.out.setCell (p := ⟨g4, Both, none⟩) (Nat.le_trans hs23 hg4a) (.int .u8 0)
  have hx7 := Lib.hid (xr2.out.below hb27 (Nat.le_refl _))
  have hb07 := bthen hb02 hb27
  generalize w6.setCell ⟨g4, Both, none⟩ (.int .u8 0) = w7 at *
  clear m6 m64 hb26 k4B f4B hb27 xr2 m2' hb02
  go_wp2_with fail
  refine (NW.out w7).mono ?_
  rintro e w8 ⟨b, rfl, hct, hbl, hb8⟩
  have hA8 := hnil.out _ _ hct
  clear NW hnil hct
  go_wp2_with fail
  refine wp_loop_k (InvCut w7 b oo (some ⟨g2, 0, none⟩) (some ⟨g3, 0, none⟩) c3 (some ⟨g4, 0, none⟩) c4 One Both N F) 114 ?_ ?_
  · exact ⟨0, _, by omega, hb8, hA8, fun q hq => (catchS_mem.1 hq).elim (fun e => e ▸ hbl) (fun h => by simp [Value.ownBlock] at h), by kernel_rfl, rfl, by kernel_rfl, by kernel_rfl, by kernel_rfl, by kernel_rfl, by kernel_rfl, by kernel_rfl, by kernel_rfl⟩
  clear hA8 hb8
  intro gk a wr hI K hK
  obtain ⟨i, vv, hi, hbw, hp, hge, hs', hd', k8', k9', k10', k11', k12', k13', k15'⟩ := hI
  rw [fr128 a hs' hd']; simp only [k8', k9', k10', k11', k12', k13', k15']; clear hs' hd' k8' k9' k10' k11' k12' k13' k15'
  have hsz := hbw.size
  replace hp := Lib.hid hp
  by_cases hil : i < 114
  · have g1 : decide ((i : Int) < 114) = true := by simp; omega
    have g2' : (i : Int) < 114 := by omega
    have hp' : CatchAt wr.drew b vv oo N F i := hp.out.touch (S := []) ((Touch.refl [] wr).drew) (by simp)
    have hbw' : Below w7.heap.size w7 wr.drew := hbw.drew
    have hsz' : w7.heap.size ≤ wr.drew.heap.size := hsz
    have S1 := ST.out wr.drew b vv i hp' hil
    have hcl : Hid (∀ W, Below w7.heap.size w7 W → W.cell? ⟨g3, i, none⟩ = some (.int .u8 (cutN SL One Both i)) ∧ W.cell? ⟨g4, i, none⟩ = some (.int .u8 (cutF SL Both i))) := fun W hb => ⟨rd_cell (m7.out.rd.below hb (Nat.le_refl _)) hil, rd_cell (m74.out.rd.below hb (Nat.le_refl _)) hil⟩
    have hcs : Hid (∀ W, Below w7.heap.size w7 W → W.cell? ⟨g2, i, none⟩ = some (.int .u8 (SL i))) := fun W hb => rd_cell (hx7.out.below hb (Nat.le_refl _)) hil
    generalize cutN SL One Both i = x at S1 hcl
    generalize cutF SL Both i = y at S1 hcl
    have d1 := hcl.out _ hbw'
    replace S1 := Lib.hid S1
    replace hp' := Lib.hid hp'
    by_cases hib : i < Both
    · rw [if_pos hib] at S1
      have tg4 : decide ((i : Int) < (Both : Int)) = true := by simp; omega
      have tg5 : decide ((Both : Int) ≤ (i : Int)) = false := by simp; omega
      have tg6 : decide (i < Both) = true := by simp; omega
      have tg7 : decide (Both ≤ i) = false := by simp; omega
      go_wp2_with fail
      go_region_held3 (fun W => W.cell? ⟨g3, i, none⟩ = some (.int .u8 x) ∧ W.cell? ⟨g4, i, none⟩ = some (.int .u8 y))
        (first | exact d1 | exact d2)
        (first
          | (go_at_call 45
             (with_reducible refine S1.out.mono ?_)
             rintro e w9 ⟨rfl, v', hat', ht, hmv⟩
             have hbw9 := ht.below hbw' hsz' hge
             have d2 := hcl.out _ hbw9
             have hge9 : ∀ q ∈ catchS b v', w7.heap.size ≤ q := fun q hq => by
               rcases catchS_mem.1 hq with rfl | h1
               · exact hge _ (catchS_mem.2 (.inl rfl))
               · rcases hmv with e | ⟨g', e1, e2⟩
                 · exact hge _ (catchS_mem.2 (.inr (by rw [← e]; exact h1)))
                 · rw [e1] at h1
                   obtain rfl := Option.some.inj h1
                   exact Nat.le_trans hsz' e2)
          | fail)
      have d3 := hcs.out _ hbw9
      replace hat' := Lib.hid hat'
      clear d1 d2 S1 hcl hcs ht hmv
      go_wp2_with fail
      exact hK (114 - (i + 1)) _ _ (by omega) ⟨i + 1, v', by omega, hbw9, hat'.out, hge9, by kernel_rfl, rfl, by kernel_rfl, by kernel_rfl, by kernel_rfl, by kernel_rfl, by kernel_rfl, by kernel_rfl, by kernel_rfl⟩
    · rw [if_neg hib] at S1
      have tg4 : decide ((i : Int) < (Both : Int)) = false := by simp; omega
      have tg5 : decide ((Both : Int) ≤ (i : Int)) = true := by simp; omega
      have tg6 : decide (i < Both) = false := by simp; omega
      have tg7 : decide (Both ≤ i) = true := by simp; omega
      go_wp2_with fail
      go_region_held3 (fun W => W.cell? ⟨g3, i, none⟩ = some (.int .u8 x) ∧ W.cell? ⟨g4, i, none⟩ = some (.int .u8 y))
        (first | exact d1 | exact d2)
        (first
          | (go_at_call 45
             (with_reducible refine S1.out.mono ?_)
             rintro e w9 ⟨rfl, v', hat', ht, hmv⟩
             have hbw9 := ht.below hbw' hsz' hge
             have d2 := hcl.out _ hbw9
             have hge9 : ∀ q ∈ catchS b v', w7.heap.size ≤ q := fun q hq => by
               rcases catchS_mem.1 hq with rfl | h1
               · exact hge _ (catchS_mem.2 (.inl rfl))
               · rcases hmv with e | ⟨g', e1, e2⟩
                 · exact hge _ (catchS_mem.2 (.inr (by rw [← e]; exact h1)))
                 · rw [e1] at h1
                   obtain rfl := Option.some.inj h1
                   exact Nat.le_trans hsz' e2)
          | fail)
      have d3 := hcs.out _ hbw9
      replace hat' := Lib.hid hat'
      clear d1 d2 S1 hcl hcs ht hmv
      go_wp2_with fail
      exact hK (114 - (i + 1)) _ _ (by omega) ⟨i + 1, v', by omega, hbw9, hat'.out, hge9, by kernel_rfl, rfl, by kernel_rfl, by kernel_rfl, by kernel_rfl, by kernel_rfl, by kernel_rfl, by kernel_rfl, by kernel_rfl⟩
  · obtain rfl : i = 114 := by omega
    obtain ⟨f, cut, wh, hi', hct⟩ := hCt.out _ _ _ hp.out
    have H1 := Lib.hid (HI.out wr b vv hp.out)
    clear HI hCt ST m7 m74 hx7
    rcases Decidable.em (Both < One) with hlt | hlt
    all_goals
      first | rw [if_pos hlt] at hct | rw [if_neg hlt] at hct
      go_wp2_with fail
      refine H1.out.mono ?_
      rintro e w8 ⟨rfl, hb8⟩
      have hb9 := bthen hb8 (below_alloc w8 (.cells #[.int .i64 0, .int .u8 0, .int .u8 0, .int .u32 0, .int .u32 0] 34))
      have hct9 := Lib.hid (show Ct (w8.alloc (.cells #[.int .i64 0, .int .u8 0, .int .u8 0, .int .u32 0, .int .u32 0] 34)) b oo _ vv 114 _ cut wh hi' from Blk.below hct hb9 hct.lt)
      have hb09 := bthen (bthen hb07 hbw) hb9
      have U := Lib.hid (catchUnlike _ b oo _ vv 114 _ cut wh hi' (.inl ⟨_, _, rfl⟩) (fun e => by simp at e) hct9.out)
      have HD := Lib.hid (catchHad _ b oo _ vv 114 _ cut wh hi' hct9.out)
      have SF := Lib.hid (fun x y => stepFull _ b oo _ vv _ cut wh hi' x y hct9.out)
      clear hct hct9 H1
      go_wp2_with fail
      refine U.out.mono ?_
      rintro e _ ⟨rfl, rfl⟩
      go_wp2_with fail
      refine HD.out.mono ?_
      rintro e _ ⟨rfl, rfl⟩
      go_wp2_with fail
      refine (SF.out _ _).mono ?_
      rintro e _ ⟨rfl, rfl⟩
      go_wp2_with fail
      refine HD.out.mono ?_
      rintro e _ ⟨rfl, rfl⟩
      go_wp2_with fail
      refine (lives09 _).mono ?_
      rintro e w11 ⟨rfl, hb11⟩
      go_wp2_with fail
      go_ret
      exact ⟨rfl, bthen hb09 hb11⟩
end Go.Proofs.Ytbfbpagfmhdblaa
