/- RingsDisjoint: the walk. -/
import Derived.Test.YtodmkbbfmojifaaDoorRingsDisjC
import Derived.Test.YtodmkbbfmojifaaDoorRingsPathsW
namespace Go.Proofs.YtodmkbbfmojifaaDoor
open Go.RowKit
set_option linter.unusedSimpArgs false
set_option linter.unusedVariables false
set_option maxRecDepth 100000
def cntQ (m a b : Int) (d : Nat) : Nat → Int
  | 0 => cntD m a b d
  | q + 1 => cntQ m a b d q + hasP m a b d q
theorem hasP_in {m a b : Int} {d q : Nat} : 0 ≤ hasP m a b d q ∧ hasP m a b d q ≤ 1 := by
  unfold hasP
  split <;> omega
theorem cntD_in {m a b : Int} : ∀ d : Nat, 0 ≤ cntD m a b d ∧ cntD m a b d ≤ 2 * d
  | 0 => by simp [cntD]
  | d + 1 => by
    have h := cntD_in (m := m) (a := a) (b := b) d
    have h0 := @hasP_in m a b d 0
    have h1 := @hasP_in m a b d 1
    unfold cntD
    omega
theorem cntQ_in {m a b : Int} {d : Nat} : ∀ q : Nat, 0 ≤ cntQ m a b d q ∧ cntQ m a b d q ≤ 2 * d + q
  | 0 => by have := cntD_in (m := m) (a := a) (b := b) d; unfold cntQ; omega
  | q + 1 => by
    have h := cntQ_in (m := m) (a := a) (b := b) (d := d) q
    have h0 := @hasP_in m a b d q
    unfold cntQ
    omega
/-- Nodes at or behind the place where the loops stand are not marked. -/
def Unseen (m a b : Int) (cur : Array Value) (d q i : Nat) : Prop :=
  ∀ d' q' i' : Nat, d' < 2 → q' < 2 → i' < pathN m d' a b (q' + 1) → (d < d' ∨ d = d' ∧ (q < q' ∨ q = q' ∧ i ≤ i')) → cur[(pathL m d' a b (q' + 1) i').toNat]? = some (.bool false)
theorem Unseen.mono {m a b : Int} {cur : Array Value} {d q i d2 q2 i2 : Nat} (h : Unseen m a b cur d q i) (hle : d < d2 ∨ d = d2 ∧ (q < q2 ∨ q = q2 ∧ i ≤ i2)) : Unseen m a b cur d2 q2 i2 :=
  fun d' q' i' h1 h2 h3 h4 => h d' q' i' h1 h2 h3 (by omega)
theorem Unseen.over {m a b : Int} {cur : Array Value} {d q : Nat} (h : Unseen m a b cur d q (pathN m d a b (q + 1))) : Unseen m a b cur d (q + 1) 0 :=
  fun d' q' i' h1 h2 h3 h4 => h d' q' i' h1 h2 h3 (by omega)
theorem Unseen.next {m a b : Int} {cur : Array Value} {d : Nat} (h : Unseen m a b cur d 2 0) : Unseen m a b cur (d + 1) 0 0 :=
  fun d' q' i' h1 h2 h3 h4 => h d' q' i' h1 h2 h3 (by omega)
theorem Unseen.set {m a b : Int} {cur : Array Value} {d q i p : Nat} (hm : 4 ≤ m ∧ m ≤ 16) (ha : 0 ≤ a ∧ a < m) (hb : 0 ≤ b ∧ b < m) (hab : a ≠ b) (hd : d < 2) (hq : q < 2) (hi : i < pathN m d a b (q + 1)) (hp : pathL m d a b (q + 1) i = p)
    (h : Unseen m a b cur d q i) : Unseen m a b (cur.setIfInBounds p (.bool true)) d q (i + 1) := fun d' q' i' h1 h2 h3 h4 => by
  have hne := node_once (d := d) (h := q + 1) (d' := d') (h' := q' + 1) hm ha hb hab (by omega) (by omega) hi (by omega) (by omega) h3 (by omega)
  have hf := node_free (d := d') (h := q' + 1) hm ha hb hab (by omega) (by omega) h3
  rw [hp] at hne
  rw [Array.getElem?_setIfInBounds, if_neg (by omega)]
  exact h d' q' i' h1 h2 h3 (by omega)
theorem Unseen.start {m a b : Int} {A B M : Nat} (hm : 4 ≤ m ∧ m ≤ 16) (ha : 0 ≤ a ∧ a < m) (hb : 0 ≤ b ∧ b < m) (hab : a ≠ b) (hA : a = A) (hB : b = B) (hM : m = M) :
    Unseen m a b (((madeCells #[.bool false] M).setIfInBounds A (.bool true)).setIfInBounds B (.bool true)) 0 0 0 := fun d' q' i' h1 h2 h3 h4 => by
  have hf := node_free (d := d') (h := q' + 1) hm ha hb hab (by omega) (by omega) h3
  rw [Array.getElem?_setIfInBounds, if_neg (by omega), Array.getElem?_setIfInBounds, if_neg (by omega)]
  exact made_get (by omega)
def InvDj1 (w : World) (M A B : Nat) (g : Nat) (k : Nat) (a : Act) (wr : World) : Prop :=
  ∃ d : Nat, d + k = 2 ∧ Below w.heap.size w wr ∧ (∃ cur, Blk wr g cur 4 ∧ cur.size = M ∧ Unseen M A B cur d 0 0) ∧
    a.tmps.size = 185 ∧ a.defers = [] ∧ slot a 5 = .int .i64 M ∧ slot a 6 = .int .i64 A ∧ slot a 7 = .int .i64 B ∧ slot a 12 = .slice (some ⟨g, 0, none⟩) M M ∧ slot a 13 = .int .i64 (cntD M A B d) ∧ slot a 14 = .int .u8 d
def InvDj2 (w : World) (M A B : Nat) (g : Nat) (d : Nat) (k : Nat) (a : Act) (wr : World) : Prop :=
  ∃ q : Nat, q + k = 2 ∧ Below w.heap.size w wr ∧ (∃ cur, Blk wr g cur 4 ∧ cur.size = M ∧ Unseen M A B cur d q 0) ∧
    a.tmps.size = 185 ∧ a.defers = [] ∧ slot a 5 = .int .i64 M ∧ slot a 6 = .int .i64 A ∧ slot a 7 = .int .i64 B ∧ slot a 12 = .slice (some ⟨g, 0, none⟩) M M ∧ slot a 13 = .int .i64 (cntQ M A B d q) ∧ slot a 14 = .int .u8 d ∧ slot a 15 = .int .i64 (q + 1)
def InvDj3 (w : World) (M A B : Nat) (g : Nat) (d q : Nat) (al : Option Addr) (N : Nat) (k : Nat) (a : Act) (wr : World) : Prop :=
  ∃ i : Nat, i + k = N ∧ Below w.heap.size w wr ∧ (∃ cur, Blk wr g cur 4 ∧ cur.size = M ∧ Unseen M A B cur d q i) ∧ Mine .i64 3 (g + 1) wr al N (pathL M d A B (q + 1)) ∧
    a.tmps.size = 185 ∧ a.defers = [] ∧ slot a 5 = .int .i64 M ∧ slot a 6 = .int .i64 A ∧ slot a 7 = .int .i64 B ∧ slot a 12 = .slice (some ⟨g, 0, none⟩) M M ∧ slot a 13 = .int .i64 (cntQ M A B d (q + 1)) ∧ slot a 14 = .int .u8 d ∧ slot a 15 = .int .i64 (q + 1) ∧ slot a 16 = .slice al N N ∧ slot a 18 = .int .i64 (stand M d A B (q + 1) i) ∧ slot a 19 = .int .i64 i
theorem Mine.setNe {k : IntKind} {E : TypeId} {B : Nat} {w : World} {a : Option Addr} {n : Nat} {L : Nat → Int} (h : Mine k E B w a n L) {p : Addr} (hp : p.block < B) (v : Value) : Mine k E B (w.setCell p v) a n L := fun hn => by
  obtain ⟨g, cur, h1, h2, h3, h4⟩ := h hn
  exact ⟨g, cur, h1, h2, h3.setNe (by omega) v, h4⟩
set_option maxHeartbeats 16000000 in
theorem ringsDisjoint_any (w : World) (n x y : Int) (hs : Signs w) (hn : 0 ≤ n ∧ n < 256) (hx : 0 ≤ x ∧ x < 256) (hy : 0 ≤ y ∧ y < 256) :
    Calls Tryd.prog 7 #[.int .u8 n, .agg #[.int .u8 x, .int .u8 y]] w fun e w' => e = .returned (.bool true) ∧ Below w.heap.size w w' := by
  have P0 : Hid (∀ W, Calls Tryd.prog 28 #[.int .u8 n] W fun e w' => e = .returned (.int .i64 (nodesI n)) ∧ W = w') := fun W => lawNodes W n hn.1 hn.2
  have hm := @nodesI_in n
  generalize nodesI n = m at *
  have ha := emod_in (x := x) hm.1
  have hb := emod_in (x := y) hm.1
  have t1 : Int.tmod x m = x % m := Int.tmod_eq_emod_of_nonneg hx.1
  have t2 : Int.tmod y m = y % m := Int.tmod_eq_emod_of_nonneg hy.1
  have u1 : IntKind.i64.wrap x = x := wrap_near _ (by omega) (by omega)
  have u2 : IntKind.i64.wrap y = y := wrap_near _ (by omega) (by omega)
  have hm0 : m ≠ 0 := by omega
  generalize x % m = a at *
  generalize y % m = b at *
  have u3 : IntKind.i64.wrap a = a := wrap_near _ (by omega) (by omega)
  have u4 : IntKind.i64.wrap b = b := wrap_near _ (by omega) (by omega)
  have hs' : Hid (Signs (w.alloc (.cells #[.int .u8 x, .int .u8 y] 41))) := hs.to (below_alloc _ _)
  have hb' : Hid (Below w.heap.size w (w.alloc (.cells #[.int .u8 x, .int .u8 y] 41))) := below_alloc _ _
  have d0 : (w.alloc (.cells #[.int .u8 x, .int .u8 y] 41)).cell? ⟨w.heap.size, 0, none⟩ = some (.int .u8 x) := (Blk.new _ _ _).cell rfl
  have d1 : (w.alloc (.cells #[.int .u8 x, .int .u8 y] 41)).cell? ⟨w.heap.size, 1, none⟩ = some (.int .u8 y) := (Blk.new _ _ _).cell rfl
  by_cases hab : a = b
  · have c3 : (a == b) = true := by simp [hab]
    have k0 : ∀ d h : Int, pathOk m d a b h = false := fun d h => by
      cases hk : pathOk m d a b h with
      | false => rfl
      | true =>
        have h1 : 0 < distI m d a b := by
          simp [pathOk] at hk
          omega
        have h2 := distI_le h1
        have h3 := (okR_true h2.1)
        have e0 : distI m d a b = 0 := by rw [hab, dist_ok hm (by omega) hb hb]; simp
        omega
    have Q1 : Hid (∀ W d h, Signs W → 0 ≤ d → Calls Tryd.prog 21 #[.int .i64 m, .int .u8 d, .int .i64 a, .int .i64 b, .int .i64 h] W fun e w' => ∃ al, e = .returned (.tuple #[.slice al 0 0, .bool false]) ∧ Below W.heap.size W w') := fun W d h hW hd =>
      (ringsPath W m d a b h hW hd).mono fun e w' h => by
        obtain ⟨al, h1, _, h3⟩ := h
        refine ⟨al, ?_, h3⟩
        rw [h1]
        simp [pathV, pathN, k0]
    clear hab k0 ha hb hm
    go_enter Tryd.func7, Tryd.ntmps7
    go_wp2_with fail
    generalize w.alloc (.cells #[.int .u8 x, .int .u8 y] 41) = w1 at *
    refine (P0.out _).mono ?_
    rintro e _ ⟨rfl, rfl⟩
    go_wp2_with fail
    refine (Q1.out _ _ _ hs'.out (by decide)).mono ?_
    rintro e w2 ⟨al, rfl, b2⟩
    go_wp2_with fail
    refine (Q1.out _ _ _ (hs'.out.to b2) (by decide)).mono ?_
    rintro e w3 ⟨al3, rfl, b3⟩
    replace b2 := bthen b2 b3
    go_wp2_with fail
    refine (lives03 _ (hs'.out.to b2)).mono ?_
    rintro e wx ⟨rfl, hbL⟩
    go_wp2_with fail
    go_ret
    exact ⟨rfl, bthen (bthen hb'.out b2) hbL⟩
  · obtain ⟨M, rfl⟩ : ∃ M : Nat, m = M := ⟨m.toNat, by omega⟩
    obtain ⟨A, rfl⟩ : ∃ A : Nat, a = A := ⟨a.toNat, by omega⟩
    obtain ⟨B, rfl⟩ : ∃ B : Nat, b = B := ⟨b.toNat, by omega⟩
    have c3 : ((A : Int) == B) = false := by simp; omega
    have hA : A < M := by omega
    have hB : B < M := by omega
    have hmk := fun (W : World) => run_make_row' (P := Tryd.prog) 44 4 (.bool false) 1 Tryd.underlying44 elemBool rfl .i64 .i64 M (by omega) (by omega) W
    have hst := Lib.hid (Unseen.start hm ha hb hab (A := A) (B := B) (M := M) rfl rfl rfl)
    have hall := Lib.hid (many_all hm ha hb hab)
    have hdb := Lib.hid (dist_both hm ha hb hab)
    have hab' := Lib.hid hab
    have hm' := Lib.hid hm
    have ha' := Lib.hid ha
    have hbi' := Lib.hid hb
    clear hab hm ha hb
    go_enter Tryd.func7, Tryd.ntmps7
    go_wp2_with fail
    generalize w.alloc (.cells #[.int .u8 x, .int .u8 y] 41) = w1 at *
    refine (P0.out _).mono ?_
    rintro e _ ⟨rfl, rfl⟩
    have hsz := hb'.out.size
    have f1 : (madeCells #[.bool false] M)[A]? = some (.bool false) := made_get hA
    have f2 : ((madeCells #[.bool false] M).setIfInBounds A (.bool true))[B]? = some (.bool false) := by
      have := hab'.out
      rw [Array.getElem?_setIfInBounds, if_neg (by omega)]
      exact made_get hB
    go_wp2
    refine wp_loop_k (InvDj1 w M A B w1.heap.size) 2 ?_ ?_
    · exact ⟨0, by omega, hb'.out.alloc hsz _, ⟨_, Blk.new _ _ _, by simp [made_size], hst.out⟩, by kernel_rfl, rfl, by kernel_rfl, by kernel_rfl, by kernel_rfl, by kernel_rfl, by kernel_rfl, by kernel_rfl⟩
    · clear f1 f2 hmk hst d0 d1 t1 t2 u1 u2 c3 P0 hs'
      replace hs := Lib.hid hs
      clear hb'
      generalize hgg : w1.heap.size = g at *
      clear hgg w1
      intro gk1 a wr hI K1 hK1
      obtain ⟨d, hd, hbw, ⟨cur, hBk, hcs, hun⟩, hs', hd', k5', k6', k7', k12', k13', k14'⟩ := hI
      rw [fr185 a hs' hd']; simp only [k5', k6', k7', k12', k13', k14']; clear hs' hd' k5' k6' k7' k12' k13' k14'
      have hbw' := Lib.hid hbw
      have hsr := Lib.hid (hs.out.to hbw)
      by_cases hltd : d < 2
      · have g1 : decide ((d : Int) ≤ 1) = true := by simp; omega
        have ud : IntKind.u8.wrap ((d : Int) + 1) = ((d + 1 : Nat) : Int) := by rw [IntKind.wrap_u8]; omega
        have hun' := Lib.hid hun
        have hBk' := Lib.hid hBk
        clear hun hBk hbw
        go_wp2
        refine wp_loop_k (InvDj2 w M A B g d) 2 ?_ ?_
        · exact ⟨0, by omega, hbw'.out, ⟨_, hBk'.out, hcs, hun'.out⟩, by kernel_rfl, rfl, by kernel_rfl, by kernel_rfl, by kernel_rfl, by kernel_rfl, by kernel_rfl, by kernel_rfl, by kernel_rfl⟩
        · clear hun' hBk' hbw' hsr hcs g1
          clear cur wr
          intro gk2 a wr hI K2 hK2
          obtain ⟨q, hq, hbw, ⟨cur, hBk, hcs, hun⟩, hs', hd', k5', k6', k7', k12', k13', k14', k15'⟩ := hI
          rw [fr185 a hs' hd']; simp only [k5', k6', k7', k12', k13', k14', k15']; clear hs' hd' k5' k6' k7' k12' k13' k14' k15'
          have hbw' := Lib.hid hbw
          have hsr := Lib.hid (hs.out.to hbw)
          have hun' := Lib.hid hun
          have hBk' := Lib.hid hBk
          clear hun hBk hbw
          by_cases hlq : q < 2
          · have g2 : decide ((q : Int) + 1 ≤ 2) = true := by simp; omega
            have uq : IntKind.i64.wrap ((q : Int) + 1 + 1) = ((q + 1 : Nat) : Int) + 1 := wrap_near _ (by omega) (by omega)
            go_wp2_with fail
            refine (ringsPath _ _ _ _ _ _ hsr.out (by omega)).mono ?_
            rintro e w2 ⟨al, rfl, hmi, hb2⟩
            have hgs := hBk'.out.lt
            have hmi' := Lib.hid (hmi.mono (show g + 1 ≤ wr.heap.size by omega))
            have hB2 := Lib.hid (hBk'.out.below hb2 hgs)
            have hbw2 := Lib.hid (bthen (hbw'.out) hb2)
            clear hmi hBk' hbw' hsr hb2 hgs
            simp only [pathV]
            have hgo := hK2
            by_cases hok : pathOk M d A B ((q : Int) + 1) = true
            · rw [hok]
              have um : IntKind.i64.wrap (cntQ M A B d q + 1) = cntQ M A B d (q + 1) := by
                have := cntQ_in (m := M) (a := A) (b := B) (d := d) q
                rw [wrap_near _ (by omega) (by omega)]
                simp [cntQ, hasP, hok]
              have hlast := Lib.hid (step_last (h := (q : Int) + 1) hm'.out (by omega) ha'.out hbi'.out hab'.out (by omega) hok)
              generalize hN : pathN M d A B ((q : Int) + 1) = N at *
              have hN16 : N ≤ 16 := by rw [← hN]; exact pathN_le
              have hN' := Lib.hid hN
              clear hok hN
              go_wp2
              refine wp_loop_k (InvDj3 w M A B g d q al N) N ?_ ?_
              · exact ⟨0, by omega, hbw2.out, ⟨_, hB2.out, hcs, hun'.out⟩, hmi'.out, by kernel_rfl, rfl, by kernel_rfl, by kernel_rfl, by kernel_rfl, by kernel_rfl, by kernel_rfl, by kernel_rfl, by kernel_rfl, by kernel_rfl, by kernel_rfl, by kernel_rfl⟩
              · clear um hun' hB2 hbw2 hmi' hcs g2
                clear cur w2 wr
                intro gk3 a wr hI K3 hK3
                obtain ⟨i, hi, hbw, ⟨cur, hBk, hcs, hun⟩, hmi, hs', hd', k5', k6', k7', k12', k13', k14', k15', k16', k18', k19'⟩ := hI
                rw [fr185 a hs' hd']; simp only [k5', k6', k7', k12', k13', k14', k15', k16', k18', k19']; clear hs' hd' k5' k6' k7' k12' k13' k14' k15' k16' k18' k19'
                by_cases hlt : i < N
                · have g3 : decide ((i : Int) < (N : Int)) = true := by simp; omega
                  have hiN : i < pathN M d A B ((q : Int) + 1) := by rw [hN'.out]; exact hlt
                  have hfree := node_free (d := d) (h := (q : Int) + 1) hm'.out ha'.out hbi'.out hab'.out (by omega) (by omega) hiN
                  have hstep := step_first (d := d) (h := (q : Int) + 1) hm'.out (by omega) ha'.out hbi'.out hab'.out (by omega) hiN
                  obtain ⟨p, hp⟩ : ∃ p : Nat, pathL M d A B ((q : Int) + 1) i = p := ⟨(pathL M d A B ((q : Int) + 1) i).toNat, by omega⟩
                  have hun2 := Lib.hid (hun.set (p := p) hm'.out ha'.out hbi'.out hab'.out hltd hlq hiN hp)
                  have hfalse := hun d q i hltd hlq hiN (by omega)
                  rw [hp] at hfree hstep hfalse
                  rw [Int.toNat_natCast] at hfalse
                  have hpM : p < M := by omega
                  have e1 : decide ((p : Int) < 0) = false := by simp <;> omega
                  have e2 : decide ((M : Int) ≤ (p : Int)) = false := by simp; omega
                  have hc := hBk.cell hfalse
                  have hf := hBk.free p
                  obtain ⟨gl, rfl, hgl, _, hcl, _⟩ := hmi.some (by omega)
                  have hl := hcl i hlt
                  rw [hp] at hl
                  have hmi2 := Lib.hid (hmi.setNe (p := ⟨g, p, none⟩) (Nat.lt_succ_self _) (.bool true))
                  have hl2 : (wr.setCell ⟨g, p, none⟩ (.bool true)).cell? ⟨gl, i, none⟩ = some (.int .i64 p) := by
                    obtain ⟨g', e', _, _, hcl', _⟩ := hmi2.out.some (by omega)
                    simp only [Option.some.injEq, Addr.mk.injEq, and_true] at e'
                    subst e'
                    rw [← hp]
                    exact hcl' i hlt
                  have hB2 := Lib.hid (hBk.set p (.bool true))
                  have hbw2 := Lib.hid (hbw.setCell (show w.heap.size ≤ (⟨g, p, none⟩ : Addr).block from hsz) (.bool true))
                  have hs2 := Lib.hid (hs.out.to hbw2.out)
                  have ui : IntKind.i64.wrap ((i : Int) + 1) = ((i + 1 : Nat) : Int) := wrap_near _ (by omega) (by omega)
                  have hst2 := Lib.hid (show stand M d A B ((q : Int) + 1) (i + 1) = p by simp [stand, hp])
                  have hstep' := Lib.hid hstep
                  generalize hsd : stand M d A B ((q : Int) + 1) i = sd at *
                  clear hun hBk hmi hbw hcl hfalse hfree hstep hiN hsd
                  go_wp2_with fail
                  refine (ringsDistance _ _ _ _ _ hs2.out (by omega)).mono ?_
                  rintro e w3 ⟨rfl, q3, rfl⟩
                  have hl3 : ((wr.setCell ⟨g, p, none⟩ (.bool true)).drewN q3).cell? ⟨gl, i, none⟩ = some (.int .i64 p) := hl2
                  have hB3 := Lib.hid (hB2.out.drewN q3)
                  have hmi3 := Lib.hid (hmi2.out.below (bdrewN (Below.refl _ _) q3) (Nat.le_refl _))
                  have hbw3 := Lib.hid (bdrewN hbw2.out q3)
                  generalize (wr.setCell ⟨g, p, none⟩ (.bool true)).drewN q3 = w3 at *
                  clear hc hf hl hl2 hB2 hmi2 hbw2 hs2
                  generalize distI M d sd p = s at *
                  obtain ⟨hs12, hi2⟩ := hstep'.out
                  clear hstep'
                  by_cases hi0 : i = 0
                  · have g4 : decide (0 < (i : Int)) = false := by simp; omega
                    have g4' : ¬0 < i := by omega
                    by_cases hs1 : s = 1
                    · have g5 : (s != 1) = false := by simp [hs1]
                      clear hs12 hi2 hi0
                      go_wp2
                      exact hK3 (N - (i + 1)) _ _ (by omega) ⟨i + 1, by omega, hbw3.out, ⟨_, hB3.out, by simp [hcs], hun2.out⟩, hmi3.out, by kernel_rfl, rfl, by kernel_rfl, by kernel_rfl, by kernel_rfl, by kernel_rfl, by kernel_rfl, by kernel_rfl, by kernel_rfl, by kernel_rfl, by show Value.int _ _ = Value.int _ _; rw [hst2.out], by kernel_rfl⟩
                    · have g5 : (s != 1) = true := by simp [hs1]
                      have g6 : (s != 2) = false := by simp; omega
                      have g6' : s = 2 := by omega
                      clear hs12 hi2 hi0 hs1
                      go_wp2
                      exact hK3 (N - (i + 1)) _ _ (by omega) ⟨i + 1, by omega, hbw3.out, ⟨_, hB3.out, by simp [hcs], hun2.out⟩, hmi3.out, by kernel_rfl, rfl, by kernel_rfl, by kernel_rfl, by kernel_rfl, by kernel_rfl, by kernel_rfl, by kernel_rfl, by kernel_rfl, by kernel_rfl, by show Value.int _ _ = Value.int _ _; rw [hst2.out], by kernel_rfl⟩
                  · have g4 : decide (0 < (i : Int)) = true := by simp; omega
                    have g5 : (s != 1) = true := by simp; omega
                    have g6 : (s != 2) = false := by simp; omega
                    have g6' : s = 2 := by omega
                    have g4' : 0 < i := by omega
                    clear hs12 hi2 hi0
                    go_wp2
                    exact hK3 (N - (i + 1)) _ _ (by omega) ⟨i + 1, by omega, hbw3.out, ⟨_, hB3.out, by simp [hcs], hun2.out⟩, hmi3.out, by kernel_rfl, rfl, by kernel_rfl, by kernel_rfl, by kernel_rfl, by kernel_rfl, by kernel_rfl, by kernel_rfl, by kernel_rfl, by kernel_rfl, by show Value.int _ _ = Value.int _ _; rw [hst2.out], by kernel_rfl⟩
                · obtain rfl : i = N := by omega
                  have g3 : decide ((i : Int) < (i : Int)) = false := by simp
                  have hun2 := Lib.hid (Unseen.over (by rw [show ((q : Int) + 1) = ((q : Int) + 1) from rfl, hN'.out]; exact hun))
                  have hB2 := Lib.hid hBk
                  have hbw2 := Lib.hid hbw
                  have hs2 := Lib.hid (hs.out.to hbw)
                  clear hun hBk hbw hmi
                  generalize hsd : stand M d A B ((q : Int) + 1) i = sd at *
                  have g4 : (sd != sd) = false := by simp
                  clear hsd
                  go_wp2_with fail
                  refine (ringsSource _ _ _ _ _ hs2.out (by omega)).mono ?_
                  rintro e w3 ⟨rfl, q3, rfl⟩
                  rw [hlast.out]
                  go_wp2
                  exact hgo (2 - (q + 1)) _ _ (by omega) ⟨q + 1, by omega, bdrewN hbw2.out q3, ⟨_, hB2.out.drewN q3, hcs, hun2.out⟩, by kernel_rfl, rfl, by kernel_rfl, by kernel_rfl, by kernel_rfl, by kernel_rfl, by kernel_rfl, by kernel_rfl, by kernel_rfl⟩
            · have hok' : pathOk M d A B ((q : Int) + 1) = false := by simpa using hok
              rw [hok']
              have hN0 : pathN M d A B ((q : Int) + 1) = 0 := by simp [pathN, hok']
              have hc0 := Lib.hid (show cntQ M A B d (q + 1) = cntQ M A B d q by simp [cntQ, hasP, hok'])
              have hun2 := Lib.hid (Unseen.over (by rw [hN0]; exact hun'.out))
              clear hok hok' hN0
              go_wp2
              exact hgo (2 - (q + 1)) _ _ (by omega) ⟨q + 1, by omega, hbw2.out, ⟨_, hB2.out, hcs, hun2.out⟩, by kernel_rfl, rfl, by kernel_rfl, by kernel_rfl, by kernel_rfl, by kernel_rfl, by show Value.int _ _ = Value.int _ _; rw [hc0.out], by kernel_rfl, by kernel_rfl⟩
          · obtain rfl : q = 2 := by omega
            have g2 : decide ((2 : Int) + 1 ≤ 2) = false := by decide
            go_wp2
            exact hK1 (2 - (d + 1)) _ _ (by omega) ⟨d + 1, by omega, hbw'.out, ⟨_, hBk'.out, hcs, hun'.out.next⟩, by kernel_rfl, rfl, by kernel_rfl, by kernel_rfl, by kernel_rfl, by kernel_rfl, by kernel_rfl, by kernel_rfl⟩
      · obtain rfl : d = 2 := by omega
        have g1 : decide ((2 : Int) ≤ 1) = false := by decide
        have hal := hall.out
        clear hun hBk hbw hall hdb hab' hm' ha' hbi' hcs
        have v0 := Lib.hid (rfl : distI M 0 A B = distI M 0 A B)
        have v1 := Lib.hid (rfl : distI M 1 A B = distI M 1 A B)
        generalize cntD M A B 2 = c at *
        generalize hD0 : distI M 0 A B = D0 at *
        generalize hD1 : distI M 1 A B = D1 at *
        replace v0 := Lib.hid hD0
        replace v1 := Lib.hid hD1
        clear hD0 hD1
        by_cases h0 : D0 = 1
        · have n1 : (D0 == 1) = true := by simp [h0]
          have n2 : (c == 3) = true := by simp [hal, h0]
          clear hal h0
          go_wp2_with fail
          refine (ringsDistance _ _ _ _ _ hsr.out (by decide)).mono ?_
          rintro e w3 ⟨rfl, q3, rfl⟩
          rw [v0.out]
          have hs3 := Lib.hid (hsr.out.drew q3)
          go_wp2_with fail
          refine (lives03 _ hs3.out).mono ?_
          rintro e wx ⟨rfl, hbL⟩
          go_wp2_with fail
          go_ret
          exact ⟨rfl, bthen (bdrewN hbw'.out q3) hbL⟩
        · have n1 : (D0 == 1) = false := by simp [h0]
          by_cases h1 : D1 = 1
          · have n3 : (D1 == 1) = true := by simp [h1]
            have n2 : (c == 3) = true := by simp [hal, h1]
            clear hal h0 h1
            go_wp2_with fail
            refine (ringsDistance _ _ _ _ _ hsr.out (by decide)).mono ?_
            rintro e w3 ⟨rfl, q3, rfl⟩
            rw [v0.out]
            have hs3 := Lib.hid (hsr.out.drew q3)
            have hbw3 := Lib.hid (bdrewN hbw'.out q3)
            generalize wr.drewN q3 = w3 at *
            go_wp2_with fail
            refine (ringsDistance _ _ _ _ _ hs3.out (by decide)).mono ?_
            rintro e w4 ⟨rfl, q4, rfl⟩
            rw [v1.out]
            have hs4 := Lib.hid (hs3.out.drew q4)
            have hbw4 := Lib.hid (bdrewN hbw3.out q4)
            generalize w3.drewN q4 = w4 at *
            go_wp2_with fail
            refine (lives03 _ hs4.out).mono ?_
            rintro e wx ⟨rfl, hbL⟩
            go_wp2_with fail
            go_ret
            exact ⟨rfl, bthen hbw4.out hbL⟩
          · have n3 : (D1 == 1) = false := by simp [h1]
            have n2 : (c == 4) = true := by simp [hal, h0, h1]
            clear hal h0 h1
            go_wp2_with fail
            refine (ringsDistance _ _ _ _ _ hsr.out (by decide)).mono ?_
            rintro e w3 ⟨rfl, q3, rfl⟩
            rw [v0.out]
            have hs3 := Lib.hid (hsr.out.drew q3)
            have hbw3 := Lib.hid (bdrewN hbw'.out q3)
            generalize wr.drewN q3 = w3 at *
            go_wp2_with fail
            refine (ringsDistance _ _ _ _ _ hs3.out (by decide)).mono ?_
            rintro e w4 ⟨rfl, q4, rfl⟩
            rw [v1.out]
            have hs4 := Lib.hid (hs3.out.drew q4)
            have hbw4 := Lib.hid (bdrewN hbw3.out q4)
            generalize w3.drewN q4 = w4 at *
            go_wp2_with fail
            refine (lives03 _ hs4.out).mono ?_
            rintro e wx ⟨rfl, hbL⟩
            go_wp2_with fail
            go_ret
            exact ⟨rfl, bthen hbw4.out hbL⟩
end Go.Proofs.YtodmkbbfmojifaaDoor
