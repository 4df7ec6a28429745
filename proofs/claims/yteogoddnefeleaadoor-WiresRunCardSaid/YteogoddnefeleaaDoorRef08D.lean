/- The document's wires: New, End. -/
import Derived.Test.YteogoddnefeleaaDoorRef08C
namespace Go.Proofs.YteogoddnefeleaaDoor
open Go.RowKit Go.Maps
set_option linter.unusedSimpArgs false
set_option linter.unusedVariables false
set_option maxRecDepth 100000
/-- 'append' as one step of a region that draws its order. -/
theorem step_append_own {P : Program} {ops : Array Oper} {o : Oper} {a : Act} {w : World} {K : Act → World → Prop} {Q : Exit → Act → World → Prop} {E : Prop} (hgd : o.guard = none) (s x : Operand) (t : TypeId)
    (ho : o.op = .call { callee := .builtin .append, args := #[s, x], argTypes := #[t, t] })
    (base : Nat) (e : TypeId) (i : TypeInfo) (z : Value) (size bytes : Nat) (ht : P.underlying t = some (.slice e)) (hi : P.info? e = some i) (hz : i.zero = some z)
    (hsize : i.size = size) (hby : i.bytes = bytes) (hzs : z.cells.size = size) (hsz : 0 < size)
    (v : Value) (n : Nat) (xs : List Value) (hs : a.eval s = v) (hown : w.ownsRow base e size v n xs)
    (ad : Addr) (m c : Nat) (news : List Value) (hx : a.eval x = .slice (some ad) m c) (hl : news.length = m * size) (hnews : ∀ j u, news[j]? = some u → w.cell? (ad.add j) = some u) (h1 : ∀ u ∈ news, u.oneCell' = true)
    (h63 : n + m ≤ maxLen) (hbytes : (n + m) * bytes ≤ 140737488355328) (hbase : base ≤ w.heap.size)
    (h : ∀ v' w', w'.ownsRow base e size v' (n + m) (xs ++ news) → w.grownBy w' v.ownBlock → (v' = .slice none 0 0 ↔ v = .slice none 0 0 ∧ m = 0) → K (a.put o.dst v') w') :
    if Region.wanted o (yielded ops a.tmps) = true then Oper.wp P o a w K Q else E := by
  rw [if_pos (by simp [Region.wanted, hgd])]
  exact wp_append_own w s x t ho base e i z size bytes ht hi hz hsize hby hzs hsz v n xs hs hown ad m c news hx hl hnews h1 h63 hbytes hbase h
theorem elemS8 : (Tryd.prog.info? 69).map (fun i => (i.zero, i.size, i.bytes)) = some (some (.agg #[.int .i64 0, .bool false]), 2, 16) := by kernel_rfl
theorem elemR8 : (Tryd.prog.info? 99).map (fun i => (i.zero, i.size, i.bytes)) = some (some (.slice none 0 0), 1, 24) := by kernel_rfl
theorem mkRow (n : Nat) (hn : n ≤ 1000) (W : World) : (Instr.makeSlice 99 (.int .i64 (4 * (n : Int))) (.int .i64 (4 * (n : Int)))).run Tryd.prog W = .ok (.slice (some ⟨W.heap.size, 0, none⟩) (4 * n) (4 * n)) (W.alloc (.cells (rowA n noneG) 69)) := by
  obtain ⟨i0, hi, hz0, hz1, hz2⟩ := info_parts elemS8
  have h := run_make (P := Tryd.prog) W 99 69 i0 (.agg #[.int .i64 0, .bool false]) Tryd.underlying99 hi hz0 .i64 .i64 (4 * (n : Int)) (4 * (n : Int)) (by omega) (by omega) (by rw [hz2]; omega) (by omega)
  have e : (4 * (n : Int)).toNat = 4 * n := by omega
  rw [e, hz1] at h
  have e2 : madeCells (Value.agg #[.int .i64 0, .bool false]).cells (4 * n * 2) = rowA n noneG := rowA_made
  rw [e2] at h
  exact h
theorem rNew_no (w : World) (n : Int) (hn : n < 4 ∨ 16 < n) : Calls Tryd.prog 41 #[.int .i64 n] w fun e w' => e = .returned (.tuple #[.pointer none, .int .i64 1]) ∧ w = w' := by
  rcases (by omega : n < 4 ∨ (¬ n < 4 ∧ 16 < n)) with h | ⟨h, h'⟩
  · have t1 : decide (n < 4) = true := by simp [h]
    clear hn
    go_enter Tryd.func41, Tryd.ntmps41
    go_wp2_with fail
    go_ret2
    exact ⟨rfl, rfl⟩
  · have t1 : decide (n < 4) = false := by simp; omega
    have t2 : decide (16 < n) = true := by simp [h']
    clear hn
    go_enter Tryd.func41, Tryd.ntmps41
    go_wp2_with fail
    go_ret2
    exact ⟨rfl, rfl⟩
theorem aNew_no (w : World) (n : Int) (hn : n < 4 ∨ 16 < n) : Calls Tryd.prog 34 #[.int .i64 n] w fun e w' => e = .returned (.tuple #[.pointer none, .int .i64 1]) ∧ w = w' := by
  rcases (by omega : n < 4 ∨ (¬ n < 4 ∧ 16 < n)) with h | ⟨h, h'⟩
  · have t1 : decide (n < 4) = true := by simp [h]
    clear hn
    go_enter Tryd.func34, Tryd.ntmps34
    go_wp2_with fail
    go_ret2
    exact ⟨rfl, rfl⟩
  · have t1 : decide (n < 4) = false := by simp; omega
    have t2 : decide (16 < n) = true := by simp [h']
    clear hn
    go_enter Tryd.func34, Tryd.ntmps34
    go_wp2_with fail
    go_ret2
    exact ⟨rfl, rfl⟩
set_option maxHeartbeats 2000000 in
theorem rNew (w : World) (n : Nat) (hn : 4 ≤ n ∧ n ≤ 16) : Calls Tryd.prog 41 #[.int .i64 n] w fun e w' => ∃ mw v rb, e = .returned (.tuple #[.pointer (some ⟨mw, 0, none⟩), .int .i64 0]) ∧ Ref8 w.heap.size w' mw n v 1 rb (fun _ => noneG) ∧ Below w.heap.size w w' := by
  have t1 : decide ((n : Int) < 4) = false := by simp; omega
  have t2 : decide ((16 : Int) < n) = false := by simp; omega
  have wn : IntKind.i64.wrap (4 * (n : Int)) = 4 * (n : Int) := wrap_near _ (by omega) (by omega)
  have hmk := mkRow n (by omega)
  go_enter Tryd.func41, Tryd.ntmps41
  go_wp2_with fail
  go_ret2
  have k0 : Blk (((w.alloc (.cells (rowA n noneG) 69)).alloc (.cells #[.slice (some ⟨w.heap.size, 0, none⟩) (4 * n) (4 * n)] 99)).alloc (.cells #[.int .i64 n, .slice (some ⟨w.heap.size + 1, 0, none⟩) 1 1] 73)) w.heap.size (rowA n noneG) 69 := ((Blk.new w _ _).alloc _).alloc _
  have k1 : Blk (((w.alloc (.cells (rowA n noneG) 69)).alloc (.cells #[.slice (some ⟨w.heap.size, 0, none⟩) (4 * n) (4 * n)] 99)).alloc (.cells #[.int .i64 n, .slice (some ⟨w.heap.size + 1, 0, none⟩) 1 1] 73)) (w.heap.size + 1) #[.slice (some ⟨w.heap.size, 0, none⟩) (4 * n) (4 * n)] 99 := by
    have := (Blk.new (w.alloc (.cells (rowA n noneG) 69)) #[.slice (some ⟨w.heap.size, 0, none⟩) (4 * n) (4 * n)] 99).alloc (.cells #[.int .i64 n, .slice (some ⟨w.heap.size + 1, 0, none⟩) 1 1] 73)
    simpa using this
  have k2 : Blk (((w.alloc (.cells (rowA n noneG) 69)).alloc (.cells #[.slice (some ⟨w.heap.size, 0, none⟩) (4 * n) (4 * n)] 99)).alloc (.cells #[.int .i64 n, .slice (some ⟨w.heap.size + 1, 0, none⟩) 1 1] 73)) (w.heap.size + 1 + 1) #[.int .i64 n, .slice (some ⟨w.heap.size + 1, 0, none⟩) 1 1] 73 := by
    have := Blk.new ((w.alloc (.cells (rowA n noneG) 69)).alloc (.cells #[.slice (some ⟨w.heap.size, 0, none⟩) (4 * n) (4 * n)] 99)) #[.int .i64 n, .slice (some ⟨w.heap.size + 1, 0, none⟩) 1 1] 73
    simpa using this
  have hb : Below w.heap.size w (((w.alloc (.cells (rowA n noneG) 69)).alloc (.cells #[.slice (some ⟨w.heap.size, 0, none⟩) (4 * n) (4 * n)] 99)).alloc (.cells #[.int .i64 n, .slice (some ⟨w.heap.size + 1, 0, none⟩) 1 1] 73)) :=
    ((below_alloc _ _).trans ((below_alloc _ _).mono (by simp))).trans ((below_alloc _ _).mono (by simp; omega))
  refine ⟨w.heap.size + 1 + 1, _, fun _ => w.heap.size, rfl, ⟨k2, ⟨by simp [rowsL], .inr ⟨w.heap.size + 1, 1, _, rfl, by omega, k1, by omega, by unfold maxLen; omega, rfl, by simp [rowsL]⟩⟩, fun i hi => k0, fun i j hi hj hij => by omega, ⟨by omega, fun i hi => by omega⟩, hn, by omega⟩, hb⟩
def nextR (rb : Nat → Nat) (L b : Nat) (i : Nat) : Nat := if i < L then rb i else b
def nextF (F : Nat → Int → Option Int) (L : Nat) (i : Nat) : Int → Option Int := if i < L then F i else noneG
theorem rowsL_next {n : Nat} {rb : Nat → Nat} {L b : Nat} : rowsL n (nextR rb L b) (L + 1) = rowsL n rb L ++ [.slice (some ⟨b, 0, none⟩) (4 * n) (4 * n)] := by
  unfold rowsL
  rw [List.range_succ, List.map_append]
  congr 1
  · apply List.map_congr_left
    intro i hi
    have := List.mem_range.1 hi
    simp [nextR, this]
  · simp [nextR]
theorem own8_blk {w : World} {B : Nat} {E : TypeId} {v : Value} {n z : Nat} {xs : List Value} (h : w.ownsRow B E z v n xs) {k : Nat} (hk : v.ownBlock = some k) : ∃ cur, Blk w k cur E := by
  rcases h.2 with ⟨rfl, _⟩ | ⟨g, cap, cur, rfl, _, hg, _⟩
  · simp [Value.ownBlock] at hk
  · simp [Value.ownBlock] at hk
    subst hk
    exact ⟨cur, hg⟩
theorem r_after {B : Nat} {w W0 w1 : World} {mw n : Nat} {v v1 : Value} {L : Nat} {rb : Nat → Nat} {F : Nat → Int → Option Int} (h : Ref8 B w mw n v L rb F) (hW : Below w.heap.size w W0) (hrow : Blk W0 w.heap.size (rowA n noneG) 69)
    (hown1 : w1.ownsRow B 99 1 v1 (L + 1) (rowsL n rb L ++ [.slice (some ⟨w.heap.size, 0, none⟩) (4 * n) (4 * n)])) (hg1 : W0.grownBy w1 v.ownBlock) :
    w1.cell? ⟨mw, 0, none⟩ = some (.int .i64 n) ∧ w1.cell? ⟨mw, 1, none⟩ = some v ∧ w1.frozen? ⟨mw, 1, none⟩ = false ∧ mw < w1.heap.size ∧
      Ref8 B (w1.setCell ⟨mw, 1, none⟩ v1) mw n v1 (L + 1) (nextR rb L w.heap.size) (nextF F L) ∧ Keep [73, 99] w (w1.setCell ⟨mw, 1, none⟩ v1) ∧ Below B w (w1.setCell ⟨mw, 1, none⟩ v1) := by
  have hlt := h.blk.lt
  have hB : B ≤ w.heap.size := Nat.le_trans h.ge.1 (Nat.le_of_lt hlt)
  have hk0 : ∀ k, k < W0.heap.size → (∀ c, ¬ Blk W0 k c 99) → w1.heap[k]? = W0.heap[k]? := fun k hk hn => hg1.block k hk (fun e => by
    obtain ⟨c, hc⟩ := own8_blk h.own e.symm
    exact hn c (hc.below hW hc.lt))
  have hkeep : ∀ k c T, Blk W0 k c T → T ≠ 99 → Blk w1 k c T := fun k c T hk hT => (hk0 k hk.lt (fun c' hc' => hT (hk.same hc'))).trans hk
  have hbk1 := hkeep mw _ _ (h.blk.below hW hlt) (by decide)
  have hb1 : Below B w w1 := Below.grown (hW.mono hB) hg1 (Nat.le_trans hB hW.size) (fun k hk => (h.own.lt k hk).1)
  have hset : ∀ k c T, Blk w1 k c T → k ≠ mw → Blk (w1.setCell ⟨mw, 1, none⟩ v1) k c T := fun k c T hk hn => hk.setNe (a := ⟨mw, 1, none⟩) hn _
  refine ⟨hbk1.cell (by simp), hbk1.cell (by simp), hbk1.free 1, hbk1.lt, ⟨(hbk1.set 1 v1).congr (by simp), ?_, fun i hi => ?_, fun i j hi hj hij => ?_, ⟨h.ge.1, fun i hi => ?_⟩, h.hn, by omega⟩, ⟨by simp; exact Nat.le_trans hW.size hg1.size, fun k hk hn => ?_⟩, hb1.setCell h.ge.1 _⟩
  · rw [rowsL_next]
    refine ⟨hown1.1, ?_⟩
    rcases hown1.2 with h2 | ⟨g, cap, cur, rfl, h2, h3, r⟩
    · exact .inl h2
    · have hgb : Blk w1 g cur 99 := h3
      exact .inr ⟨g, cap, cur, rfl, h2, hset _ _ _ hgb (hgb.ne hbk1 (by decide)), r⟩
  · unfold nextR nextF
    by_cases hi' : i < L
    · rw [if_pos hi', if_pos hi']
      have hr := hkeep _ _ _ ((h.row i hi').below hW (h.row i hi').lt) (by decide)
      exact hset _ _ _ hr (hr.ne hbk1 (by decide))
    · rw [if_neg hi', if_neg hi']
      have hr := hkeep _ _ _ hrow (by decide)
      exact hset _ _ _ hr (hr.ne hbk1 (by decide))
  · unfold nextR
    by_cases hi' : i < L
    · rw [if_pos hi']
      by_cases hj' : j < L
      · rw [if_pos hj']
        exact h.inj i j hi' hj' hij
      · rw [if_neg hj']
        have := (h.row i hi').lt
        omega
    · rw [if_neg hi']
      by_cases hj' : j < L
      · rw [if_pos hj']
        have := (h.row j hj').lt
        omega
      · omega
  · unfold nextR
    by_cases hi' : i < L
    · rw [if_pos hi']
      exact h.ge.2 i hi'
    · rw [if_neg hi']
      exact hB
  · have hkm : k ≠ mw := fun e => by
      subst e
      exact hn _ _ h.blk (by simp)
    have e1 : W0.heap[k]? = w.heap[k]? := hW.block k hk
    refine (Below.heap_setCell _ ⟨mw, 1, none⟩ _ k hkm).trans ((hk0 k (Nat.lt_of_lt_of_le hk hW.size) (fun c hc => ?_)).trans e1)
    exact hn c _ (e1.symm.trans hc) (by simp)
set_option maxHeartbeats 2000000 in
theorem rEnd {B : Nat} {w : World} {mw n : Nat} {v : Value} {L : Nat} {rb : Nat → Nat} {F : Nat → Int → Option Int} (h : Ref8 B w mw n v L rb F) (hL : L ≤ 1000) :
    Calls Tryd.prog 43 #[.pointer (some ⟨mw, 0, none⟩)] w fun e w' => e = .returned (.tuple #[]) ∧ (∃ v' rb', Ref8 B w' mw n v' (L + 1) rb' (nextF F L)) ∧ Keep [73, 99] w w' ∧ Below B w w' := by
  obtain ⟨i0, hi, hz0, hz1, hz2⟩ := info_parts elemR8
  have c0 := h.blk.cell (i := 0) rfl
  have c1 := h.blk.cell (i := 1) rfl
  simp only [List.getElem_toArray, List.getElem_cons_zero, List.getElem_cons_succ] at c0 c1
  have hn := h.hn
  have hlt := h.blk.lt
  have wn : IntKind.i64.wrap (4 * (n : Int)) = 4 * (n : Int) := wrap_near _ (by omega) (by omega)
  have hmk := mkRow n (by omega)
  have hW : Below w.heap.size w (((w.alloc (.cells (rowA n noneG) 69)).alloc (.cells #[.slice (some ⟨w.heap.size, 0, none⟩) (4 * n) (4 * n)] 99)).drewN 1) := bdrewN ((below_alloc _ _).trans ((below_alloc _ _).mono (by simp))) 1
  have hrow : Blk (((w.alloc (.cells (rowA n noneG) 69)).alloc (.cells #[.slice (some ⟨w.heap.size, 0, none⟩) (4 * n) (4 * n)] 99)).drewN 1) w.heap.size (rowA n noneG) 69 := (Blk.new w _ _).alloc _
  have hown : World.ownsRow ((w.alloc (.cells (rowA n noneG) 69)).alloc (.cells #[.slice (some ⟨w.heap.size, 0, none⟩) (4 * n) (4 * n)] 99)) B 99 1 v L (rowsL n rb L) := (h.own.alloc _).alloc _
  have hB : B ≤ w.heap.size := by have := h.ge.1; omega
  have hS : Blk ((w.alloc (.cells (rowA n noneG) 69)).alloc (.cells #[.slice (some ⟨w.heap.size, 0, none⟩) (4 * n) (4 * n)] 99)) (w.heap.size + 1) #[.slice (some ⟨w.heap.size, 0, none⟩) (4 * n) (4 * n)] 99 := by
    have := Blk.new (w.alloc (.cells (rowA n noneG) 69)) #[.slice (some ⟨w.heap.size, 0, none⟩) (4 * n) (4 * n)] 99
    simpa using this
  have q1 : ∀ j u, [Value.slice (some ⟨w.heap.size, 0, none⟩) (4 * n) (4 * n)][j]? = some u → World.cell? ((w.alloc (.cells (rowA n noneG) 69)).alloc (.cells #[.slice (some ⟨w.heap.size, 0, none⟩) (4 * n) (4 * n)] 99)) ((⟨w.heap.size + 1, 0, none⟩ : Addr).add j) = some u := by
    intro j u hj
    match j, hj with
    | 0, hj => simp at hj; subst hj; exact hS.cell (i := 0) rfl
  have q2 : ∀ u ∈ [Value.slice (some ⟨w.heap.size, 0, none⟩) (4 * n) (4 * n)], u.oneCell' = true := by intro u hu; simp at hu; subst hu; rfl
  have q3 : L + 1 ≤ maxLen := by unfold maxLen; omega
  have hm : ∀ v1 w1, w1.ownsRow B 99 1 v1 (L + 1) (rowsL n rb L ++ [.slice (some ⟨w.heap.size, 0, none⟩) (4 * n) (4 * n)]) → World.grownBy (((w.alloc (.cells (rowA n noneG) 69)).alloc (.cells #[.slice (some ⟨w.heap.size, 0, none⟩) (4 * n) (4 * n)] 99)).drewN 1) w1 v.ownBlock → ∃ g cap, v1 = .slice (some ⟨g, 0, none⟩) (L + 1) cap ∧ (w1.cell? ⟨mw, 0, none⟩ = some (.int .i64 n) ∧ w1.cell? ⟨mw, 1, none⟩ = some v ∧ w1.frozen? ⟨mw, 1, none⟩ = false ∧ mw < w1.heap.size ∧
      Ref8 B (w1.setCell ⟨mw, 1, none⟩ v1) mw n v1 (L + 1) (nextR rb L w.heap.size) (nextF F L) ∧ Keep [73, 99] w (w1.setCell ⟨mw, 1, none⟩ v1) ∧ Below B w (w1.setCell ⟨mw, 1, none⟩ v1)) := fun v1 w1 hown1 hg1 => by
    have := r_after h hW hrow hown1 hg1
    rcases hown1.2 with ⟨_, h2⟩ | ⟨g, cap, cur, h1, _⟩
    · exact absurd h2 (by omega)
    · exact ⟨g, cap, h1, this⟩
  replace hown := Lib.hid hown
  replace q1 := Lib.hid q1
  replace q2 := Lib.hid q2
  replace q3 := Lib.hid q3
  replace hm := Lib.hid hm
  clear h hW hrow hS
  go_enter Tryd.func43, Tryd.ntmps43
  go_wp2_with fail
  go_region_law ((refine step_append_own rfl (.tmp 6) (.tmp 13) 71 rfl B 99 i0 (.slice none 0 0) 1 24 Tryd.underlying71 hi hz0 hz1 hz2 rfl (by decide) v L (rowsL n rb L) (by simp [Act.eval, Act.put]) hown.out ⟨w.heap.size + 1, 0, none⟩ 1 1 [.slice (some ⟨w.heap.size, 0, none⟩) (4 * n) (4 * n)] (by simp [Act.eval, Act.put]) rfl q1.out q2.out q3.out (by omega) (by simp; omega) ?_; intro v1 w1 hown1 hg1 hiff; obtain ⟨g, cap, rfl, e0, e1, e2, e3, r⟩ := hm.out v1 w1 hown1 hg1; replace r := Lib.hid r; clear hown1 hg1 hiff))
  all_goals
    go_end0
    exact ⟨rfl, ⟨_, _, r.out.1⟩, r.out.2⟩
end Go.Proofs.YteogoddnefeleaaDoor
