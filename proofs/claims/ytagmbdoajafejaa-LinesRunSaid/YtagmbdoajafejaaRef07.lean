/- The document's lines: all that was ever sent. -/
import Derived.Test.YtagmbdoajafejaaProg
import Derived.Test.YtagmbdoajafejaaApp
namespace Go.Proofs.Ytagmbdoajafejaa
open Go.RowKit
set_option linter.unusedSimpArgs false
set_option linter.unusedVariables false
/-- What was sent, tick by tick. -/
abbrev Sends := List (Int × Bool)
def flat (S : Sends) : List Value := S.flatMap fun x => [.int .i64 x.1, .bool x.2]
theorem flat_len (S : Sends) : (flat S).length = 2 * S.length := by
  induction S with
  | nil => rfl
  | cons x S ih => simp [flat] at ih ⊢; omega
theorem flat_get {S : Sends} {i : Nat} {x : Int × Bool} (h : S[i]? = some x) : (flat S)[i * 2]? = some (.int .i64 x.1) ∧ (flat S)[i * 2 + 1]? = some (.bool x.2) := by
  induction S generalizing i with
  | nil => simp at h
  | cons y S ih =>
    cases i with
    | zero => simp at h; subst h; simp [flat]
    | succ i =>
      have := ih (by simpa using h)
      have e1 : (i + 1) * 2 = i * 2 + 2 := by omega
      have hf : flat (y :: S) = .int .i64 y.1 :: .bool y.2 :: flat S := by simp [flat]
      rw [hf, e1]
      have e2 : i * 2 + 2 + 1 = (i * 2 + 1) + 2 := by omega
      rw [e2]
      simpa using this
def atRef (hop : Nat) (S : Sends) (tick : Nat) : Int × Bool := if hop ≤ tick then (match S[tick - hop]? with
  | some (x, true) => (x, true)
  | _ => (0, false)) else (0, false)
structure RefAt (B : Nat) (w : World) (bR hop : Nat) (v : Value) (S : Sends) : Prop where
  blk : Blk w bR #[.int .i64 hop, v] 56
  le : B ≤ bR
  own : w.ownsRow B 92 2 v S.length (flat S)
theorem RefAt.slice {B : Nat} {w : World} {bR hop : Nat} {v : Value} {S : Sends} (h : RefAt B w bR hop v S) : ∃ ao cap, v = .slice ao S.length cap ∧
    ∀ i x, S[i]? = some x → ∃ g, ao = some ⟨g, 0, none⟩ ∧ w.cell? ⟨g, i * 2, none⟩ = some (.int .i64 x.1) ∧ w.cell? ⟨g, i * 2 + 1, none⟩ = some (.bool x.2) := by
  rcases h.own.2 with ⟨rfl, h0⟩ | ⟨g, cap, cur, rfl, h2, h3, h4, h5, h6, h7⟩
  · refine ⟨none, 0, by rw [h0], fun i x hx => ?_⟩
    have := (List.getElem?_eq_some_iff.1 hx).1
    omega
  · refine ⟨_, cap, rfl, fun i x hx => ⟨g, rfl, ?_⟩⟩
    have hb : Blk w g cur 92 := h3
    obtain ⟨f1, f2⟩ := flat_get hx
    have hget : ∀ j u, (flat S)[j]? = some u → cur[j]? = some u := fun j u hj => by
      rw [← h7, List.getElem?_take] at hj
      split at hj
      · simpa using hj
      · simp at hj
    exact ⟨hb.cell (hget _ _ f1), hb.cell (hget _ _ f2)⟩
set_option maxRecDepth 100000
set_option maxHeartbeats 400000 in
theorem refAt_any {B : Nat} {w : World} {bR hop : Nat} {v : Value} {S : Sends} (h : RefAt B w bR hop v S) (tick : Nat) (ht : tick ≤ 1000000) (hh : hop ≤ 2) (hS : S.length ≤ 1000000) :
    Calls Try.prog 36 #[.pointer (some ⟨bR, 0, none⟩), .int .i64 tick] w fun e w' => e = .returned (.tuple #[.int .i64 (atRef hop S tick).1, .bool (atRef hop S tick).2]) ∧ ∃ q, w' = w.drewN q := by
  obtain ⟨ao, cap, rfl, hr⟩ := h.slice
  have c0 := h.blk.cell (i := 0) rfl
  have c1 := h.blk.cell (i := 1) rfl
  clear h
  replace hr := Lib.hid hr
  by_cases h1 : hop ≤ tick
  · obtain ⟨k, rfl⟩ : ∃ k, tick = hop + k := ⟨tick - hop, by omega⟩
    by_cases h2 : k < S.length
    · obtain ⟨x, hx⟩ : ∃ x, S[k]? = some x := ⟨_, List.getElem?_eq_getElem h2⟩
      obtain ⟨g, rfl, e1, e2⟩ := hr.out k x hx
      obtain ⟨x1, x2⟩ := x
      have hk : (k : Int) < S.length := by omega
      have ew : ((hop : Int) + k - hop) = k := by omega
      cases x2 with
      | true =>
        have ea : atRef hop S (hop + k) = (x1, true) := by simp [atRef, hx]
        rw [ea]
        clear ea hx
        go_enter Try.func36, Try.ntmps36
        go_wp2
        go_ret2
        exact ⟨rfl, 0, rfl⟩
      | false =>
        have ea : atRef hop S (hop + k) = (0, false) := by simp [atRef, hx]
        rw [ea]
        clear ea hx
        go_enter Try.func36, Try.ntmps36
        go_wp2
        go_ret2
        exact ⟨rfl, 0, rfl⟩
    · have hx : S[k]? = none := by simp; omega
      have hk : (S.length : Int) ≤ k := by omega
      have ew : ((hop : Int) + k - hop) = k := by omega
      have ea : atRef hop S (hop + k) = (0, false) := by simp [atRef, hx]
      rw [ea]
      clear ea hx
      go_enter Try.func36, Try.ntmps36
      go_wp2
      go_ret2
      exact ⟨rfl, 0, rfl⟩
  · have ea : atRef hop S tick = (0, false) := by simp [atRef, h1]
    rw [ea]
    clear ea
    have hk : (tick : Int) - hop < 0 := by omega
    go_enter Try.func36, Try.ntmps36
    go_wp2
    go_ret2
    exact ⟨rfl, 0, rfl⟩
theorem refHere {B : Nat} {w : World} {bR hop : Nat} {v : Value} {S : Sends} (h : RefAt B w bR hop v S) (hh : hop ≤ 2) (hS : S.length ≤ 1000000) :
    Calls Try.prog 15 #[.pointer (some ⟨bR, 0, none⟩)] w fun e w' => e = .returned (.tuple #[.int .i64 (atRef hop S S.length).1, .bool (atRef hop S S.length).2]) ∧ ∃ q, w' = w.drewN q := by
  obtain ⟨ao, cap, rfl, hr⟩ := h.slice
  have c1 := h.blk.cell (i := 1) rfl
  clear hr
  go_enter Try.func15, Try.ntmps15
  go_wp2_with fail
  refine (refAt_any h S.length hS hh hS).mono ?_
  rintro e wx ⟨rfl, q, rfl⟩
  go_wp2_with fail
  go_ret2
  exact ⟨rfl, _, rfl⟩
theorem refNew_1 (w : World) (B : Nat) (hB : B ≤ w.heap.size) : Calls Try.prog 13 #[.int .i64 1] w fun e w' => ∃ b, e = .returned (.tuple #[.pointer (some ⟨b, 0, none⟩), .int .i64 0]) ∧ RefAt B w' b 1 (.slice none 0 0) [] ∧ w.heap.size ≤ b ∧ Below w.heap.size w w' := by
  go_enter Try.func13, Try.ntmps13
  go_wp2
  go_ret2
  exact ⟨_, rfl, ⟨Blk.new _ _ _, hB, World.ownsRow_nil _ _ _ _⟩, Nat.le_refl _, (Below.refl _ _).alloc (Nat.le_refl _) _⟩
theorem refNew_2 (w : World) (B : Nat) (hB : B ≤ w.heap.size) : Calls Try.prog 13 #[.int .i64 2] w fun e w' => ∃ b, e = .returned (.tuple #[.pointer (some ⟨b, 0, none⟩), .int .i64 0]) ∧ RefAt B w' b 2 (.slice none 0 0) [] ∧ w.heap.size ≤ b ∧ Below w.heap.size w w' := by
  go_enter Try.func13, Try.ntmps13
  go_wp2
  go_ret2
  exact ⟨_, rfl, ⟨Blk.new _ _ _, hB, World.ownsRow_nil _ _ _ _⟩, Nat.le_refl _, (Below.refl _ _).alloc (Nat.le_refl _) _⟩
theorem refNew_no (w : World) (hop : Int) (h1 : hop ≠ 1) (h2 : hop ≠ 2) : Calls Try.prog 13 #[.int .i64 hop] w fun e w' => e = .returned (.tuple #[.pointer none, .int .i64 1]) ∧ w = w' := by
  have e1 : (hop != 1) = true := by simp [h1]
  have e2 : (hop != 2) = true := by simp [h2]
  clear h1 h2
  go_enter Try.func13, Try.ntmps13
  go_wp2
  go_ret2
  exact ⟨rfl, rfl⟩
/-- 'append' as one step of a region that draws its order. -/
theorem step_append_own {P : Program} {ops : Array Oper} {o : Oper} {a : Act} {w : World} {K : Act → World → Prop} {Q : Exit → Act → World → Prop} {E : Prop} (hgd : o.guard = none) (s x : Operand) (t : TypeId)
    (ho : o.op = .call { callee := .builtin .append, args := #[s, x], argTypes := #[t, t] })
    (base : Nat) (e : TypeId) (i : TypeInfo) (z : Value) (size bytes : Nat) (ht : P.underlying t = some (.slice e)) (hi : P.info? e = some i) (hz : i.zero = some z)
    (hsize : i.size = size) (hby : i.bytes = bytes) (hzs : z.cells.size = size) (hsz : 0 < size)
    (v : Value) (n : Nat) (xs : List Value) (hs : a.eval s = v) (hown : w.ownsRow base e size v n xs)
    (ad : Addr) (m c : Nat) (news : List Value) (hx : a.eval x = .slice (some ad) m c) (hl : news.length = m * size) (hnews : ∀ j u, news[j]? = some u → w.cell? (ad.add j) = some u) (h1 : ∀ u ∈ news, u.oneCell' = true)
    (h63 : n + m ≤ maxLen) (hbytes : (n + m) * bytes ≤ 140737488355328) (hbase : base ≤ w.heap.size)
    (h : ∀ v' w', w'.ownsRow base e size v' (n + m) (xs ++ news) → w.grownBy w' v.ownBlock → (v' = .slice none 0 0 ↔ v = .slice none 0 0 ∧ m = 0) → K (a.put o.dst v') w') :
    if Region.wanted o (yielded ops a.tmps) = true then Oper.wp P o a w K Q else E := by
  rw [if_pos (by simp [Region.wanted, hgd])]
  exact wp_append_own w s x t ho base e i z size bytes ht hi hz hsize hby hzs hsz v n xs hs hown ad m c news hx hl hnews h1 h63 hbytes hbase h
theorem elemR : (Try.prog.info? 92).map (fun i => (i.zero, i.size, i.bytes)) = some (some (.agg #[.int .i64 0, .bool false]), 2, 16) := by kernel_rfl
theorem ref_own_blk {w : World} {B : Nat} {E : TypeId} {v : Value} {n z : Nat} {xs : List Value} (h : w.ownsRow B E z v n xs) {k : Nat} (hk : v.ownBlock = some k) : ∃ cur, Blk w k cur E := by
  rcases h.2 with ⟨rfl, _⟩ | ⟨g, cap, cur, rfl, _, hg, _⟩
  · simp [Value.ownBlock] at hk
  · simp [Value.ownBlock] at hk
    subst hk
    exact ⟨cur, hg⟩
theorem ref_after {B : Nat} {w W0 w1 : World} {bR hop : Nat} {v : Value} {S : Sends} {x : Int × Bool} (h : RefAt B w bR hop v S) (hW : Below w.heap.size w W0) {v1 : Value}
    (hown1 : w1.ownsRow B 92 2 v1 (S.length + 1) (flat S ++ [.int .i64 x.1, .bool x.2])) (hg1 : W0.grownBy w1 v.ownBlock) :
    w1.cell? ⟨bR, 1, none⟩ = some v ∧ w1.frozen? ⟨bR, 1, none⟩ = false ∧ RefAt B (w1.setCell ⟨bR, 1, none⟩ v1) bR hop v1 (S ++ [x]) ∧ Below B w (w1.setCell ⟨bR, 1, none⟩ v1) ∧ w.heap.size ≤ (w1.setCell ⟨bR, 1, none⟩ v1).heap.size ∧
      ∀ b c T, Blk w b c T → T ≠ 56 → T ≠ 92 → Blk (w1.setCell ⟨bR, 1, none⟩ v1) b c T := by
  have hlt := h.blk.lt
  have hkeep : ∀ k c T, Blk w k c T → T ≠ 92 → Blk w1 k c T := fun k c T hk hT => by
    have hk' := hk.below hW hk.lt
    refine (hg1.block k hk'.lt (fun e => ?_)).trans hk'
    obtain ⟨c', h3⟩ := ref_own_blk h.own e.symm
    exact hk.ne h3 hT rfl
  have hbk1 := hkeep bR _ _ h.blk (by decide)
  have hB : B ≤ w.heap.size := Nat.le_trans h.le (Nat.le_of_lt hlt)
  have hb1 : Below B w w1 := Below.grown (hW.mono hB) hg1 (Nat.le_trans hB hW.size) (fun k hk => (h.own.lt k hk).1)
  refine ⟨hbk1.cell (by simp), hbk1.free 1, ⟨(hbk1.set 1 v1).congr (by simp), h.le, ?_⟩, hb1.setCell h.le _, by simp; exact Nat.le_trans hW.size hg1.size, fun b c T hb n1 n2 => (hkeep b c T hb n2).setNe (hb.ne h.blk n1) _⟩
  have e1 : (S ++ [x]).length = S.length + 1 := by simp
  have e2 : flat (S ++ [x]) = flat S ++ [.int .i64 x.1, .bool x.2] := by simp [flat]
  rw [e1, e2]
  refine ⟨hown1.1, ?_⟩
  rcases hown1.2 with h2 | ⟨g, cap, cur, rfl, h2, h3, r⟩
  · exact .inl h2
  · refine .inr ⟨g, cap, cur, rfl, h2, ?_, r⟩
    have hgb : Blk w1 g cur 92 := h3
    exact hgb.setNe (a := ⟨bR, 1, none⟩) (by simpa using hgb.ne hbk1 (by decide)) _
set_option maxHeartbeats 400000 in
theorem refSend_no {B : Nat} {w : World} {bR hop : Nat} {v : Value} {S : Sends} (h : RefAt B w bR hop v S) (hS : S.length ≤ 1000000) (a : Option Addr) (c : Nat) :
    Calls Try.prog 23 #[.pointer (some ⟨bR, 0, none⟩), .slice a 0 c] w fun e w' => e = .returned (.int .i64 0) ∧ (∃ v', RefAt B w' bR hop v' (S ++ [(0, false)])) ∧ Below B w w' ∧ w.heap.size ≤ w'.heap.size ∧
      ∀ b c T, Blk w b c T → T ≠ 56 → T ≠ 92 → Blk w' b c T := by
  obtain ⟨i0, hi, hz0, hz1, hz2⟩ := info_parts elemR
  have c1 := h.blk.cell (i := 1) rfl
  have f1 := h.blk.free 1
  have lt := h.blk.lt
  have hB : B ≤ w.heap.size := Nat.le_trans h.le (Nat.le_of_lt lt)
  have hown := h.own.alloc (.cells #[.int .i64 0, .bool false] 92)
  have hH := Lib.hid h
  clear h
  go_enter Try.func23, Try.ntmps23
  go_wp2_with (at_builtin; refine wpList_append_own _ rfl _ _ 54 rfl B 92 i0 (.agg #[.int .i64 0, .bool false]) 2 16 Try.underlying54 hi hz0 hz1 hz2 rfl (by decide) _ _ _ rfl hown ⟨w.heap.size, 0, none⟩ 1 1 [.int .i64 0, .bool false] rfl rfl ?q1 ?q2 ?q3 ?q4 ?q5 ?q6)
  case q1 =>
    intro j u hj
    match j, hj with
    | 0, hj => simp at hj; subst hj; simp [Addr.add, go_sem]
    | 1, hj => simp at hj; subst hj; simp [Addr.add, go_sem]
  case q2 => intro u hu; simp at hu; rcases hu with rfl | rfl <;> rfl
  case q3 => unfold maxLen; omega
  case q4 => omega
  case q5 => simp; omega
  case q6 =>
    intro v1 w1 hown1 hg1 _
    obtain ⟨g, cap, rfl⟩ : ∃ g cap, v1 = .slice (some ⟨g, 0, none⟩) (S.length + 1) cap := by
      rcases hown1.2 with ⟨_, h2⟩ | ⟨g, cap, cur, h1, _⟩
      · exact absurd h2 (by omega)
      · exact ⟨g, cap, h1⟩
    obtain ⟨e0, e1, r⟩ := ref_after (x := (0, false)) hH.out ((Below.refl _ _).alloc (Nat.le_refl _) _) hown1 hg1
    replace r := Lib.hid r
    clear hown hown1 hg1
    go_wp2
    go_ret
    exact ⟨rfl, ⟨_, r.out.1⟩, r.out.2⟩
set_option maxHeartbeats 400000 in
theorem refSend_yes {B : Nat} {w : World} {bR hop : Nat} {v : Value} {S : Sends} (h : RefAt B w bR hop v S) (hS : S.length ≤ 1000000) (b o c : Nat) (x : Int) (hx : w.cell? ⟨b, o, none⟩ = some (.int .i64 x)) :
    Calls Try.prog 23 #[.pointer (some ⟨bR, 0, none⟩), .slice (some ⟨b, o, none⟩) 1 c] w fun e w' => e = .returned (.int .i64 0) ∧ (∃ v', RefAt B w' bR hop v' (S ++ [(x, true)])) ∧ Below B w w' ∧ w.heap.size ≤ w'.heap.size ∧
      ∀ b c T, Blk w b c T → T ≠ 56 → T ≠ 92 → Blk w' b c T := by
  obtain ⟨i0, hi, hz0, hz1, hz2⟩ := info_parts elemR
  have c1 := h.blk.cell (i := 1) rfl
  have f1 := h.blk.free 1
  have lt := h.blk.lt
  have hB : B ≤ w.heap.size := Nat.le_trans h.le (Nat.le_of_lt lt)
  have hH := Lib.hid h
  go_enter Try.func23, Try.ntmps23
  go_wp2_with fail
  have hown := h.own.alloc (.cells #[.int .i64 x, .bool true] 92)
  have q1 : ∀ j u, [Value.int .i64 x, .bool true][j]? = some u → (w.alloc (.cells #[.int .i64 x, .bool true] 92)).cell? ((⟨w.heap.size, 0, none⟩ : Addr).add j) = some u := by
    intro j u hj
    match j, hj with
    | 0, hj => simp at hj; subst hj; simp [Addr.add, go_sem]
    | 1, hj => simp at hj; subst hj; simp [Addr.add, go_sem]
  have q2 : ∀ u ∈ [Value.int .i64 x, .bool true], u.oneCell' = true := by intro u hu; simp at hu; rcases hu with rfl | rfl <;> rfl
  have q3 : S.length + 1 ≤ maxLen := by unfold maxLen; omega
  have hm : ∀ v1 w1, w1.ownsRow B 92 2 v1 (S.length + 1) (flat S ++ [.int .i64 x, .bool true]) → ((w.alloc (.cells #[.int .i64 x, .bool true] 92)).drewN 1).grownBy w1 v.ownBlock → ∃ g cap, v1 = .slice (some ⟨g, 0, none⟩) (S.length + 1) cap ∧ (w1.cell? ⟨bR, 1, none⟩ = some v ∧ w1.frozen? ⟨bR, 1, none⟩ = false ∧ RefAt B (w1.setCell ⟨bR, 1, none⟩ v1) bR hop v1 (S ++ [(x, true)]) ∧ Below B w (w1.setCell ⟨bR, 1, none⟩ v1) ∧ w.heap.size ≤ (w1.setCell ⟨bR, 1, none⟩ v1).heap.size ∧
      ∀ b c T, Blk w b c T → T ≠ 56 → T ≠ 92 → Blk (w1.setCell ⟨bR, 1, none⟩ v1) b c T) := fun v1 w1 hown1 hg1 => by
    have := ref_after (x := (x, true)) h (bdrewN ((Below.refl _ _).alloc (Nat.le_refl _) _) 1) hown1 hg1
    rcases hown1.2 with ⟨_, h2⟩ | ⟨g, cap, cur, h1, _⟩
    · exact absurd h2 (by omega)
    · exact ⟨g, cap, h1, this⟩
  replace hown := Lib.hid hown
  replace q1 := Lib.hid q1
  replace q2 := Lib.hid q2
  replace q3 := Lib.hid q3
  replace hm := Lib.hid hm
  clear h
  go_region_law ((refine step_append_own rfl (.tmp 25) (.tmp 30) 54 rfl B 92 i0 (.agg #[.int .i64 0, .bool false]) 2 16 Try.underlying54 hi hz0 hz1 hz2 rfl (by decide) v S.length (flat S) (by simp [Act.eval, Act.put]) hown.out ⟨w.heap.size, 0, none⟩ 1 1 [.int .i64 x, .bool true] (by simp [Act.eval, Act.put]) rfl q1.out q2.out q3.out (by omega) (by simp; omega) ?_; intro v1 w1 hown1 hg1 hiff; obtain ⟨g, cap, rfl, e0, e1, r⟩ := hm.out v1 w1 hown1 hg1; replace r := Lib.hid r; clear hown1 hg1 hiff))
  all_goals
    go_wp2
    go_ret
    exact ⟨rfl, ⟨_, r.out.1⟩, r.out.2⟩
theorem refSend_many {B : Nat} {w : World} {bR hop : Nat} {v : Value} {S : Sends} (h : RefAt B w bR hop v S) (a : Option Addr) (n c : Nat) (hn : 1 < n) :
    Calls Try.prog 23 #[.pointer (some ⟨bR, 0, none⟩), .slice a n c] w fun e w' => e = .returned (.int .i64 1) ∧ w = w' := by
  have hn' : (1 : Int) < n := by omega
  clear h
  go_enter Try.func23, Try.ntmps23
  go_wp2
  go_ret
  exact ⟨rfl, rfl⟩
end Go.Proofs.Ytagmbdoajafejaa
