/- slices.Chunk over symbols, by eights: the iterator's contract. -/
import Derived.Test.YtbfbpagfmhdblaaBitsS
import Derived.RangeFuncBox
import Derived.RangeFuncLeaves
import Derived.RangeFuncCalls
import Derived.Shelf.Abstract
import Derived.OwnWalkIn
import Derived.TacticsInMore
import Derived.LoopNIn
import Derived.LoopIn
import Derived.Maps.AppendAt
namespace Go.Proofs.Ytbfbpagfmhdblaa
open Go.RowKit Go.Shelf
set_option linter.unusedSimpArgs false
set_option linter.unusedVariables false
attribute [local go_sem] Oper.semAt_some
/-- Where the eight symbols of byte x begin. -/
def chA (ao : Option Addr) (x : Nat) : Option Addr := ao.map fun a => ⟨a.block, a.off + 8 * x, none⟩
/-- Bytes as far as there are any. -/
abbrev Upto (q : Nat) := { x : Nat // x < q }
def upto (q k : Nat) (hk : k ≤ q) : List (Upto q) := (List.finRange k).map fun i => ⟨i.1, by omega⟩
theorem upto_succ (q k : Nat) (hk : k + 1 ≤ q) : upto q (k + 1) hk = upto q k (by omega) ++ [⟨k, by omega⟩] := by
  simp [upto, List.finRange_succ_last, Function.comp_def]
theorem upto_length (q k : Nat) (hk : k ≤ q) : (upto q k hk).length = k := by simp [upto]
/-- What a round must keep: the iterator's own two boxes. -/
def Keep2 (Bs Bn : Nat) (W W' : World) : Prop := W'.heap[Bs]? = W.heap[Bs]? ∧ W'.heap[Bn]? = W.heap[Bn]?
theorem Keep2.trans {Bs Bn : Nat} {A B C : World} (h : Keep2 Bs Bn A B) (k : Keep2 Bs Bn B C) : Keep2 Bs Bn A C := ⟨k.1.trans h.1, k.2.trans h.2⟩
theorem Keep2.cells {Bs Bn : Nat} {A B : World} (h : Keep2 Bs Bn A B) {v : Value} : (A.cell? ⟨Bs, 0, none⟩ = some v → B.cell? ⟨Bs, 0, none⟩ = some v) ∧ (A.cell? ⟨Bn, 0, none⟩ = some v → B.cell? ⟨Bn, 0, none⟩ = some v) :=
  ⟨fun e => (World.cell?_of_block (w := A) h.1).trans e, fun e => (World.cell?_of_block (w := A) h.2).trans e⟩
theorem keep2_b {Bs Bn : Nat} {w : World} (h1 : Bs < w.heap.size) (h2 : Bn < w.heap.size) (W : World) (l : Nat) (o o' : Obj) (hl : w.heap.size ≤ l) (h : W.heap[l]? = some o) (_ : o.isCells = false) (_ : o.isWalk = false) : Keep2 Bs Bn W (W.putObj l o') :=
  ⟨World.putObj_heap_other (by omega), World.putObj_heap_other (by omega)⟩
set_option maxRecDepth 100000 in
set_option maxHeartbeats 2000000 in
theorem chunk1_in (F : Fence) (n : Nat) (hF : F.fn 101) (hro : F.round = none) (hn : 1 ≤ n) (l Bs Bn : Nat) (ao : Option Addr) (q c : Nat) (hao : 0 < q → ∃ b o, ao = some ⟨b, o, none⟩) (hc : 8 * q ≤ c) (hc63 : c ≤ 9223372036854775807) (hq : q ≤ 1000000) (J Jx : List (Upto q) → World → Prop)
    (W : World) (hJ : AbidesFrom W.heap.size J)
    (hY : ∀ pre x W, J pre W → pre.length < q → YieldAt F (n - 1) Try.prog l #[.slice (chA ao x.1) 8 8] W fun e W' =>
      (e = .returned (.bool true) ∧ J (pre ++ [x]) W' ∧ Keep2 Bs Bn W W') ∨ (e = .returned (.bool false) ∧ Jx (pre ++ [x]) W'))
    (hBs : W.cell? ⟨Bs, 0, none⟩ = some (.slice ao (8 * q) c)) (hBn : W.cell? ⟨Bn, 0, none⟩ = some (.int .i64 8)) (h0 : J [] W) :
    CallsIn F n Try.prog 101 #[.func (.yield l) #[] #[], .pointer (some ⟨Bs, 0, none⟩), .pointer (some ⟨Bn, 0, none⟩)] W fun e W' => (∃ v, e = .returned v) ∧
      ((∃ ys, ys = upto q q (Nat.le_refl _) ∧ J ys W') ∨ (∃ pre, True ∧ Jx pre W')) := by
  refine callsIn_of_wp Try.func101 rfl hF ?_ hro
  simp only [Try.ntmps101, List.size_toArray, List.length_cons, List.length_nil, Nat.reduceAdd, Nat.reduceSub, Array.replicate_succ, Array.replicate_zero, List.push_toArray, List.append_toArray, List.nil_append, List.cons_append]
  replace hY := Lib.hid hY
  replace hao := Lib.hid hao
  gi_wp2
  gi_loopw [4, 5] (fun i _ wr => ∃ (k : Nat) (hk : k ≤ q), i = .int .i64 (8 * k : Nat) ∧ J (upto q k hk) wr ∧ Keep2 Bs Bn W wr)
    (fun i _ _ => 8 * q - (intOf i).toNat)
  case atStart => exact ⟨0, Nat.zero_le _, rfl, h0, rfl, rfl⟩
  case round =>
    obtain ⟨k, hk, rfl, hJs, hnx⟩ := hrel
    have hs := hnx.cells.1 hBs
    have hn8 := hnx.cells.2 hBn
    have hnx' := Lib.hid hnx
    clear hnx
    by_cases hlt : k < q
    · obtain ⟨b, o, rfl⟩ := hao.out (by omega)
      have hin : ((8 * k : Nat) : Int) < ((8 * q : Nat) : Int) := by omega
      have hlt8 : ((((8 * q - 8 * k : Nat) : Int)) < 8) = False := by simp; omega
      have hJd : J (upto q k hk) wr.drew := hJ _ wr wr.drew none hJs ⟨rfl, rfl, rfl, Nat.le_refl _, fun _ _ _ => rfl⟩ (fun r h => by cases h)
      obtain ⟨fn, tmps, assign, body, hy, hR⟩ := hY.out _ ⟨k, hlt⟩ wr.drew hJd (by rw [upto_length]; exact hlt)
      dsimp only [chA, Option.map_some] at hy
      replace hR := Lib.hid hR
      clear hJd
      gi_wp2
      gi_region
      all_goals
        gi_wp2
        refine hR.out.mono ?_
        rintro e W3 (⟨rfl, hJ3, hk3⟩ | ⟨rfl, hJx3⟩)
        · have hn83 := hk3.cells.2 hn8
          have hk3' := Lib.hid hk3
          clear hk3
          gi_wp2
          go_roundw
          case rel => exact ⟨k + 1, by omega, by show Value.int _ _ = Value.int _ _; congr 1, by rw [upto_succ]; exact hJ3, Keep2.trans hnx'.out (Keep2.trans (B := wr.drew) ⟨rfl, rfl⟩ hk3'.out)⟩
          case measure => simp [intOf]; omega
        · gi_wp2
          refine bodyPost_ret (results_none rfl _ _ _) rfl ?_
          exact ⟨⟨_, rfl⟩, .inr ⟨_, trivial, hJx3⟩⟩
    · obtain rfl : k = q := by omega
      gi_wp2
      go_end0
      exact ⟨⟨_, rfl⟩, .inl ⟨_, rfl, hJs⟩⟩
set_option maxHeartbeats 1000000 in
theorem chunk_in (F : Fence) (n : Nat) (hF : F.fn 94) (hro : F.round = none) (ao : Option Addr) (m c : Nat) (w : World) :
    CallsIn F n Try.prog 94 #[.slice ao m c, .int .i64 8] w fun e w' => e = .returned (.func (.func 101) #[] #[.pointer (some ⟨w.heap.size, 0, none⟩), .pointer (some ⟨w.heap.size + 1, 0, none⟩)]) ∧
      w' = (w.alloc (.cells #[.slice ao m c] 40)).alloc (.cells #[.int .i64 8] 3) := by
  refine callsIn_of_wp Try.func94 rfl hF ?_ hro
  simp only [Try.ntmps94, List.size_toArray, List.length_cons, List.length_nil, Nat.reduceAdd, Nat.reduceSub, Array.replicate_succ, Array.replicate_zero, List.push_toArray, List.append_toArray, List.nil_append, List.cons_append]
  gi_wp2
  go_ret
  exact ⟨rfl, rfl⟩
theorem chunk_stops (F : Fence) (n : Nat) (hF : F.fn 101) (hro : F.round = none) (hn : 1 ≤ n) (Bs Bn : Nat) (ao : Option Addr) (q c : Nat) (hao : 0 < q → ∃ b o, ao = some ⟨b, o, none⟩) (hc : 8 * q ≤ c) (hc63 : c ≤ 9223372036854775807) (hq : q ≤ 1000000)
    (w : World) (hBs0 : Bs < w.heap.size) (hBn0 : Bn < w.heap.size) (hBs : w.cell? ⟨Bs, 0, none⟩ = some (.slice ao (8 * q) c)) (hBn : w.cell? ⟨Bn, 0, none⟩ = some (.int .i64 8)) :
    SeqStopsK F n Try.prog 101 #[.pointer (some ⟨Bs, 0, none⟩), .pointer (some ⟨Bn, 0, none⟩)] (fun x : Upto q => #[.slice (chA ao x.1) 8 8]) (Keep2 Bs Bn) (fun ys => ys = upto q q (Nat.le_refl _)) (fun _ => True) q w :=
  fun l J Jx W hW hJ _ hY h0 =>
    chunk1_in F n hF hro hn l Bs Bn ao q c hao hc hc63 hq J Jx W hJ hY ((hW.cell (p := ⟨Bs, 0, none⟩) hBs0).trans hBs) ((hW.cell (p := ⟨Bn, 0, none⟩) hBn0).trans hBn) h0
end Go.Proofs.Ytbfbpagfmhdblaa
