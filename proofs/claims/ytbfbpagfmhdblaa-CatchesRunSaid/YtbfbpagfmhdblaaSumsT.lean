/- The document's sums: Put, Check. -/
import Derived.Test.YtbfbpagfmhdblaaSumsS
namespace Go.Proofs.Ytbfbpagfmhdblaa
open Go.RowKit
set_option linter.unusedSimpArgs false
set_option linter.unusedVariables false
set_option maxRecDepth 100000
def InvRPut (w : World) (n : Nat) (L : Nat → Int) (S : Nat) (k : Nat) (a : Act) (wr : World) : Prop :=
  ∃ (e : Nat) (v : Value), e + k = 4 ∧ Below w.heap.size w wr ∧ wr.ownsRow w.heap.size 5 1 v (n + e) (nums .u8 (putS L n) (n + e)) ∧ a.tmps.size = 23 ∧ a.defers = [] ∧ slot a 3 = .int .u32 S ∧ slot a 4 = v ∧ slot a 5 = .int .i64 (3 - e)
set_option maxHeartbeats 2000000 in
theorem refPut (w : World) (ao : Option Addr) (n c : Nat) (L : Nat → Int) (ha : Rd .u8 w ao n L) (hnil : NilOk ao n c) (hL : ∀ i, i < n → 0 ≤ L i ∧ L i < 256) (hn : n ≤ 100000) :
    Calls Try.prog 56 #[.slice ao n c] w fun e w' => ∃ a cc, e = .returned (.slice a (n + 4) cc) ∧ n + 4 ≤ cc ∧ cc ≤ 9223372036854775807 ∧ Mine .u8 5 w.heap.size w' a (n + 4) (putS L n) ∧ Below w.heap.size w w' := by
  obtain ⟨i0, hi0, hz0, hz1, hz2⟩ := info_parts elemHBytes
  replace ha := Lib.hid ha
  replace hL := Lib.hid hL
  replace hnil := Lib.hid hnil
  go_enter Try.func56, Try.ntmps56
  go_wp2_with fail
  refine (refSum w ao n c L ha.out hL.out hn).mono ?_
  rintro e w1 ⟨rfl, hb⟩
  have hsn := sumN_lt L n
  have hSS : Hid (∀ i, i < 4 → putS L n (n + i) = tailB (sumN L n) i) := fun i hi => by rw [putS, if_neg (by omega)]; congr 1; omega
  generalize sumN L n = S at *
  obtain ⟨k0, k1, k2, k3⟩ := tail_u8 S hsn
  have hb' := Lib.hid hb
  have hr1 := Lib.hid (ha.out.below hb (Nat.le_refl _))
  clear hb
  go_wp2_with (at_builtin; refine append_src rfl _ _ 29 rfl w.heap.size 5 i0 (.int .u8 0) 1 Try.underlying29 hi0 hz0 hz1 hz2 rfl _ _ _ rfl (World.ownsRow_nil _ _ _ _) ao n c (nums .u8 L n) rfl hnil.out.2.2 (nums_len _ _ _) (nums_news hr1.out) (nums_one _ _ _) (by omega) (by omega) hb'.out.size ?_)
  intro v2 w2 hown2 hg2 _
  have hb2 := Lib.hid (hb'.out.trans (Below.grown (Below.refl _ _) hg2 hb'.out.size (by simp [Value.ownBlock])))
  try simp only [Nat.zero_add, List.nil_append] at hown2
  rw [nums_congr (L' := putS L n) (fun i hi => by simp [putS, hi])] at hown2
  have hown3 := Lib.hid hown2
  clear hown2 hg2 hb' hr1
  go_wp2
  refine wp_loop_k (InvRPut w n L S) 4 ?_ ?_
  · exact ⟨0, v2, by omega, hb2.out, hown3.out, by kernel_rfl, rfl, by kernel_rfl, by kernel_rfl, by kernel_rfl⟩
  · clear hown3 hb2
    skip
    intro gk a wr hI K1 hK1
    obtain ⟨e, v, he, hb, hown, hs', hd', k3', k4', k5'⟩ := hI
    rw [fr23 a hs' hd']; simp only [k3', k4', k5']; clear hs' hd' k3' k4' k5'
    have hb' := Lib.hid hb
    have hown' := Lib.hid hown
    clear hb hown
    by_cases hle : e < 4
    · have hrow : Hid (putS L n (n + e) = tailB S e) := hSS.out e hle
      obtain ⟨s, hs⟩ : ∃ s : Int, s = 3 - (e : Int) := ⟨_, rfl⟩
      rw [← hs]
      have hcase : (e = 0 ∧ s = 3) ∨ (e = 1 ∧ s = 2) ∨ (e = 2 ∧ s = 1) ∨ (e = 3 ∧ s = 0) := by omega
      clear hs
      rcases hcase with ⟨rfl, rfl⟩ | ⟨rfl, rfl⟩ | ⟨rfl, rfl⟩ | ⟨rfl, rfl⟩
      all_goals
        try simp only [Nat.add_zero] at hrow
        go_wp2_with (at_builtin; refine append_one rfl _ _ 29 rfl w.heap.size 5 i0 (.int .u8 0) 1 Try.underlying29 hi0 hz0 hz1 hz2 rfl _ _ _ rfl hown'.out _ rfl rfl (by omega) (by omega) hb'.out.size ?_)
        intro g1 c1 w3 hown3 hg3 hb3
        rw [← hrow.out, ← nums_succ] at hown3
        have hb4 := Lib.hid (hb'.out.trans hb3)
        have hown4 := Lib.hid hown3
        clear hown3 hg3 hb3 hb' hown'
        go_wp2
        first
          | exact hK1 (gk - 1) _ _ (by omega) ⟨1, _, by omega, hb4.out, hown4.out, by kernel_rfl, rfl, by kernel_rfl, by kernel_rfl, by kernel_rfl⟩
          | exact hK1 (gk - 1) _ _ (by omega) ⟨2, _, by omega, hb4.out, hown4.out, by kernel_rfl, rfl, by kernel_rfl, by kernel_rfl, by kernel_rfl⟩
          | exact hK1 (gk - 1) _ _ (by omega) ⟨3, _, by omega, hb4.out, hown4.out, by kernel_rfl, rfl, by kernel_rfl, by kernel_rfl, by kernel_rfl⟩
          | exact hK1 (gk - 1) _ _ (by omega) ⟨4, _, by omega, hb4.out, hown4.out, by kernel_rfl, rfl, by kernel_rfl, by kernel_rfl, by kernel_rfl⟩
    · obtain rfl : e = 4 := by omega
      have g1 : decide ((0 : Int) ≤ 3 - ((4 : Nat) : Int)) = false := by decide
      obtain ⟨a4, c4, rfl, hc4, hcm4, hnil4, hm4⟩ := own_mine hown'.out
      have hm4' := Lib.hid hm4
      clear hm4 hown'
      go_wp2
      go_ret
      exact ⟨_, _, rfl, hc4, hcm4, hm4'.out, hb'.out⟩
theorem wpAnyH_mono {P : Program} {md : Region.Mode} {ops : Array Oper} {Q : Exit → Act → World → Prop} {S S' : World → Prop} (hS : ∀ W, S W → S' W) :
    ∀ {fuel : Nat} {listed : Array Bool} {a : Act} {w : World}, wpAnyH P md ops Q S fuel listed a w → wpAnyH P md ops Q S' fuel listed a w
  | 0, _, _, _, h => h
  | fuel + 1, _, _, _, h => ⟨h.1, fun i hi => wpOp_mono (fun _ _ h' => ⟨hS _ h'.1, wpAnyH_mono hS h'.2⟩) (h.2 i hi)⟩
set_option maxHeartbeats 2000000 in
theorem refCheck_long (w : World) (ao : Option Addr) (n c : Nat) (L : Nat → Int) (ha : Rd .u8 w ao n L) (hnil : NilOk ao n c) (hL : ∀ i, i < n → 0 ≤ L i ∧ L i < 256) (hn : n ≤ 100000) (h4 : 4 ≤ n) :
    Calls Try.prog 68 #[.slice ao n c] w fun e w' => ∃ a cc, e = .returned (.tuple #[.slice a (cntS L n) cc, .bool (okS L n)]) ∧ Rd .u8 w' a (cntS L n) L ∧ Below w.heap.size w w' := by
  replace ha := Lib.hid ha
  replace hL := Lib.hid hL
  have g1 : decide ((n : Int) < 4) = false := by simp; omega
  obtain ⟨m, rfl⟩ : ∃ m, n = m + 4 := ⟨n - 4, by omega⟩
  have u1 : IntKind.i64.wrap (((m + 4 : Nat) : Int) - 4) = (m : Int) := by rw [wrap_i64_small _ (by omega) (by omega)]; omega
  have hmc : m ≤ c := by have := hnil.1; omega
  have hmm : (m : Int) ≤ (c : Int) := by omega
  have hcx := hnil.2.1
  have hm9 : m ≤ 100000 := by omega
  obtain ⟨b, o, rfl, hc0⟩ := ha.out 0 (by omega)
  have hok : Hid (okS L (m + 4) = alikeB (putS L m) L (m + 4)) := by show okS L (m + 4) = _; simp [okS]
  have hcn : Hid (cntS L (m + 4) = if alikeB (putS L m) L (m + 4) then m else 0) := by show cntS L (m + 4) = _; rw [cntS, hok.out]; simp
  have ham := Lib.hid (show Rd .u8 w (some ⟨b, o, none⟩) m L from fun i hi => ha.out i (by omega))
  have P1 := Lib.hid (fun W (h : Rd .u8 W (some ⟨b, o, none⟩) m L) => refPut W (some ⟨b, o, none⟩) m c L h ⟨hmc, hcx, fun e => by simp at e⟩ (fun i hi => hL.out i (by omega)) hm9)
  have hpL : ∀ i, i < m + 4 → 0 ≤ putS L m i ∧ putS L m i < 256 := fun i hi => by
    unfold putS
    split
    · exact hL.out i (by omega)
    · unfold tailB
      omega
  have hse := bytesStr_eq hpL (hL.out)
  have hse2 : Hid (((bytesStr (putS L m) (m + 4)).toList == (bytesStr L (m + 4)).toList) = alikeB (putS L m) L (m + 4)) := by
    show ((bytesStr (putS L m) (m + 4)).toList == (bytesStr L (m + 4)).toList) = _
    cases hal : alikeB (putS L m) L (m + 4) with
    | true =>
      rw [hse.2 (by simp [hal])]
      simp
    | false =>
      rw [beq_eq_false_iff_ne]
      intro e
      have h2 : bytesStr (putS L m) (m + 4) = bytesStr L (m + 4) := by
        rw [ByteArray.toList_eq, ByteArray.toList_eq] at e
        exact ByteArray.ext (Array.toList_inj.1 e)
      have := hse.1 h2
      simp [hal] at this
  have hK4 : Hid (m + 4 = m + 4) := rfl
  rw [hok.out, hcn.out]
  clear hnil hc0 hse hpL hL
  generalize hK4' : m + 4 = n4 at *
  generalize alikeB (putS L m) L n4 = al at *
  generalize hS1 : bytesStr (putS L m) n4 = s1 at *
  generalize hS2 : bytesStr L n4 = s2 at *
  replace hS1 := Lib.hid hS1
  replace hS2 := Lib.hid hS2
  replace hK4' := Lib.hid hK4'
  have e2 : Hid (∀ W, Rd .u8 W (some ⟨b, o, none⟩) n4 L → (convert 29 9 (.slice (some ⟨b, o, none⟩) n4 c)).run Try.prog W = .ok (.string s2) W) := fun W h => by rw [← hS2.out]; exact run_bytesStr W _ n4 c L h
  have e1 : Hid (∀ W a cc, Rd .u8 W a n4 (putS L m) → (convert 29 9 (.slice a n4 cc)).run Try.prog W = .ok (.string s1) W) := fun W a cc h => by rw [← hS1.out]; exact run_bytesStr W _ n4 cc _ h
  have hne := hse2.out
  have q0 := e2.out w.drew (ha.out.drew)
  have q00 := ha.out.drew
  have hmr := ham.out.drew
  go_enter Try.func68, Try.ntmps68
  go_wp2_with fail
  refine wp_region_held_drew (S := fun W => (convert 29 9 (.slice (some ⟨b, o, none⟩) n4 c)).run Try.prog W = .ok (.string s2) W) (by kernel_rfl) q0 (fun hHeld => ?_)
  refine wpAnyH_take (i := 0) (oi := { dst := some 4, op := .move (.tmp 0), type := _, pos := _, after := _, guard := _ }) (v := ?_) rfl (by kernel_rfl) (by kernel_rfl) (by kernel_rfl) (fun _ _ _ h => h) (Or.inl ⟨by rfl, ?_⟩) (by assumption) ?_
  rotate_left
  · (intro w hSw; go_simp) <;> with_reducible rfl
  simp only [Act.put, List.setIfInBounds_toArray, List.set_cons_zero, List.set_cons_succ]
  refine wpAnyH_take (i := 1) (oi := { dst := some 5, op := .call { callee := .builtin .len, args := #[.tmp 4], argTypes := #[29] }, type := _, pos := _, after := _, guard := _ }) (v := ?_) rfl (by kernel_rfl) (by kernel_rfl) (by kernel_rfl) (fun _ _ _ h => h) (Or.inl ⟨by rfl, ?_⟩) (by assumption) ?_
  rotate_left
  · (intro w hSw; go_simp) <;> with_reducible rfl
  simp only [Act.put, List.setIfInBounds_toArray, List.set_cons_zero, List.set_cons_succ]
  refine wpAnyH_take (i := 2) (oi := { dst := some 6, op := .binOp .lss _ (.tmp 5) (.const (.int .i64 4)) _, type := _, pos := _, after := _, guard := _ }) (v := ?_) rfl (by kernel_rfl) (by kernel_rfl) (by kernel_rfl) (fun _ _ _ h => h) (Or.inl ⟨by rfl, ?_⟩) (by assumption) ?_
  rotate_left
  · (intro w hSw; go_simp) <;> with_reducible rfl
  simp only [Act.put, List.setIfInBounds_toArray, List.set_cons_zero, List.set_cons_succ]
  refine wpAnyH_take (i := 3) (oi := { dst := some 7, op := .move (.tmp 6), type := _, pos := _, after := _, guard := _ }) (v := ?_) rfl (by kernel_rfl) (by kernel_rfl) (by kernel_rfl) (fun _ _ _ h => h) (Or.inl ⟨by rfl, ?_⟩) (by assumption) ?_
  rotate_left
  · (intro w hSw; go_simp) <;> with_reducible rfl
  simp only [Act.put, List.setIfInBounds_toArray, List.set_cons_zero, List.set_cons_succ]
  refine wpAnyH_take (i := 4) (oi := { dst := some 8, op := .move (.tmp 0), type := _, pos := _, after := _, guard := _ }) (v := ?_) rfl (by kernel_rfl) (by kernel_rfl) (by kernel_rfl) (fun _ _ _ h => h) (Or.inl ⟨by rfl, ?_⟩) (by assumption) ?_
  rotate_left
  · (intro w hSw; go_simp) <;> with_reducible rfl
  simp only [Act.put, List.setIfInBounds_toArray, List.set_cons_zero, List.set_cons_succ]
  refine wpAnyH_take (i := 5) (oi := { dst := some 9, op := .move (.tmp 0), type := _, pos := _, after := _, guard := _ }) (v := ?_) rfl (by kernel_rfl) (by kernel_rfl) (by kernel_rfl) (fun _ _ _ h => h) (Or.inl ⟨by rfl, ?_⟩) (by assumption) ?_
  rotate_left
  · (intro w hSw; go_simp) <;> with_reducible rfl
  simp only [Act.put, List.setIfInBounds_toArray, List.set_cons_zero, List.set_cons_succ]
  refine wpAnyH_take (i := 6) (oi := { dst := some 10, op := .call { callee := .builtin .len, args := #[.tmp 9], argTypes := #[29] }, type := _, pos := _, after := _, guard := _ }) (v := ?_) rfl (by kernel_rfl) (by kernel_rfl) (by kernel_rfl) (fun _ _ _ h => h) (Or.inl ⟨by rfl, ?_⟩) (by assumption) ?_
  rotate_left
  · (intro w hSw; go_simp) <;> with_reducible rfl
  simp only [Act.put, List.setIfInBounds_toArray, List.set_cons_zero, List.set_cons_succ]
  refine wpAnyH_take (i := 7) (oi := { dst := some 11, op := .binOp .sub _ (.tmp 10) (.const (.int .i64 4)) _, type := _, pos := _, after := _, guard := _ }) (v := ?_) rfl (by kernel_rfl) (by kernel_rfl) (by kernel_rfl) (fun _ _ _ h => h) (Or.inl ⟨by rfl, ?_⟩) (by assumption) ?_
  rotate_left
  · (intro w hSw; go_simp) <;> with_reducible rfl
  simp only [Act.put, List.setIfInBounds_toArray, List.set_cons_zero, List.set_cons_succ]
  refine wpAnyH_take (i := 8) (oi := { dst := some 12, op := .slice _ (.tmp 8) _ (some (.tmp 11)) _, type := _, pos := _, after := _, guard := _ }) (v := ?_) rfl (by kernel_rfl) (by kernel_rfl) (by kernel_rfl) (fun _ _ _ h => h) (Or.inl ⟨by rfl, ?_⟩) (by assumption) ?_
  rotate_left
  · (intro w hSw; go_simp) <;> with_reducible rfl
  simp only [Act.put, List.setIfInBounds_toArray, List.set_cons_zero, List.set_cons_succ]
  refine wpAnyH_take (i := 11) (oi := { dst := some 15, op := .move (.tmp 0), type := _, pos := _, after := _, guard := _ }) (v := ?_) rfl (by kernel_rfl) (by kernel_rfl) (by kernel_rfl) (fun _ _ _ h => h) (Or.inl ⟨by rfl, ?_⟩) (by assumption) ?_
  rotate_left
  · (intro w hSw; go_simp) <;> with_reducible rfl
  simp only [Act.put, List.setIfInBounds_toArray, List.set_cons_zero, List.set_cons_succ]
  refine wpAnyH_take (i := 12) (oi := { dst := some 16, op := .convert _ _ (.tmp 15), type := _, pos := _, after := _, guard := _ }) (v := ?_) rfl (by kernel_rfl) (by kernel_rfl) (by kernel_rfl) (fun _ _ _ h => h) (Or.inl ⟨by rfl, ?_⟩) (by assumption) ?_
  rotate_left
  · (intro w hSw; go_simp) <;> with_reducible rfl
  simp only [Act.put, List.setIfInBounds_toArray, List.set_cons_zero, List.set_cons_succ]
  refine wpAnyH_ready (rs := [9]) (by kernel_rfl) (by simp) ?_
  refine AllReadyH.cons (o := { dst := some 13, op := .call { callee := .value (.func 56), args := #[.tmp 12], argTypes := #[29] }, type := _, pos := _, after := _, guard := _ }) rfl (fun K hK => ?_) AllReadyH.nil
  go_simp
  refine (P1.out _ hmr).mono ?_
  rintro e w9 ⟨a9, cc9, rfl, hc9, hx9, m9, hb9⟩
  have q2 := e2.out w9 (q00.below hb9 (Nat.le_refl _))
  have q3 := e1.out w9 a9 cc9 m9.rd
  have hbB := Lib.hid ((bdrewN (Below.refl _ w) 1).trans (hb9 : Below w.heap.size _ w9))
  have ham9 := Lib.hid (ham.out.below hbB.out (Nat.le_refl _))
  go_wp2_with fail
  refine hK.out _ _ q2 (fun _ => ?_)
  clear hK K
  refine wpAnyH_mono (S := fun W => W = w9) (fun W hW => by rw [hW]; exact q2) ?_
  try simp only [Act.put, List.setIfInBounds_toArray, List.set_cons_zero, List.set_cons_succ]
  clear q00 hmr m9 hb9 q0 e1 e2 P1 ha ham hHeld
  have hw9 : w9 = w9 := rfl
  refine wpAnyH_take (i := 10) (oi := { dst := some 14, op := .convert _ _ (.tmp 13), type := _, pos := _, after := _, guard := _ }) (v := ?_) rfl (by kernel_rfl) (by kernel_rfl) (by kernel_rfl) (fun _ _ _ h => h) (Or.inl ⟨by rfl, ?_⟩) hw9 ?_
  rotate_left
  · (intro w hSw; subst hSw; go_simp) <;> with_reducible rfl
  simp only [Act.put, List.setIfInBounds_toArray, List.set_cons_zero, List.set_cons_succ]
  refine wpAnyH_take (i := 13) (oi := { dst := some 17, op := .binOp .neq _ (.tmp 14) (.tmp 16) _, type := _, pos := _, after := _, guard := _ }) (v := ?_) rfl (by kernel_rfl) (by kernel_rfl) (by kernel_rfl) (fun _ _ _ h => h) (Or.inl ⟨by rfl, ?_⟩) hw9 ?_
  rotate_left
  · (intro w hSw; subst hSw; go_simp) <;> with_reducible rfl
  simp only [Act.put, List.setIfInBounds_toArray, List.set_cons_zero, List.set_cons_succ]
  refine wpAnyH_take (i := 14) (oi := { dst := some 18, op := .pick (.tmp 7) _ (.tmp 17), type := _, pos := _, after := _, guard := _ }) (v := ?_) rfl (by kernel_rfl) (by kernel_rfl) (by kernel_rfl) (fun _ _ _ h => h) (Or.inl ⟨by rfl, ?_⟩) hw9 ?_
  rotate_left
  · (intro w hSw; subst hSw; go_simp) <;> with_reducible rfl
  simp only [Act.put, List.setIfInBounds_toArray, List.set_cons_zero, List.set_cons_succ]
  refine wpAnyH_done (by kernel_rfl) ?_ _
  clear hcn hok q2 q3 hne hw9
  cases al with
  | true =>
    go_wp2
    refine bodyPost_ret (v := .tuple #[.slice (some ⟨b, o, none⟩) m c, .bool true]) (by simp [results, Try.results68, go_sem]) rfl ⟨_, ⟨_, rfl⟩, ham9.out, hbB.out⟩
  | false =>
    go_wp2
    refine bodyPost_ret (v := .tuple #[.slice none 0 0, .bool false]) (by simp [results, Try.results68, go_sem]) rfl ⟨none, ⟨0, rfl⟩, fun i hi => absurd hi (Nat.not_lt_zero _), hbB.out⟩
set_option maxHeartbeats 2000000 in
theorem refCheck (w : World) (ao : Option Addr) (n c : Nat) (L : Nat → Int) (ha : Rd .u8 w ao n L) (hnil : NilOk ao n c) (hL : ∀ i, i < n → 0 ≤ L i ∧ L i < 256) (hn : n ≤ 100000) :
    Calls Try.prog 68 #[.slice ao n c] w fun e w' => ∃ a cc, e = .returned (.tuple #[.slice a (cntS L n) cc, .bool (okS L n)]) ∧ Rd .u8 w' a (cntS L n) L ∧ Below w.heap.size w w' := by
  by_cases h4 : 4 ≤ n
  · exact refCheck_long w ao n c L ha hnil hL hn h4
  · have g1 : decide ((n : Int) < 4) = true := by simp; omega
    have hok : okS L n = false := by simp [okS, h4]
    have hcn : cntS L n = 0 := by simp [cntS, hok]
    rw [hok, hcn]
    clear h4 hnil hok hcn
    go_enter Try.func68, Try.ntmps68
    go_wp2
    go_quiet (fail)
    go_wp2
    refine bodyPost_ret (v := .tuple #[.slice none 0 0, .bool false]) (by simp [results, Try.results68, go_sem]) rfl ⟨none, 0, rfl, fun i hi => by omega, bdrewN (Below.refl _ _) _⟩
end Go.Proofs.Ytbfbpagfmhdblaa
