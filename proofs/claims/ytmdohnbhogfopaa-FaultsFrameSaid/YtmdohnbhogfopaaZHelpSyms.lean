/- help.go: SameSyms, TwinSyms, LeftSyms, where they answer yes. -/
import Derived.Test.YtmdohnbhogfopaaProg
import Derived.Test.YtmdohnbhogfopaaZLowA
namespace Go.Proofs.Ytmdohnbhogfopaa
open Go.RowKit
set_option linter.unusedSimpArgs false
set_option linter.unusedVariables false
theorem elemHSyms : (Try.prog.info? 35).map (fun i => (i.zero, i.size, i.bytes)) = some (some (.int .u8 0), 1, 1) := by kernel_rfl
set_option maxRecDepth 100000
def InvSameSyms (w : World) (aa ab : Option Addr) (n ca cb : Nat) (k : Nat) (a : Act) (wr : World) : Prop :=
  ∃ i q : Nat, i + k = n ∧ wr = w.drewN q ∧ a.tmps.size = 26 ∧ a.defers = [] ∧ slot a 0 = .slice aa n ca ∧ slot a 1 = .slice ab n cb ∧ slot a 5 = .int .i64 i
set_option maxHeartbeats 400000 in
theorem sameSyms (w : World) (aa ab : Option Addr) (n ca cb : Nat) (L : Nat → Int) (ha : Rd .u8 w aa n L) (hb : Rd .u8 w ab n L) (hn : n ≤ 9223372036854775807) :
    Calls Try.prog 23 #[.slice aa n ca, .slice ab n cb] w fun e w' => e = .returned (.bool true) ∧ ∃ q, w' = w.drewN q := by
  replace ha := Lib.hid ha
  replace hb := Lib.hid hb
  go_enter Try.func23, Try.ntmps23
  go_wp2
  refine wp_loop_k (InvSameSyms w aa ab n ca cb) n ?_ ?_
  · exact ⟨0, 0, by omega, rfl, by kernel_rfl, rfl, by kernel_rfl, by kernel_rfl, by kernel_rfl⟩
  · intro gk a wr hI K hK
    obtain ⟨i, q, hi, rfl, hs', hd', k0', k1', k5'⟩ := hI
    rw [fr26 a hs' hd']; simp only [k0', k1', k5']; clear hs' hd' k0' k1' k5'
    by_cases hlt : i < n
    · obtain ⟨b, o, rfl, hc⟩ := ha.out i hlt
      obtain ⟨b', o', rfl, hc'⟩ := hb.out i hlt
      have hin : (i : Int) < n := by omega
      have hwi : IntKind.i64.wrap (i : Int) = i := by rw [IntKind.wrap_i64]; omega
      have hne : (L i != L i) = false := by simp
      go_wp2_with fail
      go_quiet (fail)
      go_wp2
      refine hK (n - (i + 1)) _ _ (by omega) ⟨i + 1, _, by omega, rfl, by kernel_rfl, rfl, by kernel_rfl, by kernel_rfl, ?_⟩
      show Value.int _ _ = Value.int _ _
      simp
    · go_wp2
      go_ret
      exact ⟨rfl, _, rfl⟩
/-- What a twin is: its block, how many cells it has, and two marks behind the numbers. -/
def TwinSymsAt (w : World) (g n c : Nat) (L : Nat → Int) : Prop :=
  ∃ cur, Blk w g cur 35 ∧ cur.size = c ∧ n + 2 ≤ c ∧ c ≤ 9223372036854775807 ∧ (∀ i, i < n → cur[i]? = some (.int .u8 (L i))) ∧ cur[n]? = some (.int .u8 77) ∧ cur[n + 1]? = some (.int .u8 77)
set_option maxHeartbeats 400000 in
theorem twinSyms (w : World) (aa : Option Addr) (n ca : Nat) (L : Nat → Int) (ha : Rd .u8 w aa n L) (hnil : aa = none → ca = 0) (hn : n ≤ 1000000) :
    Calls Try.prog 58 #[.slice aa n ca] w fun e w' => ∃ g c, e = .returned (.slice (some ⟨g, 0, none⟩) n c) ∧ w.heap.size ≤ g ∧ Below w.heap.size w w' ∧ TwinSymsAt w' g n c L := by
  have hnil' : aa = none → n = 0 ∧ ca = 0 := fun h => ⟨by
    rcases Nat.eq_zero_or_pos n with h0 | h0
    · exact h0
    · obtain ⟨b, o, h1, _⟩ := ha 0 h0
      rw [h] at h1
      exact absurd h1 (by simp), hnil h⟩
  replace ha := Lib.hid ha
  replace hnil' := Lib.hid hnil'
  clear hnil
  obtain ⟨i0, hi, hz0, hz1, hz2⟩ := info_parts elemHSyms
  go_enter Try.func58, Try.ntmps58
  go_wp2_with (at_builtin; refine append_src rfl _ _ 47 rfl w.heap.size 35 i0 (.int .u8 0) 1 Try.underlying47 hi hz0 hz1 hz2 rfl _ _ _ rfl (World.ownsRow_nil _ _ _ _) aa n ca (nums .u8 L n) rfl hnil'.out (nums_len _ _ _) (nums_news ha.out) (nums_one _ _ _) (by omega) (by omega) (Nat.le_refl _) ?_)
  intro v1 w1 hown1 hg1 _
  have hb1 : Below w.heap.size w w1 := Below.grown (Below.refl _ _) hg1 (Nat.le_refl _) (by simp [Value.ownBlock])
  have hs1 := hb1.size
  clear hg1 ha hnil'
  go_wp2_with (at_builtin; refine append_src rfl _ _ 47 rfl w.heap.size 35 i0 (.int .u8 0) 1 Try.underlying47 hi hz0 hz1 hz2 rfl _ _ _ rfl (hown1.alloc _) (some ⟨w1.heap.size, 0, none⟩) 2 2 [.int .u8 77, .int .u8 77] rfl (by simp) rfl ?q1 ?q2 (by omega) (by omega) (by simp; omega) ?q3)
  case q1 =>
    intro ad had j u hj
    simp only [Option.some.injEq] at had
    subst had
    match j, hj with
    | 0, hj => simp at hj; subst hj; simp [Addr.add, go_sem]
    | 1, hj => simp at hj; subst hj; simp [Addr.add, go_sem]
  case q2 => intro u hu; simp at hu; subst hu; rfl
  case q3 =>
    intro v2 w2 hown2 hg2 hiff
    have hb2 : Below w.heap.size w w2 := Below.grown (hb1.alloc hs1 _) hg2 (by simp; omega) (fun k hk => (hown1.lt k hk).1)
    have hex : ∃ g cap cur, v2 = .slice (some ⟨g, 0, none⟩) (n + 2) cap ∧ w.heap.size ≤ g ∧ Blk w2 g cur 35 ∧ n + 2 ≤ cap ∧ cap ≤ 9223372036854775807 ∧ cur.size = cap ∧ cur.toList.take (n + 2) = nums .u8 L n ++ [.int .u8 77, .int .u8 77] := by
      rcases hown2.2 with ⟨_, h2⟩ | ⟨g, cap, cur, h1, h2, h3, h4, h5, h6, h7⟩
      · exact absurd h2 (by omega)
      · exact ⟨g, cap, cur, h1, h2, h3, h4, by unfold maxLen at h5; omega, by simpa using h6, by simpa using h7⟩
    obtain ⟨g, cap, cur, rfl, hg, hblk, hcap, hmax, hsz, htake⟩ := hex
    have hget : ∀ j u, (nums .u8 L n ++ [.int .u8 77, .int .u8 77])[j]? = some u → cur[j]? = some u := fun j u hj => by
      rw [← htake, List.getElem?_take] at hj
      split at hj
      · simpa using hj
      · simp at hj
    have k1 : ∀ i, i < n → cur[i]? = some (.int .u8 (L i)) := fun i hi => hget i _ (by rw [List.getElem?_append_left (by rw [nums_len]; exact hi)]; exact nums_get hi)
    have k2 : cur[n]? = some (.int .u8 77) := hget n _ (by rw [List.getElem?_append_right (by rw [nums_len]; exact Nat.le_refl _)]; simp [nums_len])
    have k3 : cur[n + 1]? = some (.int .u8 77) := hget (n + 1) _ (by rw [List.getElem?_append_right (by rw [nums_len]; omega)]; simp [nums_len])
    have hfin : TwinSymsAt w2 g n cap L := ⟨cur, hblk, hsz, hcap, hmax, k1, k2, k3⟩
    clear hown1 hown2 hg2 hiff hblk hsz htake hget k1 k2 k3 hb1
    go_wp2
    go_ret
    exact ⟨g, cap, rfl, hg, hb2, hfin⟩
set_option maxHeartbeats 400000 in
theorem leftSyms (w : World) (g n c : Nat) (ab : Option Addr) (cb : Nat) (L : Nat → Int) (ht : TwinSymsAt w g n c L) (hb : Rd .u8 w ab n L) :
    Calls Try.prog 60 #[.slice (some ⟨g, 0, none⟩) n c, .slice ab n cb] w fun e w' => e = .returned (.bool true) ∧ ∃ q, w' = w.drewN q := by
  obtain ⟨cur, hblk, hsz, hcap, hmax, k1, k2, k3⟩ := ht
  have hr := Lib.hid (Rd.of_blk hblk k1)
  have e2 := hblk.cell k2
  have e3 := hblk.cell k3
  replace hb := Lib.hid hb
  clear k1 k2 k3 hblk hsz
  go_enter Try.func60, Try.ntmps60
  go_wp2_with fail
  refine (sameSyms _ _ _ _ _ _ L hr.out hb.out (by omega)).mono ?_
  rintro e wx ⟨rfl, q, rfl⟩
  go_wp2_with fail
  go_ret
  exact ⟨rfl, _, rfl⟩
end Go.Proofs.Ytmdohnbhogfopaa
