/- Bits: Put, Of, Turn: what they answer. -/
import Derived.Test.YtbfbpagfmhdblaaBitsA
import Derived.ScopeJumps
import Derived.WalkMore
namespace Go.Proofs.Ytbfbpagfmhdblaa
open Go.RowKit
set_option linter.unusedSimpArgs false
set_option linter.unusedVariables false
set_option maxRecDepth 100000
/-- A scope in which the run jumps back to one label: what holds whenever the run stands behind the label, and how many passes are to come at most. -/
theorem wp_scope_k {P : Program} {c rest : Code} {Q : Exit → Act → World → Prop} {a : Act} {w : World} (l : Nat) (hf : findLabel c l = some (Code.skip.seq rest)) (I : Nat → Act → World → Prop)
    (pass : ∀ k a w, I k a w → ∀ J : Act → World → Prop, (∀ k' a' w', k' < k → I k' a' w' → J a' w') → rest.wp P (Exit.jump l J Q) a w)
    (first : ∀ J : Act → World → Prop, (∀ k a w, I k a w → rest.wp P (Exit.jump l J Q) a w) → c.wp P (Exit.jump l J Q) a w) : (Code.scope c).wp P Q a w := by
  have hmono : ∀ (J J' : Act → World → Prop), (∀ a w, J a w → J' a w) → ∀ e a w, Exit.jump l J Q e a w → Exit.jump l J' Q e a w := fun J J' h e a w q => by
    cases e with
    | goto l' => exact ⟨q.1, h _ _ q.2⟩
    | _ => exact q
  have hpass0 : ∀ k a w, I k a w → rest.wp P (Exit.jump l (fun a' w' => ∃ k', k' < k ∧ I k' a' w') Q) a w := fun k a w h => pass k a w h _ fun k' a' w' hk h' => ⟨k', hk, h'⟩
  have hpass : ∀ k a w, I k a w → (Code.skip.seq rest).wp P (Exit.jump l (fun a' w' => ∃ k', k' < k ∧ I k' a' w') Q) a w := fun k a w h => by
    apply wp_seq_k
    intro K hK
    apply wp_skip
    exact hK _ _ (hpass0 k a w h)
  have hfirst := first (fun a w => ∃ k, I k a w) fun k a w h => Code.wp_mono (hmono _ _ fun a w ⟨k', _, h'⟩ => ⟨k', h'⟩) (hpass0 k a w h)
  intro b k cs
  have hg : gotoIn l (.inScope c :: k) = some (.code (Code.skip.seq rest) :: .inScope c :: k) := by simp [gotoIn, hf]
  have key : ∀ n a w, I n a w → ∃ e a' w', Q e a' w' ∧ Arrives P (lone (b.at a (.code (Code.skip.seq rest) :: .inScope c :: k)) cs w) b k cs e a' w' := by
    intro n
    induction n using Nat.strongRecOn with
    | _ n ih =>
      intro a w hI
      obtain ⟨e, a₁, w₁, hq, harr⟩ := hpass n a w hI b (.inScope c :: k) cs
      cases e with
      | normal => exact ⟨.normal, a₁, w₁, hq, Steps.trans harr (.one step_inScope)⟩
      | exit id => exact ⟨.exit id, a₁, w₁, hq, fun k' hk => harr k' (by simp [exitTo, hk])⟩
      | goto l' =>
        obtain ⟨rfl, k', hlt, hI'⟩ := hq
        obtain ⟨e₂, a₂, w₂, hq₂, harr₂⟩ := ih _ hlt a₁ w₁ hI'
        exact ⟨e₂, a₂, w₂, hq₂, .of_steps (harr _ hg) harr₂⟩
      | ret => exact ⟨_, a₁, w₁, hq, harr⟩
      | panic ch => exact ⟨_, a₁, w₁, hq, harr⟩
      | outgrown => exact ⟨_, a₁, w₁, hq, harr⟩
  obtain ⟨e, a₁, w₁, hq, harr⟩ := hfirst b (.inScope c :: k) cs
  cases e with
  | normal => exact ⟨.normal, a₁, w₁, hq, .head step_scope (Steps.trans harr (.one step_inScope))⟩
  | exit id => exact ⟨.exit id, a₁, w₁, hq, fun k' hk => .head step_scope (harr k' (by simp [exitTo, hk]))⟩
  | goto l' =>
    obtain ⟨rfl, n, hI⟩ := hq
    obtain ⟨e₂, a₂, w₂, hq₂, harr₂⟩ := key n a₁ w₁ hI
    exact ⟨e₂, a₂, w₂, hq₂, .of_steps (.head step_scope (harr _ hg)) harr₂⟩
  | ret => exact ⟨_, a₁, w₁, hq, .of_steps (.one step_scope) harr⟩
  | panic ch => exact ⟨_, a₁, w₁, hq, .of_steps (.one step_scope) harr⟩
  | outgrown => exact ⟨_, a₁, w₁, hq, .of_steps (.one step_scope) harr⟩
theorem jump_ret {l : Nat} {J : Act → World → Prop} {Q : Exit → Act → World → Prop} {a : Act} {w : World} (h : Q .ret a w) : Exit.jump l J Q .ret a w := h
theorem jump_goto {l : Nat} {J : Act → World → Prop} {Q : Exit → Act → World → Prop} {a : Act} {w : World} (h : J a w) : Exit.jump l J Q (.goto l) a w := ⟨rfl, h⟩
/-- As many bits as Put puts. -/
def bitsOf (many : Int) : Nat := (min many 64).toNat
def InvPut (w : World) (L : Nat → Int) (n z b k : Nat) (a : Act) (wr : World) : Prop :=
  ∃ (v : Value) (m : Int), k = m.toNat ∧ k ≤ b ∧ m ≤ 64 ∧ wr.ownsRow w.heap.size 77 1 v (n + (b - k)) (nums .u8 (putL L n z b) (n + (b - k))) ∧ Below w.heap.size w wr ∧ a.tmps.size = 28 ∧ a.defers = [] ∧ slot a 1 = .int .u64 z ∧ slot a 7 = v ∧ slot a 8 = .int .i64 m
theorem nums_put (L : Nat → Int) (n z b : Nat) : nums .u8 L n = nums .u8 (putL L n z b) n := nums_congr fun i hi => by simp [putL, hi]
theorem and_bit (z j : Nat) (hz : z < 18446744073709551616) : bits .and .u64 ((z : Int) / 2 ^ j) 1 = (bitN z j : Nat) := by
  have h1 : z / 2 ^ j < 18446744073709551616 := Nat.lt_of_le_of_lt (Nat.div_le_self _ _) hz
  have h2 : ((z : Int) / 2 ^ j) = ((z / 2 ^ j : Nat) : Int) := by simp
  have h3 := bits_mask .u64 64 (by decide) (fun n hn hn' => by rw [IntKind.wrap_u64]; omega) 1 (by decide) ((z / 2 ^ j : Nat) : Int) (Int.natCast_nonneg _) (by rw [show ((2 : Int) ^ 64) = ((18446744073709551616 : Nat) : Int) from by decide]; exact_mod_cast h1)
  have h4 : ((2 : Int) ^ 1 - 1) = 1 := by decide
  rw [h4] at h3
  rw [h2, h3]
  unfold bitN
  omega
theorem put_bit (L : Nat → Int) (n z b j : Nat) (hz : z < 18446744073709551616) (hj : j + 1 ≤ b) : (1 + bits .and .u64 ((z : Int) / 2 ^ j) 1) % 256 = putL L n z b (n + (b - (j + 1))) := by
  have h1 := bitN_lt z j
  have h2 : ¬ n + (b - (j + 1)) < n := by omega
  have h3 : b - 1 - (n + (b - (j + 1)) - n) = j := by omega
  rw [and_bit z j hz]
  simp only [putL, h2, if_false, h3]
  omega
set_option maxHeartbeats 400000 in
theorem bitsPut (w : World) (ao : Option Addr) (n c : Nat) (L : Nat → Int) (z : Nat) (many : Int) (ha : Rd .u8 w ao n L) (hnil : ao = none → n = 0 ∧ c = 0) (hn : n ≤ 1000000) (hz : z < 18446744073709551616) :
    Calls Try.prog 62 #[.slice ao n c, .int .u64 z, .int .i64 many] w fun e w' => ∃ a, e = .returned (.slice a (n + bitsOf many) (n + bitsOf many)) ∧ Mine .u8 77 w.heap.size w' a (n + bitsOf many) (putL L n z (bitsOf many)) ∧ Below w.heap.size w w' := by
  have hb64 : bitsOf many ≤ 64 := by unfold bitsOf; omega
  obtain ⟨i0, hi, hz0, hz1, hz2⟩ := info_parts elemS
  replace ha := Lib.hid ha
  replace hnil := Lib.hid hnil
  have hbo : Hid (bitsOf many = (min many 64).toNat) := rfl
  go_enter Try.func62, Try.ntmps62
  go_wp2_with fail
  refine wp_scope_k 0 rfl (InvPut w L n z (bitsOf many)) ?_ ?_
  · intro k a wr hI J hJ
    obtain ⟨v, m, hkm, hk, hm64, hown, hb, hs', hd', k1', k7', k8'⟩ := hI
    rw [fr28 a hs' hd']; simp only [k1', k7', k8']; clear hs' hd' k1' k7' k8'
    by_cases hm : m ≤ 0
    · obtain rfl : k = 0 := by omega
      clear hkm
      simp only [Nat.sub_zero] at hown
      obtain ⟨al, cl, rfl, h1, h2, h3, hmine⟩ := own_mine hown
      replace h3 := Lib.hid h3
      replace hmine := Lib.hid hmine
      clear hown
      go_wp2
      refine jump_ret ?_
      go_ret
      exact ⟨al, rfl, hmine.out, hb⟩
    · obtain ⟨j, rfl⟩ : ∃ j : Nat, m = j + 1 := ⟨(m - 1).toNat, by omega⟩
      obtain rfl : k = j + 1 := by omega
      clear hkm
      have hown' := Lib.hid hown
      clear hown
      go_wp2_with (at_builtin; refine append_one rfl _ _ 40 rfl w.heap.size 77 i0 (.int .u8 0) 1 Try.underlying40 hi hz0 hz1 hz2 rfl _ _ _ rfl hown'.out _ rfl rfl (by omega) (by omega) hb.size ?_)
      intro g c w1 hown1 hg1 hb1
      have e1 : n + (bitsOf many - (j + 1)) + 1 = n + (bitsOf many - j) := by omega
      rw [put_bit L n z (bitsOf many) j hz hk, ← nums_succ, e1] at hown1
      rw [e1]
      have hb2 := hb.trans hb1
      replace hown1 := Lib.hid hown1
      clear e1 hb1 hg1 hown' hb
      go_wp2_with fail
      go_step3
      refine jump_goto (hJ j _ _ (by omega) ⟨_, (j : Int), by omega, by omega, by omega, hown1.out, hb2, by kernel_rfl, rfl, by kernel_rfl, by kernel_rfl, by kernel_rfl⟩)
  · intro J hJ
    have hJ' := Lib.hid hJ
    clear hJ
    go_wp2_with fail
    refine (cloneSyms _ _ _ _ L ha.out hnil.out (by omega)).mono ?_
    rintro e w1 ⟨v, rfl, hown, hb⟩
    rw [nums_put L n z (bitsOf many)] at hown
    have hown' := Lib.hid hown
    clear hown
    go_wp2_with fail
    case inr =>
      go_step3
      go_step
      go_step
      refine hJ'.out (bitsOf many) _ _ ⟨_, many, ?_, Nat.le_refl _, ?_, by simpa using hown'.out, hb, by kernel_rfl, rfl, by kernel_rfl, by kernel_rfl, by kernel_rfl⟩
      · have := hbo.out; omega
      · omega
    case inl =>
      go_step3
      go_step
      go_step
      refine hJ'.out (bitsOf many) _ _ ⟨_, 64, ?_, Nat.le_refl _, ?_, by simpa using hown'.out, hb, by kernel_rfl, rfl, by kernel_rfl, by kernel_rfl, by kernel_rfl⟩
      · have := hbo.out; omega
      · omega
end Go.Proofs.Ytbfbpagfmhdblaa
