/- Catches: the laws' own at, good, run. -/
import Derived.Test.YtbfbpagfmhdblaaCatchE
import Derived.Test.YtbfbpagfmhdblaaPlain09
namespace Go.Proofs.Ytbfbpagfmhdblaa
open Go.RowKit
set_option linter.unusedSimpArgs false
set_option linter.unusedVariables false
set_option maxRecDepth 100000
theorem lawAt (w : World) (ao : Option Addr) (n c i : Nat) (L : Nat → Int) (h : Rd .u8 w ao n L) (hn : n ≤ 1000000000) :
    Calls Try.prog 44 #[.slice ao n c, .int .i64 i] w fun e w' => e = .returned (.int .u8 (if i < n then L i else 0)) ∧ w = w' := by
  by_cases hi : i < n
  · obtain ⟨b, o, rfl, hc⟩ := h i hi
    have hin : (i : Int) < n := by omega
    rw [if_pos hi]
    clear h
    go_enter Try.func44, Try.ntmps44
    go_wp2
    go_ret
    exact ⟨rfl, rfl⟩
  · have hin : ¬ (i : Int) < n := by omega
    rw [if_neg hi]
    clear h
    go_enter Try.func44, Try.ntmps44
    go_wp2
    go_ret
    exact ⟨rfl, rfl⟩
set_option maxHeartbeats 1000000 in
theorem lawGood (w : World) (o k st sq v : Int) (ho : 0 ≤ o ∧ o < 256) (hm : mayB o k = true) (hst : 0 ≤ st ∧ st < 256) (hsq : 0 ≤ sq ∧ sq < 4294967296) (hv : 0 ≤ v ∧ v < 4294967296) :
    Calls Try.prog 39 #[.int .i64 o, payV k st sq v] w fun e w' => ∃ a, e = .returned (.slice a 114 114) ∧ Mine .u8 77 w.heap.size w' a 114 (frSL o k st sq v true false) ∧ Below w.heap.size w w' := by
  have O := Lib.hid (fun W => lawOf W o k st sq v)
  have P3 := Lib.hid (fun W => frSyms W o k st sq v true false (by have := mayB_in hm; omega) hst hsq hv)
  have eS : lenS o k = 114 := by simp [lenS, hm]
  have eE : errF o k = 0 := by simp [errF, hm]
  rw [eS, eE] at P3
  generalize frSL o k st sq v true false = SL at *
  unfold frV tailV at *
  unfold payV at *
  clear eS eE hm hsq hv hst
  go_enter Try.func39, Try.ntmps39
  go_wp2_with fail
  have hb0 := below_alloc w (.cells #[.int .u8 k, .int .u8 st, .int .u32 sq, .int .u32 v] 25)
  refine (O.out _).mono ?_
  rintro e w1 ⟨rfl, hb1⟩
  have hb01 := bthen hb0 hb1
  go_wp2_with fail
  refine (P3.out w1).mono ?_
  rintro e w2 ⟨a, rfl, m, hb2⟩
  have hb02 := bthen hb01 hb2
  have hm := Lib.hid (m.mono hb01.size)
  clear m O P3
  go_wp2
  go_ret
  exact ⟨_, rfl, hm.out, hb02⟩
theorem own_raise {w : World} {B n : Nat} {e : TypeId} {v : Value} {xs : List Value} (h : w.ownsRow 0 e 1 v n xs) (hv : ∀ g, v.ownBlock = some g → B ≤ g) : w.ownsRow B e 1 v n xs := by
  refine ⟨h.1, h.2.imp id ?_⟩
  rintro ⟨g, cap, cur, rfl, h3, h4⟩
  exact ⟨g, cap, cur, rfl, hv g rfl, h4⟩
theorem own_lt {w : World} {B n g : Nat} {e : TypeId} {v : Value} {xs : List Value} (h : w.ownsRow B e 1 v n xs) (hg : v.ownBlock = some g) : g < w.heap.size := by
  rcases h.2 with ⟨rfl, _⟩ | ⟨g', cap, cur, rfl, h3, h4, h5⟩
  · simp [Value.ownBlock] at hg
  · simp only [Value.ownBlock, Option.some.injEq] at hg
    subst hg
    exact (Array.getElem?_eq_some_iff.1 h4).1
/-- A catch and the list of what it gave: both a call's own, from block B on, each its own. -/
structure Pair (w : World) (B b : Nat) (v vo : Value) (o : Int) (N F : Nat → Int) (n : Nat) : Prop where
  at' : CatchAt w b v o N F n
  out : w.ownsRow 0 77 1 vo n (nums .u8 (outI o N F) n)
  hb : B ≤ b
  hv : ∀ g, v.ownBlock = some g → B ≤ g
  ho : ∀ g, vo.ownBlock = some g → B ≤ g
  ne : ∀ g, vo.ownBlock = some g → g ∉ catchS b v
theorem Pair.ge {w : World} {B b : Nat} {v vo : Value} {o : Int} {N F : Nat → Int} {n : Nat} (h : Pair w B b v vo o N F n) : ∀ k ∈ catchS b v, B ≤ k := fun k hk => by
  rcases catchS_mem.1 hk with rfl | h1
  · exact h.hb
  · exact h.hv k h1
theorem grown_touch {w w' : World} {r : Option Nat} (h : w.grownBy w' r) : Touch r.toList w w' :=
  Touch.grown (Touch.refl _ _) h (fun k hk => .inl (by simp [hk]))
/-- One pair more: the catch's step, and what it gave behind the list. -/
theorem Pair.step {w w' : World} {B b : Nat} {v v' vo : Value} {o : Int} {N F : Nat → Int} {n : Nat} (h : Pair w B b v vo o N F n) (hB : B ≤ w.heap.size) (h' : CatchAt w' b v' o N F (n + 1)) (ht : Touch (catchS b v) w w') (hm : Moved w v v') :
    w'.ownsRow 0 77 1 vo n (nums .u8 (outI o N F) n) ∧ (∀ g, v'.ownBlock = some g → B ≤ g) ∧ (∀ g, vo.ownBlock = some g → g ∉ catchS b v') := by
  refine ⟨own_touch h.out ht h.ne, fun g hg => ?_, fun g hg hm' => ?_⟩
  · rcases hm with e | ⟨g', e1, e2⟩
    · exact h.hv g (by rw [← e]; exact hg)
    · rw [e1] at hg
      obtain rfl := Option.some.inj hg
      omega
  · rcases catchS_mem.1 hm' with rfl | h1
    · exact h.ne g hg (catchS_mem.2 (.inl rfl))
    · rcases hm with e | ⟨g', e1, e2⟩
      · exact h.ne g hg (catchS_mem.2 (.inr (by rw [← e]; exact h1)))
      · rw [e1] at h1
        obtain rfl := Option.some.inj h1
        exact absurd (own_lt h.out hg) (by omega)
theorem Pair.app {w w' : World} {B b g c : Nat} {v vo : Value} {o : Int} {N F : Nat → Int} {n : Nat} (h1 : CatchAt w b v o N F (n + 1)) (hb : B ≤ b) (hv : ∀ g, v.ownBlock = some g → B ≤ g) (ho : ∀ g, vo.ownBlock = some g → B ≤ g) (hne : ∀ g, vo.ownBlock = some g → g ∉ catchS b v) (hB : B ≤ w.heap.size)
    (hown : w'.ownsRow 0 77 1 (.slice (some ⟨g, 0, none⟩) (n + 1) c) (n + 1) (nums .u8 (outI o N F) n ++ [.int .u8 (outI o N F n)])) (hg : w.grownBy w' vo.ownBlock) (hat : vo.ownBlock = some g ∨ w.heap.size ≤ g) :
    Pair w' B b v (.slice (some ⟨g, 0, none⟩) (n + 1) c) o N F (n + 1) := by
  have ht := grown_touch hg
  have hd : ∀ k ∈ catchS b v, k ∉ vo.ownBlock.toList := fun k hk hm => hne k (by simpa using hm) hk
  refine ⟨h1.touch ht hd, by rw [nums_succ]; exact hown, hb, hv, fun k hk => ?_, fun k hk hm => ?_⟩
  · simp only [Value.ownBlock, Option.some.injEq] at hk
    subst hk
    rcases hat with e | e
    · exact ho _ e
    · exact Nat.le_trans hB e
  · simp only [Value.ownBlock, Option.some.injEq] at hk
    subst hk
    rcases hat with e | e
    · exact hne _ e hm
    · rcases catchS_mem.1 hm with rfl | h2
      · exact absurd h1.ct.lt (by omega)
      · exact absurd (own_lt h1.own h2) (by omega)
/-- Of a catch that has had all: is it high, and of which frame? -/
theorem catchHigh (w : World) (b : Nat) (v : Value) (o : Int) (N F : Nat → Int) (hN : ∀ i, N i = 0 ∨ N i = 1 ∨ N i = 2) (hF : ∀ i, F i = 0 ∨ F i = 1 ∨ F i = 2) (h : CatchAt w b v o N F 114) :
    Calls Try.prog 48 #[.pointer (some ⟨b, 0, none⟩)] w fun e w' => e = .returned (.tuple #[if highQ o N F = true then getV (bytesL (bodyI N F)) 14 else frV 0 0 0 0 0, .bool (highQ o N F)]) ∧ Below w.heap.size w w' := by
  have hct := h.ct
  have hown := h.own
  cases hh : highQ o N F with
  | false =>
    rw [hh] at hct
    simp only [Bool.and_false] at hct
    exact catchHighNo w b o _ v _ _ _ _ hct
  | true =>
    have hc := high_uncut hh
    have hl : lenB N F 114 = 112 := by rw [lenB_full hc]; rfl
    have hw : wholeL (bodyI N F) 112 = true := body_whole hN hF (Nat.le_refl _) (cut_mono hc (by omega))
    have hi : isL o (bodyI N F) = true := (high_iff.1 hh).1
    rw [hh, hc] at hct
    rw [hl] at hown
    simp only [show decide (114 ≤ 114) = true from rfl, Bool.not_false, Bool.and_self] at hct
    have := catchHighYes w b o _ v _ _ _ _ (bodyI N F) hct hown hw
    rw [hi] at this
    exact this
theorem fr_own {W : World} {R n : Nat} {e : TypeId} {v : Value} {xs : List Value} (h : W.ownsRow 0 e 1 v n xs) (hne : v.ownBlock ≠ some R) (a' b' c' d' e' : Value) :
    (((((W.setCell ⟨R, 0, none⟩ a').setCell ⟨R, 1, none⟩ b').setCell ⟨R, 2, none⟩ c').setCell ⟨R, 3, none⟩ d').setCell ⟨R, 4, none⟩ e').ownsRow 0 e 1 v n xs :=
  own_setNe (own_setNe (own_setNe (own_setNe (own_setNe h (a := ⟨R, 0, none⟩) hne _) (a := ⟨R, 1, none⟩) hne _) (a := ⟨R, 2, none⟩) hne _) (a := ⟨R, 3, none⟩) hne _) (a := ⟨R, 4, none⟩) hne _
def InvRun (wL : World) (R b : Nat) (o : Int) (a1 : Option Addr) (n1 c1 : Nat) (a2 : Option Addr) (n2 c2 : Nat) (N F : Nat → Int) (k : Nat) (a : Act) (wr : World) : Prop :=
  ∃ (i : Nat) (v vo : Value), i + k = 114 ∧ Below wL.heap.size wL wr ∧ Pair wr wL.heap.size b v vo o N F i ∧ a.tmps.size = 52 ∧ a.defers = [] ∧ slot a 1 = .slice a1 n1 c1 ∧ slot a 2 = .slice a2 n2 c2 ∧ slot a 7 = .pointer (some ⟨R, 0, none⟩) ∧ slot a 9 = .pointer (some ⟨b, 0, none⟩) ∧ slot a 11 = vo ∧ slot a 12 = .int .i64 i
set_option maxHeartbeats 4000000 in
theorem lawRun (w : World) (o : Int) (a1 : Option Addr) (n1 c1 : Nat) (X : Nat → Int) (a2 : Option Addr) (n2 c2 : Nat) (Y : Nat → Int) (ho : 0 ≤ o ∧ o < 8) (hX : Rd .u8 w a1 n1 X) (hY : Rd .u8 w a2 n2 Y) (hn : (n1 = 114 ∧ n2 ≤ 114) ∨ (n1 ≤ 114 ∧ n2 = 114)) :
    Calls Try.prog 40 #[.int .i64 o, .slice a1 n1 c1, .slice a2 n2 c2] w fun e w' => ∃ a c, e = .returned (.tuple #[.slice a 114 c, if highQ o (knL X n1) (knL Y n2) = true then getV (bytesL (bodyI (knL X n1) (knL Y n2))) 14 else frV 0 0 0 0 0, .bool (highQ o (knL X n1) (knL Y n2))]) ∧
      114 ≤ c ∧ c ≤ 9223372036854775807 ∧ Mine .u8 77 w.heap.size w' a 114 (outI o (knL X n1) (knL Y n2)) ∧ Below w.heap.size w w' := by
  obtain ⟨i0, hi0, hz0, hz1, hz2⟩ := info_parts elemS
  have HI := Lib.hid (fun W b v => catchHigh W b v o (knL X n1) (knL Y n2) (knL_in X n1) (knL_in Y n2))
  have ST := Lib.hid (fun W b v n (h : CatchAt W b v o (knL X n1) (knL Y n2) n) (hn : n < 114) => catchStep W b v o (knL X n1) (knL Y n2) n (if n < n1 then X n else 0) (if n < n2 then Y n else 0) hn (knL_in X n1) (knL_in Y n2) rfl rfl h)
  obtain ⟨f0, f1, f2, f3, f4, hf⟩ : ∃ f0 f1 f2 f3 f4, (if highQ o (knL X n1) (knL Y n2) = true then getV (bytesL (bodyI (knL X n1) (knL Y n2))) 14 else frV 0 0 0 0 0) = .agg #[.int .i64 f0, .int .u8 f1, .int .u8 f2, .int .u32 f3, .int .u32 f4] := by
    split
    · exact getV_is _ _
    · exact ⟨_, _, _, _, _, rfl⟩
  have A1 := Lib.hid (fun W (i : Nat) (h : Rd .u8 W a1 n1 X) => lawAt W a1 n1 c1 i X h (by omega))
  have A2 := Lib.hid (fun W (i : Nat) (h : Rd .u8 W a2 n2 Y) => lawAt W a2 n2 c2 i Y h (by omega))
  have C := Lib.hid (fun W => catchNew W o ho)
  rw [hf] at HI ⊢
  generalize highQ o (knL X n1) (knL Y n2) = q at *
  have hnil : ∀ W b, Ct W b o (firstF b) (.slice none 0 0) 0 (-1) false false false → CatchAt W b (.slice none 0 0) o (knL X n1) (knL Y n2) 0 := fun W b h => catchAt_new h
  generalize hNN : knL X n1 = N at *
  generalize hFF : knL Y n2 = F at *
  clear hNN hFF hf ho
  replace hnil := Lib.hid hnil
  have hX0 := Lib.hid (hX.below (below_alloc w (.cells #[.int .i64 0, .int .u8 0, .int .u8 0, .int .u32 0, .int .u32 0] 34)) (Nat.le_refl _))
  have hY0 := Lib.hid (hY.below (below_alloc w (.cells #[.int .i64 0, .int .u8 0, .int .u8 0, .int .u32 0, .int .u32 0] 34)) (Nat.le_refl _))
  have hR0 := Lib.hid (Blk.new w #[.int .i64 0, .int .u8 0, .int .u8 0, .int .u32 0, .int .u32 0] 34)
  have hb0 := Lib.hid (below_alloc w (.cells #[.int .i64 0, .int .u8 0, .int .u8 0, .int .u32 0, .int .u32 0] 34))
  have hs0 : w.heap.size < (w.alloc (.cells #[.int .i64 0, .int .u8 0, .int .u8 0, .int .u32 0, .int .u32 0] 34)).heap.size := by simp
  clear hX hY
  go_enter Try.func40, Try.ntmps40
  go_wp2_with fail
  generalize w.alloc (.cells #[.int .i64 0, .int .u8 0, .int .u8 0, .int .u32 0, .int .u32 0] 34) = w0 at *
  generalize hRR : w.heap.size = R at *
  refine (C.out _).mono ?_
  rintro e w1 ⟨b, rfl, hct, hbl, hb1⟩
  have hP1 := hnil.out _ _ hct
  clear C hnil hct
  go_wp2
  refine wp_loop_k (InvRun w0 R b o a1 n1 c1 a2 n2 c2 N F) 114 ?_ ?_
  · exact ⟨0, _, _, by omega, hb1, ⟨hP1, World.ownsRow_nil _ _ _ _, hbl, fun g hg => by simp [Value.ownBlock] at hg, fun g hg => by simp [Value.ownBlock] at hg, fun g hg => by simp [Value.ownBlock] at hg⟩, by kernel_rfl, rfl, by kernel_rfl, by kernel_rfl, by kernel_rfl, by kernel_rfl, by kernel_rfl, by kernel_rfl⟩
  clear hP1 hb1
  intro gk a wr hI K hK
  obtain ⟨i, v, vo, hi, hbw, hp, hs', hd', k1', k2', k7', k9', k11', k12'⟩ := hI
  rw [fr52 a hs' hd']; simp only [k1', k2', k7', k9', k11', k12']; clear hs' hd' k1' k2' k7' k9' k11' k12'
  have hsz := hbw.size
  replace hp := Lib.hid hp
  have hfr := Lib.hid (fr_cells (hR0.out.below hbw hs0))
  rcases Decidable.em (n1 < n2) with hlt | hlt
  all_goals
    by_cases hil : i < 114
    · have g1 : decide ((i : Int) < max (n1 : Int) (n2 : Int)) = true := by simp; omega
      have B1 := A1.out wr i (hX0.out.below hbw (Nat.le_refl _))
      have B2 := A2.out wr i (hY0.out.below hbw (Nat.le_refl _))
      have S1 := ST.out wr b v i hp.out.at' hil
      generalize (if i < n1 then X i else 0) = x at B1 S1
      generalize (if i < n2 then Y i else 0) = y at B2 S1
      obtain ⟨z, hz⟩ : ∃ z, outI o N F i = z := ⟨_, rfl⟩
      rw [hz] at S1
      replace hz := Lib.hid hz
      replace B1 := Lib.hid B1
      replace B2 := Lib.hid B2
      replace S1 := Lib.hid S1
      go_wp2_with fail
      refine B1.out.mono ?_
      rintro e _ ⟨rfl, rfl⟩
      go_wp2_with fail
      refine B2.out.mono ?_
      rintro e _ ⟨rfl, rfl⟩
      go_wp2_with fail
      refine S1.out.mono ?_
      rintro e w2 ⟨rfl, v', hat', ht, hmv⟩
      obtain ⟨s1, s2, s3⟩ := hp.out.step hsz hat' ht hmv
      have hbw2 := ht.below hbw hsz hp.out.ge
      have hsz2 := hbw2.size
      replace s1 := Lib.hid s1
      replace hat' := Lib.hid hat'
      go_wp2_with (at_builtin; refine append_at rfl _ _ 40 rfl 77 i0 (.int .u8 0) 1 Try.underlying40 hi0 hz0 hz1 hz2 rfl vo i _ rfl s1.out _ w2.heap.size (by simp) rfl rfl (by omega) (by omega) ?_)
      intro g c w3 hown3 hg3 hat3
      rw [← hz.out] at hown3
      have hp3 := Lib.hid (Pair.app hat'.out hp.out.hb s2 hp.out.ho s3 hsz2 hown3 hg3 hat3)
      have hbw3 := Lib.hid (Below.grown hbw2 hg3 hsz2 hp.out.ho)
      clear hown3 hg3 hat3 s1 s2 s3 hat' ht hmv hbw2 hsz2 B1 B2 S1 hfr
      go_wp2
      exact hK (114 - (i + 1)) _ _ (by omega) ⟨i + 1, v', _, by omega, hbw3.out, hp3.out, by kernel_rfl, rfl, by kernel_rfl, by kernel_rfl, by kernel_rfl, by kernel_rfl, by kernel_rfl, by kernel_rfl⟩
    · obtain rfl : i = 114 := by omega
      have g1 : decide (((114 : Nat) : Int) < max (n1 : Int) (n2 : Int)) = false := by simp; omega
      have H1 := Lib.hid (HI.out wr b v hp.out.at')
      obtain ⟨⟨c0, c1', c2', c3, c4⟩, f0', f1', f2', f3', f4'⟩ := hfr.out
      go_wp2_with fail
      refine H1.out.mono ?_
      rintro e w2 ⟨rfl, hb2⟩
      have hb02 := bthen hbw hb2
      have hF4 := Blk.new w2 #[.int .i64 f0, .int .u8 f1, .int .u8 f2, .int .u32 f3, .int .u32 f4] 34
      have hR2 := hR0.out.below hb02 hs0
      have hR4 := hR2.alloc (.cells #[.int .i64 f0, .int .u8 f1, .int .u8 f2, .int .u32 f3, .int .u32 f4] 34)
      have hb24 := below_alloc w2 (.cells #[.int .i64 f0, .int .u8 f1, .int .u8 f2, .int .u32 f3, .int .u32 f4] 34)
      have hb04 := bthen hb02 hb24
      have ho4 := own_touch (S := []) hp.out.out (Touch.of_below (bthen hb2 hb24) (Nat.le_refl _) []) (by simp)
      have hRne : w2.heap.size ≠ R := by have := hR2.lt; omega
      go_upto_region 10 with fail
      generalize w2.alloc (.cells #[.int .i64 f0, .int .u8 f1, .int .u8 f2, .int .u32 f3, .int .u32 f4] 34) = w4 at *
      have hone : vo.ownBlock ≠ some R := own_ne ho4 hR4 (by decide)
      clear hfr c0 c1' c2' c3 c4 f0' f1' f2' f3' f4' hb24 hR2 hb02 hb2 H1 hbw
      obtain ⟨⟨c0, c1', c2', c3, c4⟩, f0', f1', f2', f3', f4'⟩ := fr_cells hR4
      replace hF4 := Lib.hid hF4
      replace hR4 := Lib.hid hR4
      replace ho4 := Lib.hid ho4
      have hcl : Hid (∀ W, Blk W w2.heap.size #[.int .i64 f0, .int .u8 f1, .int .u8 f2, .int .u32 f3, .int .u32 f4] 34 →
        (W.cell? ⟨w2.heap.size, 0, none⟩ = some (.int .i64 f0) ∧ W.cell? ⟨w2.heap.size, 1, none⟩ = some (.int .u8 f1) ∧ W.cell? ⟨w2.heap.size, 2, none⟩ = some (.int .u8 f2) ∧ W.cell? ⟨w2.heap.size, 3, none⟩ = some (.int .u32 f3) ∧ W.cell? ⟨w2.heap.size, 4, none⟩ = some (.int .u32 f4))) := fun W h1 => (fr_cells h1).1
      go_region_held3 (fun W => W.cell? ⟨w2.heap.size, 0, none⟩ = some (.int .i64 f0) ∧ W.cell? ⟨w2.heap.size, 1, none⟩ = some (.int .u8 f1) ∧ W.cell? ⟨w2.heap.size, 2, none⟩ = some (.int .u8 f2) ∧ W.cell? ⟨w2.heap.size, 3, none⟩ = some (.int .u32 f3) ∧ W.cell? ⟨w2.heap.size, 4, none⟩ = some (.int .u32 f4))
        (first
          | with_reducible exact hcl.out _ hF4.out.drew
          | with_reducible exact hcl.out _ (fr_setNe hF4.out hRne _ _ _ _ _).drew
          | (trace_state; fail)) (fail)
      have hR6 := (fr_set hR4.out (.int .i64 f0) (.int .u8 f1) (.int .u8 f2) (.int .u32 f3) (.int .u32 f4)).drew
      have hb06 := (fr_below (hb0.out.trans (hb04.mono (Nat.le_of_lt hs0))) (Nat.le_refl R) (.int .i64 f0) (.int .u8 f1) (.int .u8 f2) (.int .u32 f3) (.int .u32 f4)).drew
      have ho6 := own_raise (B := R) (fr_own ho4.out hone (.int .i64 f0) (.int .u8 f1) (.int .u8 f2) (.int .u32 f3) (.int .u32 f4)) (fun g hg => Nat.le_trans (Nat.le_of_lt hs0) (hp.out.ho g hg))
      obtain ⟨ax, cx, rfl, e1, e2, _, e3⟩ := own_mine ho6
      go_wp2_with fail
      obtain ⟨⟨r0, r1, r2, r3, r4⟩, _⟩ := fr_cells hR6
      refine bodyPost_ret (v := .tuple #[.slice ax 114 cx, .agg #[.int .i64 f0, .int .u8 f1, .int .u8 f2, .int .u32 f3, .int .u32 f4], .bool q]) (by simp [results, Try.results40, go_sem, r0, r1, r2, r3, r4]) rfl ⟨ax, cx, rfl, e1, e2, by rw [hRR]; exact e3.below (below_drewN _ 1) (Nat.le_refl _), by rw [hRR]; exact hb06⟩
end Go.Proofs.Ytbfbpagfmhdblaa
