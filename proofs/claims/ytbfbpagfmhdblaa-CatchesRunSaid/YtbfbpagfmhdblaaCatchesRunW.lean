/- CatchesRun: the walk. -/
import Derived.Test.YtbfbpagfmhdblaaCatchRU
namespace Go.Proofs.Ytbfbpagfmhdblaa
open Go.RowKit
set_option linter.unusedSimpArgs false
set_option linter.unusedVariables false
set_option maxRecDepth 100000
theorem stepAny (w : World) (b : Nat) (v : Value) (o : Int) (N F : Nat → Int) (i : Nat) (x y : Int) (hN : ∀ i, N i = 0 ∨ N i = 1 ∨ N i = 2) (hF : ∀ i, F i = 0 ∨ F i = 1 ∨ F i = 2) (hx : knownI x = N i) (hy : knownI y = F i) (h : CatchAt w b v o N F (min i 114)) :
    Calls Try.prog 45 #[.pointer (some ⟨b, 0, none⟩), .int .u8 x, .int .u8 y] w fun e w' =>
      e = .returned (.int .u8 (if i < 114 then outI o N F i else 0)) ∧ ∃ v', CatchAt w' b v' o N F (min (i + 1) 114) ∧ Touch (catchS b v) w w' ∧ Moved w v v' := by
  by_cases hi : i < 114
  · rw [if_pos hi, Nat.min_eq_left (by omega)]
    rw [Nat.min_eq_left (by omega)] at h
    exact catchStep w b v o N F i x y hi hN hF hx hy h
  · rw [if_neg hi, Nat.min_eq_right (by omega)]
    rw [Nat.min_eq_right (by omega)] at h
    refine (stepFull w b o _ v _ _ _ _ x y h.ct).mono ?_
    rintro e _ ⟨rfl, rfl⟩
    exact ⟨rfl, v, h, Touch.refl _ _, .inl rfl⟩
theorem rstepAny (w : World) (b : Nat) (o : Int) (va vf : Value) (N F : Nat → Int) (i : Nat) (x y : Int) (hN : ∀ i, N i = 0 ∨ N i = 1 ∨ N i = 2) (hx : knownI x = N i) (hy : knownI y = F i) (h : RefC w b o va vf N F (min i 114) (min i 114)) :
    Calls Try.prog 46 #[.pointer (some ⟨b, 0, none⟩), .int .u8 x, .int .u8 y] w fun e w' =>
      e = .returned (.int .u8 (if i < 114 then outI o N F i else 0)) ∧ ∃ va' vf', RefC w' b o va' vf' N F (min (i + 1) 114) (min (i + 1) 114) ∧ Touch (refS b va vf) w w' ∧ Moved w va va' ∧ Moved w vf vf' := by
  by_cases hi : i < 114
  · rw [if_pos hi, Nat.min_eq_left (by omega)]
    rw [Nat.min_eq_left (by omega)] at h
    exact rstep w b o va vf N F i x y hi hN hx hy h
  · rw [if_neg hi, Nat.min_eq_right (by omega)]
    rw [Nat.min_eq_right (by omega)] at h
    refine (rstepFull w b o va vf N F x y h).mono ?_
    rintro e _ ⟨rfl, rfl⟩
    exact ⟨rfl, va, vf, h, Touch.refl _ _, .inl rfl, .inl rfl⟩
/-- Is it high by now, and of which frame? -/
def hiN (o : Int) (N F : Nat → Int) (n : Nat) : Bool := decide (n = 114) && highQ o N F
def frN (o : Int) (N F : Nat → Int) (n : Nat) : Value := if hiN o N F n = true then getV (bytesL (bodyI N F)) 14 else frV 0 0 0 0 0
theorem frN_is (o : Int) (N F : Nat → Int) (n : Nat) : ∃ f0 f1 f2 f3 f4, frN o N F n = .agg #[.int .i64 f0, .int .u8 f1, .int .u8 f2, .int .u32 f3, .int .u32 f4] := by
  unfold frN
  split
  · exact getV_is _ _
  · exact ⟨_, _, _, _, _, rfl⟩
theorem highAny (w : World) (b : Nat) (v : Value) (o : Int) (N F : Nat → Int) (n : Nat) (hN : ∀ i, N i = 0 ∨ N i = 1 ∨ N i = 2) (hF : ∀ i, F i = 0 ∨ F i = 1 ∨ F i = 2) (hn : n ≤ 114) (h : CatchAt w b v o N F n) :
    Calls Try.prog 48 #[.pointer (some ⟨b, 0, none⟩)] w fun e w' => e = .returned (.tuple #[frN o N F n, .bool (hiN o N F n)]) ∧ Below w.heap.size w w' := by
  by_cases h1 : n = 114
  · subst h1
    have e : hiN o N F 114 = highQ o N F := by simp [hiN]
    unfold frN
    rw [e]
    exact catchHigh w b v o N F hN hF h
  · have e : hiN o N F n = false := by simp [hiN, h1]
    have hd : decide (114 ≤ n) = false := by simp; omega
    unfold frN
    rw [e]
    have hct := h.ct
    rw [hd] at hct
    simp only [Bool.false_and] at hct
    exact catchHighNo w b o _ v _ _ _ _ hct
theorem rhighAny (w : World) (b : Nat) (o : Int) (va vf : Value) (N F : Nat → Int) (n : Nat) (hN : ∀ i, N i = 0 ∨ N i = 1 ∨ N i = 2) (hn : n ≤ 114) (h : RefC w b o va vf N F n n) :
    Calls Try.prog 49 #[.pointer (some ⟨b, 0, none⟩)] w fun e w' => e = .returned (.tuple #[frN o N F n, .bool (hiN o N F n)]) ∧ Below w.heap.size w w' := by
  by_cases h1 : n = 114
  · subst h1
    have e : hiN o N F 114 = highQ o N F := by simp [hiN]
    unfold frN
    rw [e]
    exact rhigh w b o va vf N F hN h
  · have e : hiN o N F n = false := by simp [hiN, h1]
    unfold frN
    rw [e]
    exact rhighShort w b o va vf N F n h (by omega)
theorem unlikeAny (w : World) (b : Nat) (v : Value) (o : Int) (N F : Nat → Int) (n : Nat) (h : CatchAt w b v o N F n) :
    Calls Try.prog 50 #[.pointer (some ⟨b, 0, none⟩)] w fun e w' => e = .returned (.int .i64 (unlikeI N F n)) ∧ w = w' := by
  refine catchUnlike w b o _ v _ _ _ _ _ ?_ ?_ h.ct
  · unfold nextV
    split
    · split
      · exact .inl ⟨_, _, rfl⟩
      · exact .inl ⟨_, _, rfl⟩
    · split
      · exact .inl ⟨_, _, rfl⟩
      · split
        · exact .inl ⟨_, _, rfl⟩
        · split
          · exact .inl ⟨_, _, rfl⟩
          · exact .inr rfl
  · intro e e0
    have : n = 0 := by omega
    subst this
    simp [nextV, cutB, firstF] at e
def InvRun9 (w : World) (o : Int) (a1 : Option Addr) (n1 c1 : Nat) (a2 : Option Addr) (n2 c2 : Nat) (N F : Nat → Int) (b rb M : Nat) (k : Nat) (a : Act) (wr : World) : Prop :=
  ∃ (i : Nat) (v va vf : Value), i + k = M ∧ Below w.heap.size w wr ∧ CatchAt wr b v o N F (min i 114) ∧ RefC wr rb o va vf N F (min i 114) (min i 114) ∧ (∀ q ∈ catchS b v, w.heap.size ≤ q) ∧ (∀ q ∈ refS rb va vf, w.heap.size ≤ q) ∧ (∀ q ∈ catchS b v, q ∉ refS rb va vf) ∧
    a.tmps.size = 118 ∧ a.defers = [] ∧ slot a 1 = .slice a1 n1 c1 ∧ slot a 2 = .slice a2 n2 c2 ∧ slot a 7 = .pointer (some ⟨b, 0, none⟩) ∧ slot a 9 = .pointer (some ⟨rb, 0, none⟩) ∧ slot a 11 = .int .i64 i
/-- The blocks behind a step of one of the two. -/
theorem moved_catch {w : World} {b : Nat} {v v' : Value} {q : Nat} (hm : Moved w v v') (hq : q ∈ catchS b v') : q ∈ catchS b v ∨ w.heap.size ≤ q := by
  rcases catchS_mem.1 hq with rfl | h
  · exact .inl (catchS_mem.2 (.inl rfl))
  · rcases hm with e | ⟨g, e1, e2⟩
    · exact .inl (catchS_mem.2 (.inr (by rw [← e]; exact h)))
    · rw [e1] at h
      obtain rfl := Option.some.inj h
      exact .inr e2
theorem moved_ref {w : World} {b : Nat} {va va' vf vf' : Value} {q : Nat} (hm : Moved w va va') (hm2 : Moved w vf vf') (hq : q ∈ refS b va' vf') : q ∈ refS b va vf ∨ w.heap.size ≤ q := by
  rcases refS_mem.1 hq with rfl | h | h
  · exact .inl (refS_mem.2 (.inl rfl))
  · rcases hm with e | ⟨g, e1, e2⟩
    · exact .inl (refS_mem.2 (.inr (.inl (by rw [← e]; exact h))))
    · rw [e1] at h
      obtain rfl := Option.some.inj h
      exact .inr e2
  · rcases hm2 with e | ⟨g, e1, e2⟩
    · exact .inl (refS_mem.2 (.inr (.inr (by rw [← e]; exact h))))
    · rw [e1] at h
      obtain rfl := Option.some.inj h
      exact .inr e2
theorem catchS_lt {w : World} {b : Nat} {v : Value} {o : Int} {N F : Nat → Int} {n q : Nat} (h : CatchAt w b v o N F n) (hq : q ∈ catchS b v) : q < w.heap.size := by
  rcases catchS_mem.1 hq with rfl | h1
  · exact h.ct.lt
  · exact own_lt h.own h1
theorem refS_lt {w : World} {b : Nat} {va vf : Value} {o : Int} {N F : Nat → Int} {n m q : Nat} (h : RefC w b o va vf N F n m) (hq : q ∈ refS b va vf) : q < w.heap.size := by
  rcases refS_mem.1 hq with rfl | h1 | h1
  · exact h.blk.lt
  · exact own_lt h.near h1
  · exact own_lt h.far h1
theorem RefC.touch {S : List Nat} {w w' : World} {b : Nat} {o : Int} {va vf : Value} {N F : Nat → Int} {n m : Nat} (h : RefC w b o va vf N F n m) (ht : Touch S w w') (hs : ∀ k ∈ refS b va vf, k ∉ S) : RefC w' b o va vf N F n m :=
  ⟨h.blk.touch ht (hs b (refS_mem.2 (.inl rfl))), own_touch h.near ht (fun k hk => hs k (refS_mem.2 (.inr (.inl hk)))), own_touch h.far ht (fun k hk => hs k (refS_mem.2 (.inr (.inr hk)))), h.ne⟩
set_option maxHeartbeats 8000000 in
theorem catchesRun_any (w : World) (o : Int) (a1 : Option Addr) (n1 c1 : Nat) (X : Nat → Int) (a2 : Option Addr) (n2 c2 : Nat) (Y : Nat → Int) (hX : Rd .u8 w a1 n1 X) (hY : Rd .u8 w a2 n2 Y) (hn1 : NilOk a1 n1 c1) (hn2 : NilOk a2 n2 c2) :
    Calls Try.prog 11 #[.int .i64 o, .slice a1 n1 c1, .slice a2 n2 c2] w fun e w' => e = .returned (.bool true) ∧ Below w.heap.size w w' := by
  by_cases h1 : 300 < n1
  · have g1 : decide ((300 : Int) < (n1 : Int)) = true := by simp; omega
    have g1' : (300 : Int) < (n1 : Int) := by omega
    clear hX hY hn1 hn2
    go_enter Try.func11, Try.ntmps11
    go_wp2_with fail
    refine (lives09 _).mono ?_
    rintro e w11 ⟨rfl, hb11⟩
    go_wp2_with fail
    go_ret
    exact ⟨rfl, hb11⟩
  have g1 : decide ((300 : Int) < (n1 : Int)) = false := by simp; omega
  have g1' : ¬ (300 : Int) < (n1 : Int) := by omega
  by_cases h2 : 300 < n2
  · have g2 : decide ((300 : Int) < (n2 : Int)) = true := by simp; omega
    have g2' : (300 : Int) < (n2 : Int) := by omega
    clear hX hY hn1 hn2
    go_enter Try.func11, Try.ntmps11
    go_wp2_with fail
    refine (lives09 _).mono ?_
    rintro e w11 ⟨rfl, hb11⟩
    go_wp2_with fail
    go_ret
    exact ⟨rfl, hb11⟩
  have g2 : decide ((300 : Int) < (n2 : Int)) = false := by simp; omega
  have g2' : ¬ (300 : Int) < (n2 : Int) := by omega
  by_cases ho : 0 ≤ o ∧ o < 8
  · have C := Lib.hid (fun W => catchNew W o ho)
    have RC := Lib.hid (fun W => rnew W o (knL X n1) (knL Y n2) ho)
    replace hX := Lib.hid hX
    replace hY := Lib.hid hY
    go_enter Try.func11, Try.ntmps11
    go_wp2_with fail
    refine (C.out _).mono ?_
    rintro e w1 ⟨b, rfl, hct, hbl, hb1⟩
    have hA1 := catchAt_new (N := knL X n1) (F := knL Y n2) hct
    go_wp2_with fail
    refine (RC.out _).mono ?_
    rintro e w2 ⟨rb, rfl, hr2, hrl, hb2⟩
    have hA2 := hA1.touch (S := []) (Touch.of_below hb2 (Nat.le_refl _) []) (by simp)
    have hb02 := bthen hb1 hb2
    have hbr : b ≠ rb := by have := hct.lt; omega
    have hs01 := hb1.size
    clear C RC hct hA1 hb1 hb2
    have A1 := Lib.hid (fun W (i : Nat) (hb : Below w.heap.size w W) => lawAt W a1 n1 c1 i X (hX.out.below hb (Nat.le_refl _)) (by omega))
    have A2 := Lib.hid (fun W (i : Nat) (hb : Below w.heap.size w W) => lawAt W a2 n2 c2 i Y (hY.out.below hb (Nat.le_refl _)) (by omega))
    have S1 := Lib.hid (fun W v i (h : CatchAt W b v o (knL X n1) (knL Y n2) (min i 114)) => stepAny W b v o (knL X n1) (knL Y n2) i (if i < n1 then X i else 0) (if i < n2 then Y i else 0) (knL_in X n1) (knL_in Y n2) rfl rfl h)
    have S2 := Lib.hid (fun W va vf i (h : RefC W rb o va vf (knL X n1) (knL Y n2) (min i 114) (min i 114)) => rstepAny W rb o va vf (knL X n1) (knL Y n2) i (if i < n1 then X i else 0) (if i < n2 then Y i else 0) (knL_in X n1) rfl rfl h)
    have H1 := Lib.hid (fun W v n (hn : n ≤ 114) (h : CatchAt W b v o (knL X n1) (knL Y n2) n) => highAny W b v o (knL X n1) (knL Y n2) n (knL_in X n1) (knL_in Y n2) hn h)
    have H2 := Lib.hid (fun W va vf n (hn : n ≤ 114) (h : RefC W rb o va vf (knL X n1) (knL Y n2) n n) => rhighAny W rb o va vf (knL X n1) (knL Y n2) n (knL_in X n1) hn h)
    generalize knL X n1 = N at *
    generalize knL Y n2 = F at *
    go_wp2_with fail
    have LS := Lib.hid (fun W f0 f1 f2 f3 f4 => lawSame W f0 f1 f2 f3 f4)
    unfold frV at LS
    obtain ⟨M, hM⟩ : ∃ M, (n1 < n2 ∧ M = n2) ∨ (¬ n1 < n2 ∧ M = n1) := by
      rcases Decidable.em (n1 < n2) with h | h
      · exact ⟨_, .inl ⟨h, rfl⟩⟩
      · exact ⟨_, .inr ⟨h, rfl⟩⟩
    have hM3 : M ≤ 300 := by omega
    refine wp_loop_k (InvRun9 w o a1 n1 c1 a2 n2 c2 N F b rb M) M ?_ ?_
    · refine ⟨0, _, _, _, by omega, hb02, hA2, hr2, fun q hq => ?_, fun q hq => ?_, fun q hq hq2 => ?_, by kernel_rfl, rfl, by kernel_rfl, by kernel_rfl, by kernel_rfl, by kernel_rfl, by kernel_rfl⟩
      · rcases catchS_mem.1 hq with rfl | h
        · exact hbl
        · simp [Value.ownBlock] at h
      · rcases refS_mem.1 hq with rfl | h | h
        · omega
        · simp [Value.ownBlock] at h
        · simp [Value.ownBlock] at h
      · rcases catchS_mem.1 hq with rfl | h
        · rcases refS_mem.1 hq2 with e | h | h
          · exact hbr e
          · simp [Value.ownBlock] at h
          · simp [Value.ownBlock] at h
        · simp [Value.ownBlock] at h
    clear hA2 hr2 hb02 hrl hs01
    intro gk a wr hI K hK
    obtain ⟨i, v, va, vf, hi, hbw, hat, hrf, hg1, hg2, hdj, hs', hd', k1', k2', k7', k9', k11'⟩ := hI
    rw [fr118 a hs' hd']; simp only [k1', k2', k7', k9', k11']; clear hs' hd' k1' k2' k7' k9' k11'
    have hsz := hbw.size
    by_cases hil : i < M
    · have q1 : decide ((i : Int) < (M : Int)) = true := by simp; omega
      have q2 : (i : Int) < (M : Int) := by omega
      have B1 := A1.out wr i hbw
      have B2 := A2.out wr i hbw
      have hat' : CatchAt wr.drew b v o N F (min i 114) := hat.touch (S := []) ((Touch.refl [] wr).drew) (by simp)
      have hrf' : RefC wr.drew rb o va vf N F (min i 114) (min i 114) := hrf.touch (S := []) ((Touch.refl [] wr).drew) (by simp)
      have T1 := S1.out wr.drew v i hat'
      have T2 := fun W va vf h => S2.out W va vf i h
      generalize (if i < n1 then X i else 0) = x at B1 T1 T2
      generalize (if i < n2 then Y i else 0) = y at B2 T1 T2
      generalize (if i < 114 then outI o N F i else 0) = z at T1 T2
      obtain ⟨n', hn', hn'2⟩ : ∃ n', min (i + 1) 114 = n' ∧ n' ≤ 114 := ⟨_, rfl, by omega⟩
      rw [hn'] at T1
      simp only [hn'] at T2
      replace hn' := Lib.hid hn'
      replace B1 := Lib.hid B1
      replace B2 := Lib.hid B2
      replace T1 := Lib.hid T1
      replace T2 := Lib.hid T2
      replace hrf' := Lib.hid hrf'
      have HDC := Lib.hid (fun W v' (h : CatchAt W b v' o N F n') => catchHad W b o _ v' _ _ _ _ _ h.ct)
      clear hat' hat hrf
      have hb1' : Below w.heap.size w wr.drew := hbw.drew
      have hsz' : w.heap.size ≤ wr.drew.heap.size := hsz
      have hq : (n1 < n2 ∧ decide ((i : Int) < (n2 : Int)) = true ∧ (i : Int) < (n2 : Int)) ∨ (¬ n1 < n2 ∧ decide ((i : Int) < (n1 : Int)) = true ∧ (i : Int) < (n1 : Int)) := by
        rcases hM with ⟨h, e⟩ | ⟨h, e⟩
        · exact .inl ⟨h, by simp; omega, by omega⟩
        · exact .inr ⟨h, by simp; omega, by omega⟩
      rcases hq with ⟨hlt, q3, q4⟩ | ⟨hlt, q3, q4⟩
      all_goals
        go_wp2_with fail
        refine B1.out.mono ?_
        rintro e _ ⟨rfl, rfl⟩
        go_wp2_with fail
        refine B2.out.mono ?_
        rintro e _ ⟨rfl, rfl⟩
        go_upto_region 14 with fail
        clear B1 B2
        refine wp_cut (fun a wx => ((∃ v' va' vf', Below w.heap.size w wx ∧ CatchAt wx b v' o N F n' ∧ RefC wx rb o va' vf' N F n' n' ∧ (∀ q ∈ catchS b v', w.heap.size ≤ q) ∧ (∀ q ∈ refS rb va' vf', w.heap.size ≤ q) ∧ (∀ q ∈ catchS b v', q ∉ refS rb va' vf'))) ∧ a.tmps.size = 118 ∧ a.defers = [] ∧ slot a 1 = .slice a1 n1 c1 ∧ slot a 2 = .slice a2 n2 c2 ∧ slot a 7 = .pointer (some ⟨b, 0, none⟩) ∧ slot a 9 = .pointer (some ⟨rb, 0, none⟩) ∧ slot a 11 = .int .i64 i ∧ slot a 83 = .bool false) ?_ ?_
        · intro K' hK'
          refine wp_region_held_drew (S := fun _ => True) (by kernel_rfl) True.intro (fun hHeld => ?_)
          refine wpAnyH_take (i := 0) (oi := { dst := some 65, op := .move (.tmp 7), type := _, pos := _, after := _, guard := _ }) (v := ?_) rfl (by kernel_rfl) (by kernel_rfl) (by kernel_rfl) (fun _ _ _ h => h) (Or.inl ⟨by rfl, ?_⟩) True.intro ?_
          rotate_left
          · (intro w hSw; go_simp) <;> with_reducible rfl
          simp only [Act.put, List.setIfInBounds_toArray, List.set_cons_zero, List.set_cons_succ]
          refine wpAnyH_take (i := 1) (oi := { dst := some 66, op := .move (.tmp 12), type := _, pos := _, after := _, guard := _ }) (v := ?_) rfl (by kernel_rfl) (by kernel_rfl) (by kernel_rfl) (fun _ _ _ h => h) (Or.inl ⟨by rfl, ?_⟩) True.intro ?_
          rotate_left
          · (intro w hSw; go_simp) <;> with_reducible rfl
          simp only [Act.put, List.setIfInBounds_toArray, List.set_cons_zero, List.set_cons_succ]
          refine wpAnyH_take (i := 2) (oi := { dst := some 67, op := .move (.tmp 13), type := _, pos := _, after := _, guard := _ }) (v := ?_) rfl (by kernel_rfl) (by kernel_rfl) (by kernel_rfl) (fun _ _ _ h => h) (Or.inl ⟨by rfl, ?_⟩) True.intro ?_
          rotate_left
          · (intro w hSw; go_simp) <;> with_reducible rfl
          simp only [Act.put, List.setIfInBounds_toArray, List.set_cons_zero, List.set_cons_succ]
          refine wpAnyH_take (i := 4) (oi := { dst := some 69, op := .move (.tmp 9), type := _, pos := _, after := _, guard := _ }) (v := ?_) rfl (by kernel_rfl) (by kernel_rfl) (by kernel_rfl) (fun _ _ _ h => h) (Or.inl ⟨by rfl, ?_⟩) True.intro ?_
          rotate_left
          · (intro w hSw; go_simp) <;> with_reducible rfl
          simp only [Act.put, List.setIfInBounds_toArray, List.set_cons_zero, List.set_cons_succ]
          refine wpAnyH_take (i := 5) (oi := { dst := some 70, op := .move (.tmp 12), type := _, pos := _, after := _, guard := _ }) (v := ?_) rfl (by kernel_rfl) (by kernel_rfl) (by kernel_rfl) (fun _ _ _ h => h) (Or.inl ⟨by rfl, ?_⟩) True.intro ?_
          rotate_left
          · (intro w hSw; go_simp) <;> with_reducible rfl
          simp only [Act.put, List.setIfInBounds_toArray, List.set_cons_zero, List.set_cons_succ]
          refine wpAnyH_take (i := 6) (oi := { dst := some 71, op := .move (.tmp 13), type := _, pos := _, after := _, guard := _ }) (v := ?_) rfl (by kernel_rfl) (by kernel_rfl) (by kernel_rfl) (fun _ _ _ h => h) (Or.inl ⟨by rfl, ?_⟩) True.intro ?_
          rotate_left
          · (intro w hSw; go_simp) <;> with_reducible rfl
          simp only [Act.put, List.setIfInBounds_toArray, List.set_cons_zero, List.set_cons_succ]
          refine wpAnyH_ready (rs := [3]) (by kernel_rfl) (by simp) ?_
          refine AllReadyH.cons (o := { dst := some 68, op := .call { callee := .value (.func 45), args := #[.tmp 65, .tmp 66, .tmp 67], argTypes := #[_, _, _] }, type := _, pos := _, after := _, guard := _ }) rfl (fun K hK => ?_) AllReadyH.nil
          go_simp
          refine T1.out.mono ?_
          rintro e w4 ⟨rfl, v', hat4, ht4, hmv4⟩
          have hr4 := hrf'.out.touch ht4 (fun k hk hk2 => hdj k hk2 hk)
          have hb4 := ht4.below hb1' hsz' hg1
          go_wp2_with fail
          refine hK.out _ _ True.intro (fun _ => ?_)
          clear hK K
          try simp only [Act.put, List.setIfInBounds_toArray, List.set_cons_zero, List.set_cons_succ]
          refine wpAnyH_ready (rs := [7]) (by kernel_rfl) (by simp) ?_
          refine AllReadyH.cons (o := { dst := some 72, op := .call { callee := .value (.func 46), args := #[.tmp 69, .tmp 70, .tmp 71], argTypes := #[_, _, _] }, type := _, pos := _, after := _, guard := _ }) rfl (fun K hK => ?_) AllReadyH.nil
          go_simp
          refine (T2.out _ _ _ hr4).mono ?_
          rintro e w5 ⟨rfl, va', vf', hr5, ht5, hmv5, hmv6⟩
          have hsz4 := ht4.size
          have hdj4 : ∀ q ∈ catchS b v', q ∉ refS rb va vf := fun q hq hq2 => by
            rcases moved_catch hmv4 hq with h | h
            · exact hdj q h hq2
            · exact absurd (refS_lt hrf'.out hq2) (by omega)
          have hat5 := hat4.touch ht5 (fun k hk hk2 => hdj4 k hk hk2)
          have hb5 := ht5.below hb4 hb4.size hg2
          have hgc5 : ∀ q ∈ catchS b v', w.heap.size ≤ q := fun q hq => (moved_catch hmv4 hq).elim (hg1 q) (fun h => Nat.le_trans hsz' h)
          have hgr5 : ∀ q ∈ refS rb va' vf', w.heap.size ≤ q := fun q hq => (moved_ref hmv5 hmv6 hq).elim (hg2 q) (fun h => Nat.le_trans hb4.size h)
          have hdj5 : ∀ q ∈ catchS b v', q ∉ refS rb va' vf' := fun q hq hq2 => by
            rcases moved_ref hmv5 hmv6 hq2 with h | h
            · exact hdj4 q hq h
            · exact absurd (catchS_lt hat4 hq) (by omega)
          have hall := Lib.hid (And.intro hb5 (And.intro hat5 (And.intro hr5 (And.intro hgc5 (And.intro hgr5 hdj5)))))
          obtain ⟨⟨_, p1, _⟩, _, _⟩ := hr5.cells
          obtain ⟨xa, xc, ya, yc, rfl, rfl, _, _⟩ := hr5.slices
          have HD5 := Lib.hid (HDC.out _ _ hat5)
          clear hr5 hat5 ht5 hb5 hgc5 hgr5 hdj5 hdj4 hr4 hat4 ht4 hb4 hmv4 hmv5 hmv6
          go_wp2_with fail
          refine hK.out _ _ True.intro (fun _ => ?_)
          clear hK K
          try simp only [Act.put, List.setIfInBounds_toArray, List.set_cons_zero, List.set_cons_succ]
          refine wpAnyH_mono (S := fun W => W = w5) (fun W _ => True.intro) ?_
          try simp only [Act.put, List.setIfInBounds_toArray, List.set_cons_zero, List.set_cons_succ]
          refine wpAnyH_take (i := 8) (oi := { dst := some 73, op := .binOp .neq _ (.tmp 68) (.tmp 72) _, type := _, pos := _, after := _, guard := _ }) (v := ?_) rfl (by kernel_rfl) (by kernel_rfl) (by kernel_rfl) (fun _ _ _ h => h) (Or.inl ⟨by rfl, ?_⟩) rfl ?_
          rotate_left
          · (intro w hSw; subst hSw; go_simp) <;> with_reducible rfl
          simp only [Act.put, List.setIfInBounds_toArray, List.set_cons_zero, List.set_cons_succ]
          refine wpAnyH_take (i := 9) (oi := { dst := some 74, op := .move (.tmp 73), type := _, pos := _, after := _, guard := _ }) (v := ?_) rfl (by kernel_rfl) (by kernel_rfl) (by kernel_rfl) (fun _ _ _ h => h) (Or.inl ⟨by rfl, ?_⟩) rfl ?_
          rotate_left
          · (intro w hSw; subst hSw; go_simp) <;> with_reducible rfl
          simp only [Act.put, List.setIfInBounds_toArray, List.set_cons_zero, List.set_cons_succ]
          refine wpAnyH_take (i := 10) (oi := { dst := some 75, op := .move (.tmp 7), type := _, pos := _, after := _, guard := _ }) (v := ?_) rfl (by kernel_rfl) (by kernel_rfl) (by kernel_rfl) (fun _ _ _ h => h) (Or.inl ⟨by rfl, ?_⟩) rfl ?_
          rotate_left
          · (intro w hSw; subst hSw; go_simp) <;> with_reducible rfl
          simp only [Act.put, List.setIfInBounds_toArray, List.set_cons_zero, List.set_cons_succ]
          refine wpAnyH_take (i := 12) (oi := { dst := some 77, op := .move (.tmp 9), type := _, pos := _, after := _, guard := _ }) (v := ?_) rfl (by kernel_rfl) (by kernel_rfl) (by kernel_rfl) (fun _ _ _ h => h) (Or.inl ⟨by rfl, ?_⟩) rfl ?_
          rotate_left
          · (intro w hSw; subst hSw; go_simp) <;> with_reducible rfl
          simp only [Act.put, List.setIfInBounds_toArray, List.set_cons_zero, List.set_cons_succ]
          refine wpAnyH_take (i := 13) (oi := { dst := some 78, op := .nilCheck (.tmp 77), type := _, pos := _, after := _, guard := _ }) (v := ?_) rfl (by kernel_rfl) (by kernel_rfl) (by kernel_rfl) (fun _ _ _ h => h) (Or.inl ⟨by rfl, ?_⟩) rfl ?_
          rotate_left
          · (intro w hSw; subst hSw; go_simp) <;> with_reducible rfl
          simp only [Act.put, List.setIfInBounds_toArray, List.set_cons_zero, List.set_cons_succ]
          refine wpAnyH_take (i := 14) (oi := { dst := some 79, op := .fieldAddr _ (.tmp 78) 1, type := _, pos := _, after := _, guard := _ }) (v := ?_) rfl (by kernel_rfl) (by kernel_rfl) (by kernel_rfl) (fun _ _ _ h => h) (Or.inl ⟨by rfl, ?_⟩) rfl ?_
          rotate_left
          · (intro w hSw; subst hSw; go_simp) <;> with_reducible rfl
          simp only [Act.put, List.setIfInBounds_toArray, List.set_cons_zero, List.set_cons_succ]
          refine wpAnyH_take (i := 15) (oi := { dst := some 80, op := .load _ (.tmp 79), type := _, pos := _, after := _, guard := _ }) (v := ?_) rfl (by kernel_rfl) (by kernel_rfl) (by kernel_rfl) (fun _ _ _ h => h) (Or.inl ⟨by rfl, ?_⟩) rfl ?_
          rotate_left
          · (intro w hSw; subst hSw; go_simp) <;> with_reducible rfl
          simp only [Act.put, List.setIfInBounds_toArray, List.set_cons_zero, List.set_cons_succ]
          refine wpAnyH_take (i := 16) (oi := { dst := some 81, op := .call { callee := .builtin .len, args := #[.tmp 80], argTypes := #[_] }, type := _, pos := _, after := _, guard := _ }) (v := ?_) rfl (by kernel_rfl) (by kernel_rfl) (by kernel_rfl) (fun _ _ _ h => h) (Or.inl ⟨by rfl, ?_⟩) rfl ?_
          rotate_left
          · (intro w hSw; subst hSw; go_simp) <;> with_reducible rfl
          simp only [Act.put, List.setIfInBounds_toArray, List.set_cons_zero, List.set_cons_succ]
          refine wpAnyH_ready (rs := [11]) (by kernel_rfl) (by simp) ?_
          refine AllReadyH.cons (o := { dst := some 76, op := .call { callee := .value (.func 47), args := #[.tmp 75], argTypes := #[_] }, type := _, pos := _, after := _, guard := _ }) rfl (fun K hK => ?_) AllReadyH.nil
          go_simp
          refine HD5.out.mono ?_
          rintro e _ ⟨rfl, rfl⟩
          go_wp2_with fail
          refine hK.out _ _ rfl (fun _ => ?_)
          clear hK K
          try simp only [Act.put, List.setIfInBounds_toArray, List.set_cons_zero, List.set_cons_succ]
          refine wpAnyH_take (i := 17) (oi := { dst := some 82, op := .binOp .neq _ (.tmp 76) (.tmp 81) _, type := _, pos := _, after := _, guard := _ }) (v := ?_) rfl (by kernel_rfl) (by kernel_rfl) (by kernel_rfl) (fun _ _ _ h => h) (Or.inl ⟨by rfl, ?_⟩) rfl ?_
          rotate_left
          · (intro w hSw; subst hSw; go_simp) <;> with_reducible rfl
          simp only [Act.put, List.setIfInBounds_toArray, List.set_cons_zero, List.set_cons_succ]
          refine wpAnyH_take (i := 18) (oi := { dst := some 83, op := .pick (.tmp 74) (.const (.bool true)) (.tmp 82), type := _, pos := _, after := _, guard := _ }) (v := ?_) rfl (by kernel_rfl) (by kernel_rfl) (by kernel_rfl) (fun _ _ _ h => h) (Or.inl ⟨by rfl, ?_⟩) rfl ?_
          rotate_left
          · (intro w hSw; subst hSw; go_simp) <;> with_reducible rfl
          simp only [Act.put, List.setIfInBounds_toArray, List.set_cons_zero, List.set_cons_succ]
          refine wpAnyH_done (by kernel_rfl) ?_ _
          all_goals
            exact hK' _ _ trivial ⟨⟨_, _, _, hall.out⟩, by kernel_rfl, rfl, by kernel_rfl, by kernel_rfl, by kernel_rfl, by kernel_rfl, by kernel_rfl, by kernel_rfl⟩
        clear T1 T2 HDC hrf' hb1' hsz'
        rintro a wx ⟨⟨v', va', vf', hbx, hatx, hrfx, hgc, hgr, hdx⟩, hs', hd', k1', k2', k7', k9', k11', k83'⟩; rw [fr118 a hs' hd']; simp only [k1', k2', k7', k9', k11', k83']; clear hs' hd' k1' k2' k7' k9' k11' k83'
        have hnext : Hid (∀ W a, Below wx.heap.size wx W → (a.tmps.size = 118 ∧ a.defers = [] ∧ slot a 1 = .slice a1 n1 c1 ∧ slot a 2 = .slice a2 n2 c2 ∧ slot a 7 = .pointer (some ⟨b, 0, none⟩) ∧ slot a 9 = .pointer (some ⟨rb, 0, none⟩) ∧ slot a 11 = .int .i64 ((i : Int) + 1)) → K a W) := fun W a hb hs => by
          refine hK (M - (i + 1)) _ _ (by omega) ⟨i + 1, v', va', vf', by omega, hbx.trans (hb.mono hbx.size), ?_, ?_, hgc, hgr, hdx, hs⟩
          · rw [hn'.out]; exact hatx.touch (S := []) (Touch.of_below hb (Nat.le_refl _) []) (by simp)
          · rw [hn'.out]; exact hrfx.below hb
        have P1 := Lib.hid (H1.out wx v' n' hn'2 hatx)
        have P2 := Lib.hid (fun W (hb : Below wx.heap.size wx W) => H2.out W va' vf' n' hn'2 (hrfx.below hb))
        have P3 := Lib.hid (fun W (hb : Below wx.heap.size wx W) => unlikeAny W b v' o N F n' (hatx.touch (S := []) (Touch.of_below hb (Nat.le_refl _) []) (by simp)))
        have P4 := Lib.hid (fun W (hb : Below wx.heap.size wx W) => runlike W rb o va' vf' N F n' (hrfx.below hb) (by omega))
        obtain ⟨f0, f1, f2, f3, f4, hfr⟩ := frN_is o N F n'
        rw [hfr] at P1 P2
        generalize hiN o N F n' = hq at P1 P2
        generalize unlikeI N F n' = un at P3 P4
        clear hatx hrfx hgc hgr hdx hfr hK
        have u1 : Int.tmod (i : Int) 16 = (i : Int) % 16 := Int.tmod_eq_emod_of_nonneg (by omega)
        have u2 : IntKind.i64.wrap ((i : Int) % 16) = (i : Int) % 16 := wrap_i64_small _ (by omega) (by omega)
        by_cases h16 : (i : Int) % 16 = 0
        · have r1 : ((i : Int) % 16 == 0) = true := by simp [h16]
          have r2 : decide ((i : Int) % 16 = 0) = true := by simp [h16]
          go_wp2_with fail
          refine P1.out.mono ?_
          rintro e w6 ⟨rfl, hb6⟩
          have hf7 := Blk.new w6 #[.int .i64 f0, .int .u8 f1, .int .u8 f2, .int .u32 f3, .int .u32 f4] 34
          have hb67 := below_alloc w6 (.cells #[.int .i64 f0, .int .u8 f1, .int .u8 f2, .int .u32 f3, .int .u32 f4] 34)
          have hbx7 := bthen hb6 hb67
          go_wp2_with fail
          generalize w6.alloc (.cells #[.int .i64 f0, .int .u8 f1, .int .u8 f2, .int .u32 f3, .int .u32 f4] 34) = w7 at *
          refine (P2.out _ hbx7).mono ?_
          rintro e w8 ⟨rfl, hb8⟩
          have hf8 := hf7.below hb8 hf7.lt
          have hbx8 := bthen hbx7 hb8
          have hg9 := Blk.new w8 #[.int .i64 f0, .int .u8 f1, .int .u8 f2, .int .u32 f3, .int .u32 f4] 28
          have hb89 := below_alloc w8 (.cells #[.int .i64 f0, .int .u8 f1, .int .u8 f2, .int .u32 f3, .int .u32 f4] 28)
          have hbx9 := bthen hbx8 hb89
          have hf9 := hf8.below hb89 hf8.lt
          go_upto_region 19 with fail
          generalize w8.alloc (.cells #[.int .i64 f0, .int .u8 f1, .int .u8 f2, .int .u32 f3, .int .u32 f4] 28) = w9 at *
          obtain ⟨⟨c0, c1', c2', c3, c4⟩, _⟩ := fr_cells hf9
          obtain ⟨⟨d0, d1, d2, d3, d4⟩, _⟩ := fr_cells hg9
          clear hf9 hg9 hf8 hf7 hb6 hb67 hbx7 hb8 hbx8 hb89
          go_wp2_with fail
          refine (LS.out w9 f0 f1 f2 f3 f4).mono ?_
          rintro e w10 ⟨rfl, hb10⟩
          have hbx10 := bthen hbx9 hb10
          go_wp2_with fail
          refine (P3.out w10 hbx10).mono ?_
          rintro e _ ⟨rfl, rfl⟩
          go_wp2_with fail
          refine (P4.out w10 hbx10).mono ?_
          rintro e w11 ⟨rfl, hq11⟩
          have hbx11 : Below wx.heap.size wx w11 := by
            obtain ⟨n, rfl⟩ := hq11
            exact bthen hbx10 (below_drewN _ _)
          clear hq11
          go_wp2_with fail
          exact hnext.out _ _ hbx11 ⟨by kernel_rfl, rfl, by kernel_rfl, by kernel_rfl, by kernel_rfl, by kernel_rfl, by kernel_rfl⟩
        · have r1 : ((i : Int) % 16 == 0) = false := by simp [h16]
          have r2 : decide ((i : Int) % 16 = 0) = false := by simp [h16]
          by_cases h108 : 108 < i
          · have r3 : decide ((108 : Int) < (i : Int)) = true := by simp; omega
            have r4 : (108 : Int) < (i : Int) := by omega
            go_wp2_with fail
            refine P1.out.mono ?_
            rintro e w6 ⟨rfl, hb6⟩
            have hf7 := Blk.new w6 #[.int .i64 f0, .int .u8 f1, .int .u8 f2, .int .u32 f3, .int .u32 f4] 34
            have hb67 := below_alloc w6 (.cells #[.int .i64 f0, .int .u8 f1, .int .u8 f2, .int .u32 f3, .int .u32 f4] 34)
            have hbx7 := bthen hb6 hb67
            go_wp2_with fail
            generalize w6.alloc (.cells #[.int .i64 f0, .int .u8 f1, .int .u8 f2, .int .u32 f3, .int .u32 f4] 34) = w7 at *
            refine (P2.out _ hbx7).mono ?_
            rintro e w8 ⟨rfl, hb8⟩
            have hf8 := hf7.below hb8 hf7.lt
            have hbx8 := bthen hbx7 hb8
            have hg9 := Blk.new w8 #[.int .i64 f0, .int .u8 f1, .int .u8 f2, .int .u32 f3, .int .u32 f4] 28
            have hb89 := below_alloc w8 (.cells #[.int .i64 f0, .int .u8 f1, .int .u8 f2, .int .u32 f3, .int .u32 f4] 28)
            have hbx9 := bthen hbx8 hb89
            have hf9 := hf8.below hb89 hf8.lt
            go_upto_region 19 with fail
            generalize w8.alloc (.cells #[.int .i64 f0, .int .u8 f1, .int .u8 f2, .int .u32 f3, .int .u32 f4] 28) = w9 at *
            obtain ⟨⟨c0, c1', c2', c3, c4⟩, _⟩ := fr_cells hf9
            obtain ⟨⟨d0, d1, d2, d3, d4⟩, _⟩ := fr_cells hg9
            clear hf9 hg9 hf8 hf7 hb6 hb67 hbx7 hb8 hbx8 hb89
            go_wp2_with fail
            refine (LS.out w9 f0 f1 f2 f3 f4).mono ?_
            rintro e w10 ⟨rfl, hb10⟩
            have hbx10 := bthen hbx9 hb10
            go_wp2_with fail
            refine (P3.out w10 hbx10).mono ?_
            rintro e _ ⟨rfl, rfl⟩
            go_wp2_with fail
            refine (P4.out w10 hbx10).mono ?_
            rintro e w11 ⟨rfl, hq11⟩
            have hbx11 : Below wx.heap.size wx w11 := by
              obtain ⟨n, rfl⟩ := hq11
              exact bthen hbx10 (below_drewN _ _)
            clear hq11
            go_wp2_with fail
            exact hnext.out _ _ hbx11 ⟨by kernel_rfl, rfl, by kernel_rfl, by kernel_rfl, by kernel_rfl, by kernel_rfl, by kernel_rfl⟩
          · have r3 : decide ((108 : Int) < (i : Int)) = false := by simp; omega
            have r4 : ¬ (108 : Int) < (i : Int) := by omega
            go_wp2_with fail
            exact hnext.out _ _ (Below.refl _ _) ⟨by kernel_rfl, rfl, by kernel_rfl, by kernel_rfl, by kernel_rfl, by kernel_rfl, by kernel_rfl⟩
    · have q1 : decide ((i : Int) < (M : Int)) = false := by simp; omega
      have q2 : ¬ (i : Int) < (M : Int) := by omega
      have hq : (n1 < n2 ∧ decide ((i : Int) < (n2 : Int)) = false ∧ ¬ (i : Int) < (n2 : Int)) ∨ (¬ n1 < n2 ∧ decide ((i : Int) < (n1 : Int)) = false ∧ ¬ (i : Int) < (n1 : Int)) := by
        rcases hM with ⟨h, e⟩ | ⟨h, e⟩
        · exact .inl ⟨h, by simp; omega, by omega⟩
        · exact .inr ⟨h, by simp; omega, by omega⟩
      rcases hq with ⟨hlt, q3, q4⟩ | ⟨hlt, q3, q4⟩
      all_goals
        go_wp2_with fail
        refine (lives09 _).mono ?_
        rintro e w11 ⟨rfl, hb11⟩
        go_wp2_with fail
        go_ret
        exact ⟨rfl, bthen hbw hb11⟩
  · have C := Lib.hid (fun W => catchNewNo W o ho)
    have RC := Lib.hid (fun W => rnewNo W o ho)
    clear hX hY hn1 hn2 ho
    go_enter Try.func11, Try.ntmps11
    go_wp2_with fail
    refine (C.out _).mono ?_
    rintro e _ ⟨rfl, rfl⟩
    go_wp2_with fail
    refine (RC.out _).mono ?_
    rintro e _ ⟨rfl, rfl⟩
    go_wp2_with fail
    refine (lives09 _).mono ?_
    rintro e w11 ⟨rfl, hb11⟩
    go_wp2_with fail
    go_ret
    exact ⟨rfl, hb11⟩
end Go.Proofs.Ytbfbpagfmhdblaa
