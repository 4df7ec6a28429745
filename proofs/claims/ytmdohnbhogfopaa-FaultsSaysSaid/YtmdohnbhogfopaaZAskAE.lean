/- Several texts, one behind the other: AskA AskB AskC AskD AskE. -/
import Derived.Test.YtmdohnbhogfopaaZBigTX
import Derived.Test.YtmdohnbhogfopaaZBitsAC
/- What is asked of a kind: the simple ones. -/
namespace Go.Proofs.Ytmdohnbhogfopaa
open Go.RowKit Go.Maps
set_option linter.unusedSimpArgs false
set_option linter.unusedVariables false
set_option maxRecDepth 100000
def askV (pm : Nat) (l t : Int) (sp : SpellC) (s : Int) (v : Value) : Array Value :=
  #[.pointer (some ⟨pm, 0, none⟩), .int .i64 l, .int .i64 t, .int .i64 sp.fr, .int .i64 sp.til, .int .u8 sp.lk, .int .u8 sp.kd, .int .u64 sp.sd, .int .u8 s, v]
/-- What lies there when a kind is asked. -/
structure AskAt (B : Nat) (w : World) (pa pm : Nat) (l t : Int) (sp : SpellC) (s : Int) (v : Value) (R : List RowC) : Prop where
  blk : Blk w pa (askV pm l t sp s v) 157
  own : OwnWord 97 163 B w v R
  le : B ≤ pa
  sl : ∃ a n c, v = .slice a n c
  ok : ∀ r ∈ R, RowOk r
theorem askCells {B : Nat} {w : World} {pa pm : Nat} {l t : Int} {sp : SpellC} {s : Int} {v : Value} {R : List RowC} (h : AskAt B w pa pm l t sp s v R) :
    w.cell? ⟨pa, 0, none⟩ = some (.pointer (some ⟨pm, 0, none⟩)) ∧ w.cell? ⟨pa, 1, none⟩ = some (.int .i64 l) ∧ w.cell? ⟨pa, 2, none⟩ = some (.int .i64 t) ∧ w.cell? ⟨pa, 3, none⟩ = some (.int .i64 sp.fr) ∧ w.cell? ⟨pa, 6, none⟩ = some (.int .u8 sp.kd) ∧
    w.cell? ⟨pa, 7, none⟩ = some (.int .u64 sp.sd) ∧ w.cell? ⟨pa, 8, none⟩ = some (.int .u8 s) ∧ w.cell? ⟨pa, 9, none⟩ = some v ∧ pa < w.heap.size :=
  ⟨h.blk.cell (i := 0) rfl, h.blk.cell (i := 1) rfl, h.blk.cell (i := 2) rfl, h.blk.cell (i := 3) rfl, h.blk.cell (i := 6) rfl, h.blk.cell (i := 7) rfl, h.blk.cell (i := 8) rfl, h.blk.cell (i := 9) rfl, h.blk.lt⟩
/-- All blocks are kept but rows' and what is asked. -/
def KeepU (w w' : World) : Prop := ∀ b c U, Blk w b c U → U ≠ 157 → U ≠ 97 → Blk w' b c U
theorem KeepU.of_below {w w' : World} (h : Below w.heap.size w w') : KeepU w w' := fun b c U hb _ _ => hb.below h hb.lt
theorem KeepU.trans {a b c : World} (h : KeepU a b) (k : KeepU b c) : KeepU a c := fun g cs U hg h1 h2 => k g cs U (h g cs U hg h1 h2) h1 h2
theorem KeepU.of_touch {w w' : World} {g : Nat} {cs : Array Value} {U : TypeId} (h : Touch [g] w w') (hg : Blk w g cs U) (hU : U = 157 ∨ U = 97) : KeepU w w' := fun b c V hb h1 h2 => hb.touch h (by
  simp only [List.mem_singleton]
  rcases hU with rfl | rfl
  · exact hb.ne hg h1
  · exact hb.ne hg h2)
/-- A post that a kind answers. -/
def PostR (B : Nat) (w : World) (r : PostC) (e : Ending) (w' : World) : Prop := ∃ v', e = .returned (.agg #[.int .u8 r.s, v']) ∧ OwnWord 97 163 B w' v' r.R ∧ Below B w w' ∧ KeepU w w'
def u64 (x : Int) : Int := IntKind.u64.wrap x
/-- The number that all numbers of a place begin with. -/
def baseI (sd t l : Int) : Int := u64 (u64 (sd + u64 (1000003 * u64 t)) + u64 (10007 * u64 l))
def numI (sd t l n : Int) : Int := mixI (u64 (baseI sd t l + u64 (101 * u64 n)))
theorem bits64 (o : BinOp) (a b : Int) : 0 ≤ bits o .u64 a b ∧ bits o .u64 a b ≤ 18446744073709551615 := by
  unfold bits
  rw [IntKind.wrap_u64]
  omega
theorem mixI_range (n : Int) : 0 ≤ mixI n ∧ mixI n ≤ 18446744073709551615 := by
  unfold mixI
  exact bits64 _ _ _
theorem postRow : ∃ d, Try.prog.underlying 40 = some d ∧ (match d with | .struct _ | .array _ _ => true | _ => false) = true := ⟨_, Try.underlying40, rfl⟩
theorem postSize : (Try.prog.info? 40).map (·.size) = some 2 := by kernel_rfl
theorem postRet {fn : Func} {Q : Ending → World → Prop} {a : Act} {W : World} (p : Tmp) (h : fn.results = #[.cell p 40]) (b : Nat) (s : Int) (v : Value) (hp : a.tmps.getD p undef = .pointer (some ⟨b, 0, none⟩)) (hb : Blk W b #[.int .u8 s, v] 40) (hd : a.defers = [])
    (hQ : Q (.returned (.agg #[.int .u8 s, v])) W) : bodyPost Try.prog fn Q .ret a W := by
  obtain ⟨d0, hd0, hd1⟩ := postRow
  exact bodyPost_ret (v := .agg #[.int .u8 s, v]) (results_cell_row h _ _ b 40 _ (0, 0) d0 hp hb.out hd0 (by cases d0 <;> simp_all) (by rw [postSize]; rfl)) hd hQ
theorem honestR {B : Nat} {w : World} {pa pm : Nat} {l t : Int} {sp : SpellC} {s : Int} {v : Value} {R : List RowC} (h : AskAt B w pa pm l t sp s v R) (hB : B ≤ w.heap.size) :
    Calls Try.prog 67 #[.pointer (some ⟨pa, 0, none⟩)] w fun e w' => PostR B w ⟨s, R⟩ e w' := by
  obtain ⟨c0, c1, c2, c3, c6, c7, c8, c9, lt⟩ := askCells h
  have hf : Hid (∀ w', Below w.heap.size w w' → PostR B w ⟨s, R⟩ (.returned (.agg #[.int .u8 s, v])) w') := fun w' hb => ⟨v, rfl, h.own.keep hb (Nat.le_refl _), hb.mono hB, KeepU.of_below hb⟩
  have hf0 : Hid (∀ w', Below w.heap.size w w' → PostR B w ⟨0, []⟩ (.returned (.agg #[.int .u8 0, .slice none 0 0])) w') := fun w' hb => ⟨_, rfl, .inl ⟨rfl, rfl⟩, hb.mono hB, KeepU.of_below hb⟩
  obtain ⟨a, n, c, rfl⟩ := h.sl
  have hb := below_alloc w (.cells #[.int .u8 s, .slice a n c] 40)
  have hb0 := below_alloc w (.cells #[.int .u8 0, .slice none 0 0] 40)
  clear h
  replace hb := Lib.hid hb
  replace hb0 := Lib.hid hb0
  go_enter Try.func67, Try.ntmps67
  go_wp2_with fail
  first | exact postRet 2 (by kernel_rfl) w.heap.size s _ rfl (Blk.new _ _ _) rfl (hf.out _ hb.out) | exact postRet 2 (by kernel_rfl) w.heap.size 0 _ rfl (Blk.new _ _ _) rfl (hf0.out _ hb0.out)
theorem silentR {B : Nat} {w : World} {pa pm : Nat} {l t : Int} {sp : SpellC} {s : Int} {v : Value} {R : List RowC} (h : AskAt B w pa pm l t sp s v R) (hB : B ≤ w.heap.size) :
    Calls Try.prog 106 #[.pointer (some ⟨pa, 0, none⟩)] w fun e w' => PostR B w ⟨0, []⟩ e w' := by
  obtain ⟨c0, c1, c2, c3, c6, c7, c8, c9, lt⟩ := askCells h
  have hf : Hid (∀ w', Below w.heap.size w w' → PostR B w ⟨s, R⟩ (.returned (.agg #[.int .u8 s, v])) w') := fun w' hb => ⟨v, rfl, h.own.keep hb (Nat.le_refl _), hb.mono hB, KeepU.of_below hb⟩
  have hf0 : Hid (∀ w', Below w.heap.size w w' → PostR B w ⟨0, []⟩ (.returned (.agg #[.int .u8 0, .slice none 0 0])) w') := fun w' hb => ⟨_, rfl, .inl ⟨rfl, rfl⟩, hb.mono hB, KeepU.of_below hb⟩
  obtain ⟨a, n, c, rfl⟩ := h.sl
  have hb := below_alloc w (.cells #[.int .u8 s, .slice a n c] 40)
  have hb0 := below_alloc w (.cells #[.int .u8 0, .slice none 0 0] 40)
  clear h
  replace hb := Lib.hid hb
  replace hb0 := Lib.hid hb0
  go_enter Try.func106, Try.ntmps106
  go_wp2_with fail
  first | exact postRet 2 (by kernel_rfl) w.heap.size s _ rfl (Blk.new _ _ _) rfl (hf.out _ hb.out) | exact postRet 2 (by kernel_rfl) w.heap.size 0 _ rfl (Blk.new _ _ _) rfl (hf0.out _ hb0.out)
theorem numberR {B : Nat} {w : World} {pa pm : Nat} {l t : Int} {sp : SpellC} {s : Int} {v : Value} {R : List RowC} (h : AskAt B w pa pm l t sp s v R) (n : Int) :
    Calls Try.prog 140 #[.pointer (some ⟨pa, 0, none⟩), .int .i64 n] w fun e w' => e = .returned (.int .u64 (numI sp.sd t l n)) ∧ ∃ q, w' = w.drewN q := by
  obtain ⟨c0, c1, c2, c3, c6, c7, c8, c9, lt⟩ := askCells h
  clear h
  unfold numI baseI u64
  go_enter Try.func140, Try.ntmps140
  go_upto_region 1 with fail
  go_region_held3 (fun W => W.cell? ⟨pa, 7, none⟩ = some (.int .u64 sp.sd) ∧ W.cell? ⟨pa, 2, none⟩ = some (.int .i64 t) ∧ W.cell? ⟨pa, 1, none⟩ = some (.int .i64 l) ∧ pa < W.heap.size)
    (exact ⟨c7, c2, c1, lt⟩)
    (first
      | (go_at_call 38
         refine (mixR _ _).mono ?_
         rintro e _ ⟨rfl, rfl⟩)
      | fail)
  go_wp2_with fail
  go_ret
  exact ⟨rfl, 1, rfl⟩
theorem ofR {B : Nat} {w : World} {pa pm : Nat} {l t : Int} {sp : SpellC} {s : Int} {v : Value} {R : List RowC} (h : AskAt B w pa pm l t sp s v R) (m n : Int) (hm : 0 < m ∧ m ≤ 1000) :
    Calls Try.prog 131 #[.pointer (some ⟨pa, 0, none⟩), .int .u64 m, .int .i64 n] w fun e w' => e = .returned (.int .u64 (numI sp.sd t l n % m)) ∧ ∃ q, w' = w.drewN q := by
  have N := Lib.hid (numberR h n)
  have hb := mixI_range (u64 (baseI sp.sd t l + u64 (101 * u64 n)))
  have hb2 : 0 ≤ numI sp.sd t l n := hb.1
  have e1 : Int.tmod (numI sp.sd t l n) m = numI sp.sd t l n % m := Int.tmod_eq_emod_of_nonneg hb2
  have e2 : IntKind.u64.wrap (numI sp.sd t l n % m) = numI sp.sd t l n % m := by
    have h1 := Int.emod_nonneg (numI sp.sd t l n) (show m ≠ 0 by omega)
    have h2 := Int.emod_lt_of_pos (numI sp.sd t l n) (show 0 < m by omega)
    rw [IntKind.wrap_u64]
    omega
  have e3 : (m == 0) = false := by simp; omega
  have e4 : ¬ m = 0 := by omega
  clear h hb hm
  generalize numI sp.sd t l n = x at *
  generalize hr : x % m = r at *
  replace hr := Lib.hid hr
  go_enter Try.func131, Try.ntmps131
  go_wp2_with fail
  refine N.out.mono ?_
  rintro e w7 ⟨rfl, q, rfl⟩
  go_wp2_with fail
  go_ret
  exact ⟨by simp, q, rfl⟩
end Go.Proofs.Ytmdohnbhogfopaa
/- half; turned; what lies and forges change. -/
namespace Go.Proofs.Ytmdohnbhogfopaa
open Go.RowKit Go.Maps
set_option linter.unusedSimpArgs false
set_option linter.unusedVariables false
set_option maxRecDepth 100000
def addV (v : Value) (d : Int) : Value := match v with
  | .int _ x => .int .i64 (IntKind.i64.wrap (x + d))
  | v => v
def x1V (v : Value) : Value := match v with
  | .int _ x => .int .u32 (bits .xor .u32 x 1)
  | v => v
def lieH (d : Int) (h : List Value) : List Value := ((h.set 1 (addV (h.getD 1 undef) d)).set 7 (x1V (h.getD 7 undef))).set 13 (x1V (h.getD 13 undef))
def forgeH (h : List Value) : List Value := (h.set 1 (addV (h.getD 1 undef) 1)).set 13 (x1V (h.getD 13 undef))
def turnS (s : Int) : Int := if s = 1 ∨ s = 2 then 3 - s else s
theorem Fits.set {ks : List (Option IntKind)} {h : List Value} (hf : Fits ks h) {i : Nat} {k : Option IntKind} (hk : ks[i]? = some k) {v : Value} (hv : CellFit k v) : Fits ks (h.set i v) := by
  induction ks generalizing h i with
  | nil => simp at hk
  | cons k0 ks ih =>
    cases h with
    | nil => exact hf.elim
    | cons u us =>
      cases i with
      | zero =>
        simp at hk
        subst hk
        exact ⟨hv, hf.2⟩
      | succ i => exact ⟨hf.1, ih hf.2 (by simpa using hk)⟩
theorem Fits.get {ks : List (Option IntKind)} {h : List Value} (hf : Fits ks h) {i : Nat} {k : Option IntKind} (hk : ks[i]? = some k) : CellFit k (h.getD i undef) ∧ h[i]? = some (h.getD i undef) := by
  induction ks generalizing h i with
  | nil => simp at hk
  | cons k0 ks ih =>
    cases h with
    | nil => exact hf.elim
    | cons u us =>
      cases i with
      | zero =>
        simp at hk
        subst hk
        exact ⟨hf.1, rfl⟩
      | succ i =>
        have := ih hf.2 (i := i) (by simpa using hk)
        simpa using this
theorem wf_u32w (x : Int) : (Lit.int .u32 (bits .xor .u32 x 1)).wf = true := by
  have e1 : IntKind.u32.min = 0 := by decide
  have e2 : IntKind.u32.max = 4294967295 := by decide
  have h : 0 ≤ bits .xor .u32 x 1 ∧ bits .xor .u32 x 1 ≤ 4294967295 := by
    unfold bits
    rw [IntKind.wrap_u32]
    omega
  simp [Lit.wf, e1, e2]
  omega
theorem wf_i64w (x : Int) : (Lit.int .i64 (IntKind.i64.wrap x)).wf = true := by
  have e1 : IntKind.i64.min = -9223372036854775808 := by decide
  have e2 : IntKind.i64.max = 9223372036854775807 := by decide
  have h : -9223372036854775808 ≤ IntKind.i64.wrap x ∧ IntKind.i64.wrap x ≤ 9223372036854775807 := by
    rw [IntKind.wrap_i64]
    omega
  simp [Lit.wf, e1, e2]
  omega
theorem heldKs_1 : heldKs[1]? = some (some .i64) := rfl
theorem heldKs_7 : heldKs[7]? = some (some .u32) := rfl
theorem heldKs_13 : heldKs[13]? = some (some .u32) := rfl
theorem HeldOk.ints {h : List Value} (k : HeldOk h) : ∃ x a b, h[1]? = some (.int .i64 x) ∧ h[7]? = some (.int .u32 a) ∧ h[13]? = some (.int .u32 b) ∧ h.getD 1 undef = .int .i64 x ∧ h.getD 7 undef = .int .u32 a ∧ h.getD 13 undef = .int .u32 b := by
  obtain ⟨⟨x, h1, _⟩, g1⟩ := Fits.get k heldKs_1
  obtain ⟨⟨a, h2, _⟩, g2⟩ := Fits.get k heldKs_7
  obtain ⟨⟨b, h3, _⟩, g3⟩ := Fits.get k heldKs_13
  exact ⟨x, a, b, by rw [g1, h1], by rw [g2, h2], by rw [g3, h3], h1, h2, h3⟩
theorem lieH_ok {h : List Value} (k : HeldOk h) (d : Int) : HeldOk (lieH d h) := by
  obtain ⟨x, a, b, _, _, _, h1, h2, h3⟩ := k.ints
  unfold lieH HeldOk
  rw [h1, h2, h3]
  exact Fits.set (Fits.set (Fits.set k heldKs_1 ⟨_, rfl, wf_i64w _⟩) heldKs_7 ⟨_, rfl, wf_u32w _⟩) heldKs_13 ⟨_, rfl, wf_u32w _⟩
theorem forgeH_ok {h : List Value} (k : HeldOk h) : HeldOk (forgeH h) := by
  obtain ⟨x, a, b, _, _, _, h1, h2, h3⟩ := k.ints
  unfold forgeH HeldOk
  rw [h1, h3]
  exact Fits.set (Fits.set k heldKs_1 ⟨_, rfl, wf_i64w _⟩) heldKs_13 ⟨_, rfl, wf_u32w _⟩
theorem rowsFlat_set {R : List RowC} {tvs : List Value} (hl : tvs.length = R.length) (hk : ∀ r ∈ R, r.hd.length = 56) {i j : Nat} {r : RowC} (hr : R[i]? = some r) (hj : j < 56) (u : Value) :
    (rowsFlat R tvs).set (i * 57 + j) u = rowsFlat (R.set i ⟨r.hd.set j u, r.tab⟩) tvs := by
  induction R generalizing tvs i with
  | nil => simp at hr
  | cons r' R ih =>
    cases tvs with
    | nil => simp at hl
    | cons tv tvs =>
      have h6 : r'.hd.length = 56 := hk r' (by simp)
      have h7 : (r'.hd ++ [tv]).length = 57 := by simp [h6]
      cases i with
      | zero =>
        simp at hr
        subst hr
        unfold rowsFlat
        simp only [List.zipWith_cons_cons, List.flatten_cons, Nat.zero_mul, Nat.zero_add, List.set_cons_zero]
        rw [List.set_append_left _ _ (by omega), List.set_append_left _ _ (by omega)]
      | succ i =>
        have := ih (tvs := tvs) (by simpa using hl) (fun x hx => hk x (by simp [hx])) (by simpa using hr)
        unfold rowsFlat at this ⊢
        simp only [List.zipWith_cons_cons, List.flatten_cons, List.set_cons_succ]
        rw [List.set_append_right _ _ (by omega), ← this]
        congr 2
        omega
theorem halfYes {B : Nat} {w : World} {pa pm : Nat} {l t : Int} {sp : SpellC} {s : Int} {v : Value} {R : List RowC} (h : AskAt B w pa pm l t sp s v R) (hB : B ≤ w.heap.size) (hl : 0 ≤ l) (hl2 : (l % 2 == 0) = true) :
    Calls Try.prog 112 #[.pointer (some ⟨pa, 0, none⟩)] w fun e w' => PostR B w ⟨s, R⟩ e w' := by
  obtain ⟨c0, c1, c2, c3, c6, c7, c8, c9, lt⟩ := askCells h
  have hf : Hid (∀ w', Below w.heap.size w w' → PostR B w ⟨s, R⟩ (.returned (.agg #[.int .u8 s, v])) w') := fun w' hb => ⟨v, rfl, h.own.keep hb (Nat.le_refl _), hb.mono hB, KeepU.of_below hb⟩
  have hf0 : Hid (∀ w', Below w.heap.size w w' → PostR B w ⟨0, []⟩ (.returned (.agg #[.int .u8 0, .slice none 0 0])) w') := fun w' hb => ⟨_, rfl, .inl ⟨rfl, rfl⟩, hb.mono hB, KeepU.of_below hb⟩
  obtain ⟨a, n, c, rfl⟩ := h.sl
  have hb := below_alloc w (.cells #[.int .u8 s, .slice a n c] 40)
  have hb0 := below_alloc w (.cells #[.int .u8 0, .slice none 0 0] 40)
  clear h
  replace hb := Lib.hid hb
  replace hb0 := Lib.hid hb0
  have e1 : Int.tmod l 2 = l % 2 := Int.tmod_eq_emod_of_nonneg hl
  have e2 : IntKind.i64.wrap (l % 2) = l % 2 := wrapI _ (by omega) (by omega)
  go_enter Try.func112, Try.ntmps112
  go_wp2_with fail
  first | exact postRet 2 (by kernel_rfl) w.heap.size s _ rfl (Blk.new _ _ _) rfl (hf.out _ hb.out) | exact postRet 2 (by kernel_rfl) w.heap.size 0 _ rfl (Blk.new _ _ _) rfl (hf0.out _ hb0.out)
theorem halfNo {B : Nat} {w : World} {pa pm : Nat} {l t : Int} {sp : SpellC} {s : Int} {v : Value} {R : List RowC} (h : AskAt B w pa pm l t sp s v R) (hB : B ≤ w.heap.size) (hl : 0 ≤ l) (hl2 : (l % 2 == 0) = false) :
    Calls Try.prog 112 #[.pointer (some ⟨pa, 0, none⟩)] w fun e w' => PostR B w ⟨0, []⟩ e w' := by
  obtain ⟨c0, c1, c2, c3, c6, c7, c8, c9, lt⟩ := askCells h
  have hf : Hid (∀ w', Below w.heap.size w w' → PostR B w ⟨s, R⟩ (.returned (.agg #[.int .u8 s, v])) w') := fun w' hb => ⟨v, rfl, h.own.keep hb (Nat.le_refl _), hb.mono hB, KeepU.of_below hb⟩
  have hf0 : Hid (∀ w', Below w.heap.size w w' → PostR B w ⟨0, []⟩ (.returned (.agg #[.int .u8 0, .slice none 0 0])) w') := fun w' hb => ⟨_, rfl, .inl ⟨rfl, rfl⟩, hb.mono hB, KeepU.of_below hb⟩
  obtain ⟨a, n, c, rfl⟩ := h.sl
  have hb := below_alloc w (.cells #[.int .u8 s, .slice a n c] 40)
  have hb0 := below_alloc w (.cells #[.int .u8 0, .slice none 0 0] 40)
  clear h
  replace hb := Lib.hid hb
  replace hb0 := Lib.hid hb0
  have e1 : Int.tmod l 2 = l % 2 := Int.tmod_eq_emod_of_nonneg hl
  have e2 : IntKind.i64.wrap (l % 2) = l % 2 := wrapI _ (by omega) (by omega)
  go_enter Try.func112, Try.ntmps112
  go_wp2_with fail
  first | exact postRet 2 (by kernel_rfl) w.heap.size s _ rfl (Blk.new _ _ _) rfl (hf.out _ hb.out) | exact postRet 2 (by kernel_rfl) w.heap.size 0 _ rfl (Blk.new _ _ _) rfl (hf0.out _ hb0.out)
end Go.Proofs.Ytmdohnbhogfopaa
/- What lies and forges change: each row. -/
namespace Go.Proofs.Ytmdohnbhogfopaa
open Go.RowKit Go.Maps
set_option linter.unusedSimpArgs false
set_option linter.unusedVariables false
set_option maxRecDepth 100000
theorem lies1Not {B : Nat} {w : World} {pa pm : Nat} {l t : Int} {sp : SpellC} {s : Int} {v : Value} {R : List RowC} (h : AskAt B w pa pm l t sp s v R) (hl : 0 ≤ l ∧ l < 64) (bx g o : Nat) (cur : Array Value) (hg : Blk w g cur 97) (x a b : Int)
    (hx : cur[o]? = some (.int .i64 x)) (ha : cur[o + 6]? = some (.int .u32 a)) (hb : cur[o + 12]? = some (.int .u32 b)) (hbx : Blk w bx #[.pointer (some ⟨pa, 0, none⟩)] 154) (i : Int) (hi : (i == l / 4) = false) :
    Calls Try.prog 134 #[.int .i64 i, .pointer (some ⟨g, o, none⟩), .pointer (some ⟨bx, 0, none⟩)] w fun e w' => e = .returned (.tuple #[]) ∧ w = w' := by
  obtain ⟨c0, c1, c2, c3, c6, c7, c8, c9, lt⟩ := askCells h
  have a0 : w.cell? ⟨g, o, none⟩ = some (.int .i64 x) := hg.cell hx
  have a6 : w.cell? ⟨g, o + 6, none⟩ = some (.int .u32 a) := hg.cell ha
  have a12 : w.cell? ⟨g, o + 12, none⟩ = some (.int .u32 b) := hg.cell hb
  have f0 : ∀ i, w.frozen? ⟨g, i, none⟩ = false := fun i => hg.free i
  have ltg := hg.lt
  have b0 : w.cell? ⟨bx, 0, none⟩ = some (.pointer (some ⟨pa, 0, none⟩)) := hbx.cell (i := 0) rfl
  have ltb := hbx.lt
  have nb : bx ≠ g := hbx.ne hg (by decide)
  have na : pa ≠ g := h.blk.ne hg (by decide)
  have e1 : Int.tdiv l 4 = l / 4 := Int.tdiv_eq_ediv_of_nonneg hl.1
  have e2 : IntKind.i64.wrap (l / 4) = l / 4 := wrapI _ (by omega) (by omega)
  clear h hg hx ha hb hbx
  go_enter Try.func134, Try.ntmps134
  go_wp2_with fail
  go_end0
  exact ⟨rfl, rfl⟩
theorem lies1Yes {B : Nat} {w : World} {pa pm : Nat} {l t : Int} {sp : SpellC} {s : Int} {v : Value} {R : List RowC} (h : AskAt B w pa pm l t sp s v R) (hl : 0 ≤ l ∧ l < 64) (bx g o : Nat) (cur : Array Value) (hg : Blk w g cur 97) (x a b : Int)
    (hx : cur[o]? = some (.int .i64 x)) (ha : cur[o + 6]? = some (.int .u32 a)) (hb : cur[o + 12]? = some (.int .u32 b)) (hbx : Blk w bx #[.pointer (some ⟨pa, 0, none⟩)] 154) (i : Int) (hi : (i == l / 4) = true) (hsd : (Lit.int .u64 sp.sd).wf = true) :
    Calls Try.prog 134 #[.int .i64 i, .pointer (some ⟨g, o, none⟩), .pointer (some ⟨bx, 0, none⟩)] w fun e w' => e = .returned (.tuple #[]) ∧ ∃ q, w' = (((w.drewN q).setCell ⟨g, o, none⟩ (.int .i64 (IntKind.i64.wrap (x + sp.sd % 1000)))).setCell ⟨g, o + 6, none⟩ (.int .u32 (bits .xor .u32 a 1))).setCell ⟨g, o + 12, none⟩ (.int .u32 (bits .xor .u32 b 1)) := by
  obtain ⟨c0, c1, c2, c3, c6, c7, c8, c9, lt⟩ := askCells h
  have a0 : w.cell? ⟨g, o, none⟩ = some (.int .i64 x) := hg.cell hx
  have a6 : w.cell? ⟨g, o + 6, none⟩ = some (.int .u32 a) := hg.cell ha
  have a12 : w.cell? ⟨g, o + 12, none⟩ = some (.int .u32 b) := hg.cell hb
  have f0 : ∀ i, w.frozen? ⟨g, i, none⟩ = false := fun i => hg.free i
  have ltg := hg.lt
  have b0 : w.cell? ⟨bx, 0, none⟩ = some (.pointer (some ⟨pa, 0, none⟩)) := hbx.cell (i := 0) rfl
  have ltb := hbx.lt
  have nb : bx ≠ g := hbx.ne hg (by decide)
  have na : pa ≠ g := h.blk.ne hg (by decide)
  have e1 : Int.tdiv l 4 = l / 4 := Int.tdiv_eq_ediv_of_nonneg hl.1
  have e2 : IntKind.i64.wrap (l / 4) = l / 4 := wrapI _ (by omega) (by omega)
  clear h hg hx ha hb hbx
  have hs2 : 0 ≤ sp.sd := by
    have e1 : IntKind.u64.min = 0 := by decide
    simp [Lit.wf, e1] at hsd
    omega
  have e3 : Int.tmod sp.sd 1000 = sp.sd % 1000 := Int.tmod_eq_emod_of_nonneg hs2
  have e4 : IntKind.u64.wrap (sp.sd % 1000) = sp.sd % 1000 := by rw [IntKind.wrap_u64]; omega
  have e5 : IntKind.i64.wrap (sp.sd % 1000) = sp.sd % 1000 := wrapI _ (by omega) (by omega)
  clear hsd
  go_enter Try.func134, Try.ntmps134
  go_upto_region 1 with fail
  refine wp_region_tail 14 (by kernel_rfl) (by kernel_rfl) ?_; simp only [List.take_succ_cons, List.take_zero, List.drop_succ_cons, List.drop_zero]; (repeat still_step); refine wpStill_nil ?_
  go_wp2_with fail
  go_end0
  refine ⟨rfl, 1, ?_⟩
  have h64 : wrap64 (x + sp.sd % 1000) = IntKind.i64.wrap (x + sp.sd % 1000) := by unfold wrap64; rw [IntKind.wrap_i64]
  rw [h64]
  rfl
theorem forges1Not {B : Nat} {w : World} {pa pm : Nat} {l t : Int} {sp : SpellC} {s : Int} {v : Value} {R : List RowC} (h : AskAt B w pa pm l t sp s v R) (hl : 0 ≤ l ∧ l < 64) (bx g o : Nat) (cur : Array Value) (hg : Blk w g cur 97) (x a b : Int)
    (hx : cur[o]? = some (.int .i64 x)) (ha : cur[o + 6]? = some (.int .u32 a)) (hb : cur[o + 12]? = some (.int .u32 b)) (hbx : Blk w bx #[.pointer (some ⟨pa, 0, none⟩)] 154) (i : Int) (hi : i = l / 4) :
    Calls Try.prog 135 #[.int .i64 i, .pointer (some ⟨g, o, none⟩), .pointer (some ⟨bx, 0, none⟩)] w fun e w' => e = .returned (.tuple #[]) ∧ w = w' := by
  obtain ⟨c0, c1, c2, c3, c6, c7, c8, c9, lt⟩ := askCells h
  have a0 : w.cell? ⟨g, o, none⟩ = some (.int .i64 x) := hg.cell hx
  have a6 : w.cell? ⟨g, o + 6, none⟩ = some (.int .u32 a) := hg.cell ha
  have a12 : w.cell? ⟨g, o + 12, none⟩ = some (.int .u32 b) := hg.cell hb
  have f0 : ∀ i, w.frozen? ⟨g, i, none⟩ = false := fun i => hg.free i
  have ltg := hg.lt
  have b0 : w.cell? ⟨bx, 0, none⟩ = some (.pointer (some ⟨pa, 0, none⟩)) := hbx.cell (i := 0) rfl
  have ltb := hbx.lt
  have nb : bx ≠ g := hbx.ne hg (by decide)
  have na : pa ≠ g := h.blk.ne hg (by decide)
  have e1 : Int.tdiv l 4 = l / 4 := Int.tdiv_eq_ediv_of_nonneg hl.1
  have e2 : IntKind.i64.wrap (l / 4) = l / 4 := wrapI _ (by omega) (by omega)
  clear h hg hx ha hb hbx
  have q1 : (i != l / 4) = false := by simp [hi]
  have q2 : decide (i = l / 4) = true := by simp [hi]
  have q3 : (i == l / 4) = true := by simp [hi]
  replace hi := Lib.hid hi
  go_enter Try.func135, Try.ntmps135
  go_wp2_with fail
  go_end0
  exact ⟨rfl, rfl⟩
theorem forges1Yes {B : Nat} {w : World} {pa pm : Nat} {l t : Int} {sp : SpellC} {s : Int} {v : Value} {R : List RowC} (h : AskAt B w pa pm l t sp s v R) (hl : 0 ≤ l ∧ l < 64) (bx g o : Nat) (cur : Array Value) (hg : Blk w g cur 97) (x a b : Int)
    (hx : cur[o]? = some (.int .i64 x)) (ha : cur[o + 6]? = some (.int .u32 a)) (hb : cur[o + 12]? = some (.int .u32 b)) (hbx : Blk w bx #[.pointer (some ⟨pa, 0, none⟩)] 154) (i : Int) (hi : ¬ i = l / 4) :
    Calls Try.prog 135 #[.int .i64 i, .pointer (some ⟨g, o, none⟩), .pointer (some ⟨bx, 0, none⟩)] w fun e w' => e = .returned (.tuple #[]) ∧ w' = (w.setCell ⟨g, o, none⟩ (.int .i64 (IntKind.i64.wrap (x + 1)))).setCell ⟨g, o + 12, none⟩ (.int .u32 (bits .xor .u32 b 1)) := by
  obtain ⟨c0, c1, c2, c3, c6, c7, c8, c9, lt⟩ := askCells h
  have a0 : w.cell? ⟨g, o, none⟩ = some (.int .i64 x) := hg.cell hx
  have a6 : w.cell? ⟨g, o + 6, none⟩ = some (.int .u32 a) := hg.cell ha
  have a12 : w.cell? ⟨g, o + 12, none⟩ = some (.int .u32 b) := hg.cell hb
  have f0 : ∀ i, w.frozen? ⟨g, i, none⟩ = false := fun i => hg.free i
  have ltg := hg.lt
  have b0 : w.cell? ⟨bx, 0, none⟩ = some (.pointer (some ⟨pa, 0, none⟩)) := hbx.cell (i := 0) rfl
  have ltb := hbx.lt
  have nb : bx ≠ g := hbx.ne hg (by decide)
  have na : pa ≠ g := h.blk.ne hg (by decide)
  have e1 : Int.tdiv l 4 = l / 4 := Int.tdiv_eq_ediv_of_nonneg hl.1
  have e2 : IntKind.i64.wrap (l / 4) = l / 4 := wrapI _ (by omega) (by omega)
  clear h hg hx ha hb hbx
  have q1 : (i != l / 4) = true := by simp [hi]
  have q2 : decide (i = l / 4) = false := by simp [hi]
  have q3 : (i == l / 4) = false := by simp [hi]
  replace hi := Lib.hid hi
  go_enter Try.func135, Try.ntmps135
  go_wp2_with fail
  go_end0
  refine ⟨rfl, ?_⟩
  have h64 : wrap64 (x + 1) = IntKind.i64.wrap (x + 1) := by unfold wrap64; rw [IntKind.wrap_i64]
  rw [h64]
/-- What lies changes of row i. -/
def lieR (l sd : Int) (i : Nat) (r : RowC) : RowC := if (i : Int) = l / 4 then ⟨lieH (sd % 1000) r.hd, r.tab⟩ else r
def forgeR (l : Int) (i : Nat) (r : RowC) : RowC := if (i : Int) = l / 4 then r else ⟨forgeH r.hd, r.tab⟩
theorem lieR_ok {r : RowC} (h : RowOk r) (l sd : Int) (i : Nat) : RowOk (lieR l sd i r) := by
  unfold lieR
  split
  · exact ⟨lieH_ok h.hd _, h.tab⟩
  · exact h
theorem forgeR_ok {r : RowC} (h : RowOk r) (l : Int) (i : Nat) : RowOk (forgeR l i r) := by
  unfold forgeR
  split
  · exact h
  · exact ⟨forgeH_ok h.hd, h.tab⟩
theorem flat_set {R : List RowC} {tvs : List Value} {cur : Array Value} (hl : tvs.length = R.length) (hk : ∀ r ∈ R, r.hd.length = 56) (hc : cur.toList.take (R.length * 57) = rowsFlat R tvs) {i j : Nat} {r : RowC} (hr : R[i]? = some r) (hj : j < 56) (u : Value) :
    (cur.setIfInBounds (i * 57 + j) u).toList.take ((R.set i ⟨r.hd.set j u, r.tab⟩).length * 57) = rowsFlat (R.set i ⟨r.hd.set j u, r.tab⟩) tvs := by
  rw [← rowsFlat_set hl hk hr hj, ← hc]
  simp [List.take_set]
theorem flat_at {R : List RowC} {tvs : List Value} {cur : Array Value} (hl : tvs.length = R.length) (hk : ∀ r ∈ R, RowOk r) (hc : cur.toList.take (R.length * 57) = rowsFlat R tvs) {i j : Nat} {r : RowC} (hr : R[i]? = some r) {u : Value} (hj : r.hd[j]? = some u) : cur[i * 57 + j]? = some u := by
  have hil := (List.getElem?_eq_some_iff.1 hr).1
  have hjl := (List.getElem?_eq_some_iff.1 hj).1
  have ht : tvs[i]? = some tvs[i] := List.getElem?_eq_getElem (by omega)
  have := rowsFlat_get hl hk hr ht j u (by rw [List.getElem?_append_left hjl]; exact hj)
  rw [← hc, List.getElem?_take] at this
  split at this
  · simpa using this
  · simp at this
end Go.Proofs.Ytmdohnbhogfopaa
/- each; lies; forges. -/
namespace Go.Proofs.Ytmdohnbhogfopaa
open Go.RowKit Go.Maps
set_option linter.unusedSimpArgs false
set_option linter.unusedVariables false
set_option maxRecDepth 100000
theorem OwnWord.setC {B g n cap : Nat} {w : World} {R : List RowC} (h : OwnWord 97 163 B w (.slice (some ⟨g, 0, none⟩) n cap) R) (hk : ∀ r ∈ R, r.hd.length = 56) {i j : Nat} {r : RowC} (hr : R[i]? = some r) (hj : j < 56) (u : Value) :
    OwnWord 97 163 B (w.setCell ⟨g, i * 57 + j, none⟩ u) (.slice (some ⟨g, 0, none⟩) n cap) (R.set i ⟨r.hd.set j u, r.tab⟩) := by
  rcases h with ⟨h, _⟩ | ⟨g', cap', cur, tvs, h1, h2, h3, h4, h5, h6, h7, h8, h9⟩
  · simp at h
  · simp only [Value.slice.injEq, Option.some.injEq, Addr.mk.injEq] at h1
    obtain ⟨⟨rfl, _⟩, rfl, rfl⟩ := h1
    refine .inr ⟨g, cap, cur.setIfInBounds (i * 57 + j) u, tvs, by simp, by simpa using h2, h3, h4, h5.set _ _, by simpa using h6, flat_set h8 hk h7 hr hj u, by simpa using h8, fun q x tv hq hx => ?_⟩
    have hB : ∀ g2 c2, Blk w g2 c2 163 → Blk (w.setCell ⟨g, i * 57 + j, none⟩ u) g2 c2 163 := fun g2 c2 hg => hg.setNe (a := ⟨g, i * 57 + j, none⟩) (hg.ne h5 (by decide)) u
    by_cases e : q = i
    · subst e
      have hql := (List.getElem?_eq_some_iff.1 hr).1
      rw [List.getElem?_set_self hql] at hq
      simp at hq
      subst hq
      exact (h9 q r tv hr hx).blk fun g2 c2 _ hg => hB _ _ hg
    · rw [List.getElem?_set_ne (fun e2 => e e2.symm)] at hq
      exact (h9 q x tv hq hx).blk fun g2 c2 _ hg => hB _ _ hg
theorem OwnWord.at {B g n cap : Nat} {w : World} {R : List RowC} (h : OwnWord 97 163 B w (.slice (some ⟨g, 0, none⟩) n cap) R) : ∃ cur tvs, Blk w g cur 97 ∧ B ≤ g ∧ n = R.length ∧ tvs.length = R.length ∧ cur.toList.take (R.length * 57) = rowsFlat R tvs := by
  rcases h with ⟨h, _⟩ | ⟨g', cap', cur, tvs, h1, h2, h3, h4, h5, h6, h7, h8, h9⟩
  · simp at h
  · simp only [Value.slice.injEq, Option.some.injEq, Addr.mk.injEq] at h1
    obtain ⟨⟨rfl, _⟩, rfl, rfl⟩ := h1
    exact ⟨cur, tvs, h5, h4, rfl, h8, h7⟩
theorem hd_lens {R : List RowC} (h : ∀ r ∈ R, RowOk r) : ∀ r ∈ R, r.hd.length = 56 := fun r hr => (h r hr).hd.length
theorem set_lens {R : List RowC} (h : ∀ r ∈ R, r.hd.length = 56) (i : Nat) (r : RowC) (hr : r.hd.length = 56) : ∀ x ∈ R.set i r, x.hd.length = 56 := fun x hx => by
  rcases List.mem_or_eq_of_mem_set hx with hx | rfl
  · exact h x hx
  · exact hr
theorem set_oks {R : List RowC} (h : ∀ r ∈ R, RowOk r) (i : Nat) (r : RowC) (hr : RowOk r) : ∀ x ∈ R.set i r, RowOk x := fun x hx => by
  rcases List.mem_or_eq_of_mem_set hx with hx | rfl
  · exact h x hx
  · exact hr
theorem lies1R {B : Nat} {w : World} {pa pm : Nat} {l t : Int} {sp : SpellC} {s : Int} {g n cap : Nat} {R : List RowC} (h : AskAt B w pa pm l t sp s (.slice (some ⟨g, 0, none⟩) n cap) R) (hl : 0 ≤ l ∧ l < 64) (hsd : (Lit.int .u64 sp.sd).wf = true) (bx : Nat)
    (hbx : Blk w bx #[.pointer (some ⟨pa, 0, none⟩)] 154) (i : Nat) (r : RowC) (hr : R[i]? = some r) :
    Calls Try.prog 134 #[.int .i64 i, .pointer (some ⟨g, i * 57 + 1, none⟩), .pointer (some ⟨bx, 0, none⟩)] w fun e w' => e = .returned (.tuple #[]) ∧ AskAt B w' pa pm l t sp s (.slice (some ⟨g, 0, none⟩) n cap) (R.set i (lieR l sp.sd i r)) ∧ Touch [g] w w' ∧ B ≤ g ∧ Blk w' bx #[.pointer (some ⟨pa, 0, none⟩)] 154 := by
  obtain ⟨cur, tvs, hg, hBg, hn, hl8, hl7⟩ := h.own.at
  obtain ⟨x, a, b, e1, e2, e3, f1, f2, f3⟩ := (h.ok r (List.mem_of_getElem? hr)).hd.ints
  have x1 := flat_at hl8 h.ok hl7 hr e1
  have x7 := flat_at hl8 h.ok hl7 hr e2
  have x13 := flat_at hl8 h.ok hl7 hr e3
  have hk := hd_lens h.ok
  have hr6 := hk r (List.mem_of_getElem? hr)
  have hil := (List.getElem?_eq_some_iff.1 hr).1
  have hok := h.ok r (List.mem_of_getElem? hr)
  by_cases hi : (i : Int) = l / 4
  · refine (lies1Yes h hl bx g (i * 57 + 1) cur hg x a b x1 x7 x13 hbx i (by simp [hi]) hsd).mono ?_
    rintro e w' ⟨rfl, q, rfl⟩
    have o1 := (h.own.keep (below_drewN w q) (Nat.le_refl _)).setC hk hr (j := 1) (by omega) (.int .i64 (IntKind.i64.wrap (x + sp.sd % 1000)))
    have o2 := o1.setC (set_lens hk i _ (by simpa using hr6)) (List.getElem?_set_self hil) (j := 7) (by omega) (.int .u32 (bits .xor .u32 a 1))
    have o3 := o2.setC (set_lens (set_lens hk i _ (by simpa using hr6)) i _ (by simpa using hr6)) (List.getElem?_set_self (by simpa using hil)) (j := 13) (by omega) (.int .u32 (bits .xor .u32 b 1))
    rw [List.set_set, List.set_set] at o3
    have er : lieR l sp.sd i r = ⟨((r.hd.set 1 (.int .i64 (IntKind.i64.wrap (x + sp.sd % 1000)))).set 7 (.int .u32 (bits .xor .u32 a 1))).set 13 (.int .u32 (bits .xor .u32 b 1)), r.tab⟩ := by
      unfold lieR lieH
      rw [if_pos hi, f1, f2, f3]
      rfl
    refine ⟨rfl, ⟨?_, by rw [er]; exact o3, h.le, h.sl, set_oks h.ok i _ (lieR_ok hok l sp.sd i)⟩, ?_, hBg, ?_⟩
    · have hn2 := h.blk.ne hg (by decide)
      exact (((h.blk.drewN q).setNe (a := ⟨g, _, none⟩) hn2 _).setNe (a := ⟨g, _, none⟩) hn2 _).setNe (a := ⟨g, _, none⟩) hn2 _
    · exact ((((Touch.refl [g] w).drewN q).setCell (p := ⟨g, _, none⟩) (.inl (by simp)) _).setCell (p := ⟨g, _, none⟩) (.inl (by simp)) _).setCell (p := ⟨g, _, none⟩) (.inl (by simp)) _
    · have hn2 := hbx.ne hg (by decide)
      exact (((hbx.drewN q).setNe (a := ⟨g, _, none⟩) hn2 _).setNe (a := ⟨g, _, none⟩) hn2 _).setNe (a := ⟨g, _, none⟩) hn2 _
  · refine (lies1Not h hl bx g (i * 57 + 1) cur hg x a b x1 x7 x13 hbx i (by simp [hi])).mono ?_
    rintro e w' ⟨rfl, rfl⟩
    have er : R.set i (lieR l sp.sd i r) = R := by
      unfold lieR
      rw [if_neg hi]
      exact List.ext_getElem? fun q => by
        by_cases e : q = i
        · subst e
          rw [List.getElem?_set_self hil, hr]
        · rw [List.getElem?_set_ne (fun e2 => e e2.symm)]
    rw [er]
    exact ⟨rfl, h, Touch.refl _ _, hBg, hbx⟩
theorem forges1R {B : Nat} {w : World} {pa pm : Nat} {l t : Int} {sp : SpellC} {s : Int} {g n cap : Nat} {R : List RowC} (h : AskAt B w pa pm l t sp s (.slice (some ⟨g, 0, none⟩) n cap) R) (hl : 0 ≤ l ∧ l < 64) (hsd : (Lit.int .u64 sp.sd).wf = true) (bx : Nat)
    (hbx : Blk w bx #[.pointer (some ⟨pa, 0, none⟩)] 154) (i : Nat) (r : RowC) (hr : R[i]? = some r) :
    Calls Try.prog 135 #[.int .i64 i, .pointer (some ⟨g, i * 57 + 1, none⟩), .pointer (some ⟨bx, 0, none⟩)] w fun e w' => e = .returned (.tuple #[]) ∧ AskAt B w' pa pm l t sp s (.slice (some ⟨g, 0, none⟩) n cap) (R.set i (forgeR l i r)) ∧ Touch [g] w w' ∧ B ≤ g ∧ Blk w' bx #[.pointer (some ⟨pa, 0, none⟩)] 154 := by
  obtain ⟨cur, tvs, hg, hBg, hn, hl8, hl7⟩ := h.own.at
  obtain ⟨x, a, b, e1, e2, e3, f1, f2, f3⟩ := (h.ok r (List.mem_of_getElem? hr)).hd.ints
  have x1 := flat_at hl8 h.ok hl7 hr e1
  have x7 := flat_at hl8 h.ok hl7 hr e2
  have x13 := flat_at hl8 h.ok hl7 hr e3
  have hk := hd_lens h.ok
  have hr6 := hk r (List.mem_of_getElem? hr)
  have hil := (List.getElem?_eq_some_iff.1 hr).1
  have hok := h.ok r (List.mem_of_getElem? hr)
  by_cases hi : (i : Int) = l / 4
  · refine (forges1Not h hl bx g (i * 57 + 1) cur hg x a b x1 x7 x13 hbx i hi).mono ?_
    rintro e w' ⟨rfl, rfl⟩
    have er : R.set i (forgeR l i r) = R := by
      unfold forgeR
      rw [if_pos hi]
      exact List.ext_getElem? fun q => by
        by_cases e : q = i
        · subst e
          rw [List.getElem?_set_self hil, hr]
        · rw [List.getElem?_set_ne (fun e2 => e e2.symm)]
    rw [er]
    exact ⟨rfl, h, Touch.refl _ _, hBg, hbx⟩
  · refine (forges1Yes h hl bx g (i * 57 + 1) cur hg x a b x1 x7 x13 hbx i hi).mono ?_
    rintro e w' ⟨rfl, rfl⟩
    have o1 := h.own.setC hk hr (j := 1) (by omega) (.int .i64 (IntKind.i64.wrap (x + 1)))
    have o3 := o1.setC (set_lens hk i _ (by simpa using hr6)) (List.getElem?_set_self hil) (j := 13) (by omega) (.int .u32 (bits .xor .u32 b 1))
    rw [List.set_set] at o3
    have er : forgeR l i r = ⟨(r.hd.set 1 (.int .i64 (IntKind.i64.wrap (x + 1)))).set 13 (.int .u32 (bits .xor .u32 b 1)), r.tab⟩ := by
      unfold forgeR forgeH
      rw [if_neg hi, f1, f3]
      rfl
    refine ⟨rfl, ⟨?_, by rw [er]; exact o3, h.le, h.sl, set_oks h.ok i _ (forgeR_ok hok l i)⟩, ?_, hBg, ?_⟩
    · have hn2 := h.blk.ne hg (by decide)
      exact (h.blk.setNe (a := ⟨g, _, none⟩) hn2 _).setNe (a := ⟨g, _, none⟩) hn2 _
    · exact ((Touch.refl [g] w).setCell (p := ⟨g, _, none⟩) (.inl (by simp)) _).setCell (p := ⟨g, _, none⟩) (.inl (by simp)) _
    · have hn2 := hbx.ne hg (by decide)
      exact (hbx.setNe (a := ⟨g, _, none⟩) hn2 _).setNe (a := ⟨g, _, none⟩) hn2 _
/-- The first i rows changed. -/
def chgTo (ch : Nat → RowC → RowC) (R : List RowC) (i : Nat) : List RowC := R.mapIdx fun j r => if j < i then ch j r else r
theorem chgTo_zero (ch : Nat → RowC → RowC) (R : List RowC) : chgTo ch R 0 = R := by
  unfold chgTo
  apply List.ext_getElem? 
  intro q
  simp
theorem chgTo_all (ch : Nat → RowC → RowC) (R : List RowC) : chgTo ch R R.length = R.mapIdx ch := by
  unfold chgTo
  apply List.ext_getElem?
  intro q
  simp only [List.getElem?_mapIdx]
  cases h : R[q]? with
  | none => rfl
  | some r =>
    have := (List.getElem?_eq_some_iff.1 h).1
    simp [this]
theorem chgTo_at (ch : Nat → RowC → RowC) (R : List RowC) (i : Nat) : (chgTo ch R i)[i]? = R[i]? := by
  unfold chgTo
  simp
theorem chgTo_length (ch : Nat → RowC → RowC) (R : List RowC) (i : Nat) : (chgTo ch R i).length = R.length := by simp [chgTo]
theorem chgTo_step (ch : Nat → RowC → RowC) (R : List RowC) (i : Nat) (r : RowC) (hr : R[i]? = some r) : (chgTo ch R i).set i (ch i r) = chgTo ch R (i + 1) := by
  have hil := (List.getElem?_eq_some_iff.1 hr).1
  apply List.ext_getElem?
  intro q
  by_cases e : q = i
  · subst e
    rw [List.getElem?_set_self (by rw [chgTo_length]; exact hil)]
    unfold chgTo
    simp [hr]
  · rw [List.getElem?_set_ne (fun e2 => e e2.symm)]
    unfold chgTo
    simp only [List.getElem?_mapIdx]
    have : (q < i + 1) ↔ q < i := by omega
    simp only [this]
end Go.Proofs.Ytmdohnbhogfopaa
/- each; lies; forges. -/
namespace Go.Proofs.Ytmdohnbhogfopaa
open Go.RowKit Go.Maps
set_option linter.unusedSimpArgs false
set_option linter.unusedVariables false
set_option maxRecDepth 100000
def InvEach (cl : FuncId) (ch : Nat → RowC → RowC) (B : Nat) (w : World) (pa pm : Nat) (l t : Int) (sp : SpellC) (s : Int) (v : Value) (R : List RowC) (bx br n : Nat) (k : Nat) (a : Act) (wr : World) : Prop :=
  ∃ i, i + k = n ∧ Hid (AskAt B wr pa pm l t sp s v (chgTo ch R i)) ∧ Hid (Below B w wr ∧ KeepU w wr) ∧ Hid (Blk wr bx #[.pointer (some ⟨pa, 0, none⟩)] 154) ∧ Hid (Blk wr br #[.int .u8 0, .slice none 0 0] 40) ∧
    a.tmps.size = 33 ∧ a.defers = [] ∧ slot a 0 = .pointer (some ⟨pa, 0, none⟩) ∧ slot a 1 = .func (.func cl) #[] #[.pointer (some ⟨bx, 0, none⟩)] ∧ slot a 4 = .pointer (some ⟨br, 0, none⟩) ∧ slot a 12 = .int .i64 n ∧ slot a 13 = .int .i64 i
theorem AskAt.below {B C : Nat} {w w' : World} {pa pm : Nat} {l t : Int} {sp : SpellC} {s : Int} {v : Value} {R : List RowC} (h : AskAt B w pa pm l t sp s v R) (hb : Below C w w') (hC : w.heap.size ≤ C) : AskAt B w' pa pm l t sp s v R :=
  ⟨h.blk.below hb (Nat.lt_of_lt_of_le h.blk.lt hC), h.own.keep hb hC, h.le, h.sl, h.ok⟩
set_option maxHeartbeats 4000000 in
theorem eachL {B : Nat} {w : World} {pa pm : Nat} {l t : Int} {sp : SpellC} {s : Int} {v : Value} {R : List RowC} (h : AskAt B w pa pm l t sp s v R) (hB : B ≤ w.heap.size) (hl : 0 ≤ l ∧ l < 64) (hsd : (Lit.int .u64 sp.sd).wf = true) (hn : R.length ≤ 1000000) (bx : Nat)
    (hbx : Blk w bx #[.pointer (some ⟨pa, 0, none⟩)] 154) :
    Calls Try.prog 133 #[.pointer (some ⟨pa, 0, none⟩), .func (.func 134) #[] #[.pointer (some ⟨bx, 0, none⟩)]] w fun e w' => PostR B w ⟨s, R.mapIdx (lieR l sp.sd)⟩ e w' := by
  have hvn : ∃ ao n cap, v = .slice ao n cap ∧ n = R.length ∧ ∀ (i : Nat) (r : RowC), R[i]? = some r → ∃ g, ao = some ⟨g, 0, none⟩ := by
    rcases h.own with ⟨rfl, rfl⟩ | ⟨g', cap', cur, tvs, rfl, h2, h3, h4, h5, h6, h7, h8, h9⟩
    · exact ⟨none, 0, 0, rfl, rfl, fun i r hr => by simp at hr⟩
    · exact ⟨_, _, _, rfl, rfl, fun i r hr => ⟨g', rfl⟩⟩
  obtain ⟨ao, n, cap, rfl, hnR, hg⟩ := hvn
  rw [← hnR] at hn
  have hsl := h.sl
  have h0 := Lib.hid (h.below (below_alloc w (.cells #[.int .u8 0, .slice none 0 0] 40)) (Nat.le_refl _))
  have hb0 : Hid (Below B w (w.alloc (.cells #[.int .u8 0, .slice none 0 0] 40)) ∧ KeepU w (w.alloc (.cells #[.int .u8 0, .slice none 0 0] 40))) := ⟨(below_alloc w _).mono hB, KeepU.of_below (below_alloc w _)⟩
  have hx0 := Lib.hid (hbx.alloc (.cells #[.int .u8 0, .slice none 0 0] 40))
  have hr0 := Lib.hid (Blk.new w #[.int .u8 0, .slice none 0 0] 40)
  have hbr : B ≤ w.heap.size := hB
  have hst : Hid (∀ (wr : World) (i : Nat) (r : RowC) (g : Nat), ao = some ⟨g, 0, none⟩ → AskAt B wr pa pm l t sp s (.slice (some ⟨g, 0, none⟩) n cap) (chgTo (lieR l sp.sd) R i) → Blk wr bx #[.pointer (some ⟨pa, 0, none⟩)] 154 → R[i]? = some r →
      Calls Try.prog 134 #[.int .i64 i, .pointer (some ⟨g, i * 57 + 1, none⟩), .pointer (some ⟨bx, 0, none⟩)] wr fun e w' => e = .returned (.tuple #[]) ∧ AskAt B w' pa pm l t sp s (.slice (some ⟨g, 0, none⟩) n cap) (chgTo (lieR l sp.sd) R (i + 1)) ∧ Touch [g] wr w' ∧ B ≤ g ∧ Blk w' bx #[.pointer (some ⟨pa, 0, none⟩)] 154 ∧ KeepU wr w') := by
    intro wr i r g _ hA hx hr
    refine (lies1R hA hl hsd bx hx i r (by rw [chgTo_at]; exact hr)).mono ?_
    rintro e w' ⟨rfl, h1, h2, h3, h4⟩
    rw [chgTo_step _ _ _ _ hr] at h1
    obtain ⟨cur, tvs, hgb, _⟩ := hA.own.at
    exact ⟨rfl, h1, h2, h3, h4, KeepU.of_touch h2 hgb (.inr rfl)⟩
  have hfin : Hid (∀ wr : World, AskAt B wr pa pm l t sp s (.slice ao n cap) (chgTo (lieR l sp.sd) R n) → Below B w wr ∧ KeepU w wr → ∀ w' : World, (∃ (br : Nat) (u : World), w.heap.size ≤ br ∧ Blk wr br #[.int .u8 0, .slice none 0 0] 40 ∧ w' = u ∧ Touch [br] wr u) → PostR B w ⟨s, R.mapIdx (lieR l sp.sd)⟩ (.returned (.agg #[.int .u8 s, .slice ao n cap])) w') := by
    intro wr hA hb w' hw'
    have e : chgTo (lieR l sp.sd) R n = R.mapIdx (lieR l sp.sd) := by rw [hnR, chgTo_all]
    rw [e] at hA
    obtain ⟨br, u, hbr, hbk, rfl, hT⟩ := hw'
    refine ⟨_, rfl, hA.own.blk (fun g c U hU hg => hg.touch hT (by
        simp only [List.mem_singleton]
        rcases hU with rfl | rfl
        · exact hg.ne hbk (by decide)
        · exact hg.ne hbk (by decide))), hT.below hb.1 (Nat.le_trans hB hb.1.size) (by simp; omega), fun b c U hc h1 h2 => (hb.2 b c U hc h1 h2).touch hT (by
      have := hc.lt
      simp
      omega)⟩
  replace hg := Lib.hid hg
  replace hnR := Lib.hid hnR
  obtain ⟨c0, c1, c2, c3, c6, c7, c8, c9, lt⟩ := askCells h
  clear h hbx hsd
  go_enter Try.func133, Try.ntmps133
  go_wp2_with fail
  refine wp_loop_k (InvEach 134 (lieR l sp.sd) B w pa pm l t sp s (.slice ao n cap) R bx w.heap.size n) n ?_ ?_
  · refine ⟨0, by omega, ?_, hb0, hx0, hr0, by kernel_rfl, rfl, by kernel_rfl, by kernel_rfl, by kernel_rfl, by kernel_rfl, by kernel_rfl⟩
    rw [chgTo_zero]
    exact h0
  clear h0 hb0 hx0 hr0 c0 c1 c2 c3 c6 c7 c8 c9 lt
  intro gk a wr hI K hK
  obtain ⟨i, hi0, hA, hb, hx, hr, hs', hd', k0', k1', k4', k12', k13'⟩ := hI
  rw [fr33 a hs' hd']; simp only [k0', k1', k4', k12', k13']; clear hs' hd' k0' k1' k4' k12' k13'
  obtain ⟨c0, c1, c2, c3, c6, c7, c8, c9, lt⟩ := askCells hA.out
  by_cases hlt : i < n
  · have g1 : decide ((i : Int) < (n : Int)) = true := by simp; omega
    have g2 : (i : Int) < (n : Int) := by omega
    have g3 : IntKind.i64.wrap ((i : Int) + 1) = ((i + 1 : Nat) : Int) := by rw [wrap_i64_small _ (by omega) (by omega)]; omega
    obtain ⟨r, hri⟩ : ∃ r, R[i]? = some r := ⟨_, List.getElem?_eq_getElem (by have := hnR.out; omega)⟩
    obtain ⟨g, rfl⟩ := hg.out i r hri
    have hC := Lib.hid (hst.out wr i r g rfl hA.out hx.out hri)
    replace hri := Lib.hid hri
    go_wp2_with fail
    refine hC.out.mono ?_
    rintro e w7 ⟨rfl, hA7, hT7, hBg, hx7, hr7⟩
    have hr7' := Lib.hid (hr7 _ _ _ hr.out (by decide) (by decide))
    have hb7 : Hid (Below B w w7 ∧ KeepU w w7) := ⟨hT7.below hb.out.1 (Nat.le_trans hB hb.out.1.size) (by simpa using hBg), hb.out.2.trans hr7⟩
    replace hA7 := Lib.hid hA7
    replace hx7 := Lib.hid hx7
    clear hT7 hr7 hC hA hb hx hr c0 c1 c2 c3 c6 c7 c8 c9 lt
    go_wp2_with fail
    exact hK (n - (i + 1)) _ _ (by omega) ⟨i + 1, by omega, hA7, hb7, hx7, hr7', by kernel_rfl, rfl, by kernel_rfl, by kernel_rfl, by kernel_rfl, by kernel_rfl, by kernel_rfl⟩
  have g1 : decide ((i : Int) < (n : Int)) = false := by simp; omega
  have g2 : ¬ (i : Int) < (n : Int) := by omega
  obtain rfl : i = n := by omega
  have r0 := hr.out.cell (i := 0) rfl
  have r1 := hr.out.cell (i := 1) rfl
  have rf := hr.out.free
  have rl := hr.out.lt
  go_wp2_with fail
  exact postRet 4 (by kernel_rfl) w.heap.size s _ rfl (((hr.out.set 0 (.int .u8 s)).set 1 (.slice ao i cap)).congr rfl) rfl (hfin.out wr hA.out hb.out _ ⟨w.heap.size, _, Nat.le_refl _, hr.out, rfl, ((Touch.refl [w.heap.size] wr).setCell (p := ⟨w.heap.size, 0, none⟩) (.inl (by simp)) _).setCell (p := ⟨w.heap.size, 1, none⟩) (.inl (by simp)) _⟩)
set_option maxHeartbeats 4000000 in
theorem eachF {B : Nat} {w : World} {pa pm : Nat} {l t : Int} {sp : SpellC} {s : Int} {v : Value} {R : List RowC} (h : AskAt B w pa pm l t sp s v R) (hB : B ≤ w.heap.size) (hl : 0 ≤ l ∧ l < 64) (hsd : (Lit.int .u64 sp.sd).wf = true) (hn : R.length ≤ 1000000) (bx : Nat)
    (hbx : Blk w bx #[.pointer (some ⟨pa, 0, none⟩)] 154) :
    Calls Try.prog 133 #[.pointer (some ⟨pa, 0, none⟩), .func (.func 135) #[] #[.pointer (some ⟨bx, 0, none⟩)]] w fun e w' => PostR B w ⟨s, R.mapIdx (forgeR l)⟩ e w' := by
  have hvn : ∃ ao n cap, v = .slice ao n cap ∧ n = R.length ∧ ∀ (i : Nat) (r : RowC), R[i]? = some r → ∃ g, ao = some ⟨g, 0, none⟩ := by
    rcases h.own with ⟨rfl, rfl⟩ | ⟨g', cap', cur, tvs, rfl, h2, h3, h4, h5, h6, h7, h8, h9⟩
    · exact ⟨none, 0, 0, rfl, rfl, fun i r hr => by simp at hr⟩
    · exact ⟨_, _, _, rfl, rfl, fun i r hr => ⟨g', rfl⟩⟩
  obtain ⟨ao, n, cap, rfl, hnR, hg⟩ := hvn
  rw [← hnR] at hn
  have hsl := h.sl
  have h0 := Lib.hid (h.below (below_alloc w (.cells #[.int .u8 0, .slice none 0 0] 40)) (Nat.le_refl _))
  have hb0 : Hid (Below B w (w.alloc (.cells #[.int .u8 0, .slice none 0 0] 40)) ∧ KeepU w (w.alloc (.cells #[.int .u8 0, .slice none 0 0] 40))) := ⟨(below_alloc w _).mono hB, KeepU.of_below (below_alloc w _)⟩
  have hx0 := Lib.hid (hbx.alloc (.cells #[.int .u8 0, .slice none 0 0] 40))
  have hr0 := Lib.hid (Blk.new w #[.int .u8 0, .slice none 0 0] 40)
  have hbr : B ≤ w.heap.size := hB
  have hst : Hid (∀ (wr : World) (i : Nat) (r : RowC) (g : Nat), ao = some ⟨g, 0, none⟩ → AskAt B wr pa pm l t sp s (.slice (some ⟨g, 0, none⟩) n cap) (chgTo (forgeR l) R i) → Blk wr bx #[.pointer (some ⟨pa, 0, none⟩)] 154 → R[i]? = some r →
      Calls Try.prog 135 #[.int .i64 i, .pointer (some ⟨g, i * 57 + 1, none⟩), .pointer (some ⟨bx, 0, none⟩)] wr fun e w' => e = .returned (.tuple #[]) ∧ AskAt B w' pa pm l t sp s (.slice (some ⟨g, 0, none⟩) n cap) (chgTo (forgeR l) R (i + 1)) ∧ Touch [g] wr w' ∧ B ≤ g ∧ Blk w' bx #[.pointer (some ⟨pa, 0, none⟩)] 154 ∧ KeepU wr w') := by
    intro wr i r g _ hA hx hr
    refine (forges1R hA hl hsd bx hx i r (by rw [chgTo_at]; exact hr)).mono ?_
    rintro e w' ⟨rfl, h1, h2, h3, h4⟩
    rw [chgTo_step _ _ _ _ hr] at h1
    obtain ⟨cur, tvs, hgb, _⟩ := hA.own.at
    exact ⟨rfl, h1, h2, h3, h4, KeepU.of_touch h2 hgb (.inr rfl)⟩
  have hfin : Hid (∀ wr : World, AskAt B wr pa pm l t sp s (.slice ao n cap) (chgTo (forgeR l) R n) → Below B w wr ∧ KeepU w wr → ∀ w' : World, (∃ (br : Nat) (u : World), w.heap.size ≤ br ∧ Blk wr br #[.int .u8 0, .slice none 0 0] 40 ∧ w' = u ∧ Touch [br] wr u) → PostR B w ⟨s, R.mapIdx (forgeR l)⟩ (.returned (.agg #[.int .u8 s, .slice ao n cap])) w') := by
    intro wr hA hb w' hw'
    have e : chgTo (forgeR l) R n = R.mapIdx (forgeR l) := by rw [hnR, chgTo_all]
    rw [e] at hA
    obtain ⟨br, u, hbr, hbk, rfl, hT⟩ := hw'
    refine ⟨_, rfl, hA.own.blk (fun g c U hU hg => hg.touch hT (by
        simp only [List.mem_singleton]
        rcases hU with rfl | rfl
        · exact hg.ne hbk (by decide)
        · exact hg.ne hbk (by decide))), hT.below hb.1 (Nat.le_trans hB hb.1.size) (by simp; omega), fun b c U hc h1 h2 => (hb.2 b c U hc h1 h2).touch hT (by
      have := hc.lt
      simp
      omega)⟩
  replace hg := Lib.hid hg
  replace hnR := Lib.hid hnR
  obtain ⟨c0, c1, c2, c3, c6, c7, c8, c9, lt⟩ := askCells h
  clear h hbx hsd
  go_enter Try.func133, Try.ntmps133
  go_wp2_with fail
  refine wp_loop_k (InvEach 135 (forgeR l) B w pa pm l t sp s (.slice ao n cap) R bx w.heap.size n) n ?_ ?_
  · refine ⟨0, by omega, ?_, hb0, hx0, hr0, by kernel_rfl, rfl, by kernel_rfl, by kernel_rfl, by kernel_rfl, by kernel_rfl, by kernel_rfl⟩
    rw [chgTo_zero]
    exact h0
  clear h0 hb0 hx0 hr0 c0 c1 c2 c3 c6 c7 c8 c9 lt
  intro gk a wr hI K hK
  obtain ⟨i, hi0, hA, hb, hx, hr, hs', hd', k0', k1', k4', k12', k13'⟩ := hI
  rw [fr33 a hs' hd']; simp only [k0', k1', k4', k12', k13']; clear hs' hd' k0' k1' k4' k12' k13'
  obtain ⟨c0, c1, c2, c3, c6, c7, c8, c9, lt⟩ := askCells hA.out
  by_cases hlt : i < n
  · have g1 : decide ((i : Int) < (n : Int)) = true := by simp; omega
    have g2 : (i : Int) < (n : Int) := by omega
    have g3 : IntKind.i64.wrap ((i : Int) + 1) = ((i + 1 : Nat) : Int) := by rw [wrap_i64_small _ (by omega) (by omega)]; omega
    obtain ⟨r, hri⟩ : ∃ r, R[i]? = some r := ⟨_, List.getElem?_eq_getElem (by have := hnR.out; omega)⟩
    obtain ⟨g, rfl⟩ := hg.out i r hri
    have hC := Lib.hid (hst.out wr i r g rfl hA.out hx.out hri)
    replace hri := Lib.hid hri
    go_wp2_with fail
    refine hC.out.mono ?_
    rintro e w7 ⟨rfl, hA7, hT7, hBg, hx7, hr7⟩
    have hr7' := Lib.hid (hr7 _ _ _ hr.out (by decide) (by decide))
    have hb7 : Hid (Below B w w7 ∧ KeepU w w7) := ⟨hT7.below hb.out.1 (Nat.le_trans hB hb.out.1.size) (by simpa using hBg), hb.out.2.trans hr7⟩
    replace hA7 := Lib.hid hA7
    replace hx7 := Lib.hid hx7
    clear hT7 hr7 hC hA hb hx hr c0 c1 c2 c3 c6 c7 c8 c9 lt
    go_wp2_with fail
    exact hK (n - (i + 1)) _ _ (by omega) ⟨i + 1, by omega, hA7, hb7, hx7, hr7', by kernel_rfl, rfl, by kernel_rfl, by kernel_rfl, by kernel_rfl, by kernel_rfl, by kernel_rfl⟩
  have g1 : decide ((i : Int) < (n : Int)) = false := by simp; omega
  have g2 : ¬ (i : Int) < (n : Int) := by omega
  obtain rfl : i = n := by omega
  have r0 := hr.out.cell (i := 0) rfl
  have r1 := hr.out.cell (i := 1) rfl
  have rf := hr.out.free
  have rl := hr.out.lt
  go_wp2_with fail
  exact postRet 4 (by kernel_rfl) w.heap.size s _ rfl (((hr.out.set 0 (.int .u8 s)).set 1 (.slice ao i cap)).congr rfl) rfl (hfin.out wr hA.out hb.out _ ⟨w.heap.size, _, Nat.le_refl _, hr.out, rfl, ((Touch.refl [w.heap.size] wr).setCell (p := ⟨w.heap.size, 0, none⟩) (.inl (by simp)) _).setCell (p := ⟨w.heap.size, 1, none⟩) (.inl (by simp)) _⟩)
end Go.Proofs.Ytmdohnbhogfopaa
