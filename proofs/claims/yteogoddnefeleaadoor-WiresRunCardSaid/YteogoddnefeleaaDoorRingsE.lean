/- Rings: the document's Ends, Link, Source. -/
import Derived.Test.YteogoddnefeleaaDoorRingsD
namespace Go.Proofs.YteogoddnefeleaaDoor
open Go.RowKit
set_option linter.unusedSimpArgs false
set_option linter.unusedVariables false
set_option maxRecDepth 100000
def Past (x m : Int) : Prop := x < 0 ∨ m ≤ x
def InvE1 (w : World) (N : Nat) (x : Int) (k : Nat) (a : Act) (wr : World) : Prop :=
  ∃ i : Nat, i + k = N ∧ wr = w ∧ Past x (4 * i) ∧ a.tmps.size = 44 ∧ a.defers = [] ∧ slot a 0 = .int .i64 N ∧ slot a 1 = .int .i64 x ∧ slot a 8 = .int .i64 (4 * i) ∧ slot a 9 = .int .i64 i
def InvE2 (w : World) (N i : Nat) (x : Int) (k : Nat) (a : Act) (wr : World) : Prop :=
  ∃ d : Nat, d + k = 2 ∧ wr = w ∧ Past x (4 * i + 2 * d) ∧ a.tmps.size = 44 ∧ a.defers = [] ∧ slot a 0 = .int .i64 N ∧ slot a 1 = .int .i64 x ∧ slot a 8 = .int .i64 (4 * i + 2 * d) ∧ slot a 9 = .int .i64 i ∧ slot a 10 = .int .u8 d
def InvE3 (w : World) (N i d : Nat) (x : Int) (k : Nat) (a : Act) (wr : World) : Prop :=
  ∃ h : Nat, h + k = 2 ∧ wr = w ∧ Past x (4 * i + 2 * d + h) ∧ a.tmps.size = 44 ∧ a.defers = [] ∧ slot a 0 = .int .i64 N ∧ slot a 1 = .int .i64 x ∧ slot a 8 = .int .i64 (4 * i + 2 * d + h) ∧ slot a 9 = .int .i64 i ∧ slot a 10 = .int .u8 d ∧ slot a 11 = .int .i64 (h + 1)
set_option maxHeartbeats 1000000 in
theorem refEnds (w : World) (n x : Int) : Calls Tryd.prog 21 #[.int .i64 n, .int .i64 x] w fun e w' => e = .returned (endsV n x) ∧ w = w' := by
  by_cases h4 : n < 4
  · have hr := Lib.hid (endsV_bad (n := n) (k := x) (by simp [okE, okR]; omega))
    go_enter Tryd.func21, Tryd.ntmps21
    go_wp2
    refine bodyPost_ret (v := .tuple #[.int .i64 (-1), .int .i64 (-1), .int .u8 0, .int .i64 0]) (by simp [results, Tryd.results21, go_sem]) rfl ⟨by rw [hr.out], rfl⟩
  · by_cases h16 : 16 < n
    · have hr := Lib.hid (endsV_bad (n := n) (k := x) (by simp [okE, okR]; omega))
      have g1 : decide (n < 4) = false := by simp <;> omega
      clear h4
      go_enter Tryd.func21, Tryd.ntmps21
      go_wp2
      refine bodyPost_ret (v := .tuple #[.int .i64 (-1), .int .i64 (-1), .int .u8 0, .int .i64 0]) (by simp [results, Tryd.results21, go_sem]) rfl ⟨by rw [hr.out], rfl⟩
    · have g1 : decide (n < 4) = false := by simp <;> omega
      have g2 : decide (16 < n) = false := by simp <;> omega
      obtain ⟨N, rfl⟩ : ∃ N : Nat, n = N := ⟨n.toNat, by omega⟩
      have hN : 4 ≤ N ∧ N ≤ 16 := by omega
      have hr := Lib.hid (fun h => endsV_bad (n := (N : Int)) (k := x) h)
      clear h4 h16
      go_enter Tryd.func21, Tryd.ntmps21
      go_wp2
      refine wp_loop_k (InvE1 w N x) N ?_ ?_
      · exact ⟨0, by omega, rfl, by unfold Past; omega, by kernel_rfl, rfl, by kernel_rfl, by kernel_rfl, by kernel_rfl, by kernel_rfl⟩
      · clear g1 g2
        intro gk1 a wr hI K1 hK1
        obtain ⟨i, hi, rfl, hp, hs', hd', k0', k1', k8', k9'⟩ := hI
        rw [fr44 a hs' hd']; simp only [k0', k1', k8', k9']; clear hs' hd' k0' k1' k8' k9'
        by_cases hlt : i < N
        · have g1 : decide ((i : Int) < (N : Int)) = true := by simp; omega
          replace hp := Lib.hid hp
          go_wp2
          refine wp_loop_k (InvE2 wr N i x) 2 ?_ ?_
          · exact ⟨0, by omega, rfl, by have := hp.out; unfold Past at this ⊢; omega, by kernel_rfl, rfl, by kernel_rfl, by kernel_rfl, by kernel_rfl, by kernel_rfl, by kernel_rfl⟩
          · clear g1 hp
            intro gk2 a wr' hI K2 hK2
            obtain ⟨d, hd, rfl, hp, hs', hd', k0', k1', k8', k9', k10'⟩ := hI
            rw [fr44 a hs' hd']; simp only [k0', k1', k8', k9', k10']; clear hs' hd' k0' k1' k8' k9' k10'
            by_cases hltd : d < 2
            · have g1 : decide ((d : Int) ≤ 1) = true := by simp; omega
              have gd : IntKind.u8.wrap ((d : Int) + 1) = ((d + 1 : Nat) : Int) := by rw [IntKind.wrap_u8]; omega
              replace hp := Lib.hid hp
              go_wp2
              refine wp_loop_k (InvE3 wr' N i d x) 2 ?_ ?_
              · exact ⟨0, by omega, rfl, by have := hp.out; unfold Past at this ⊢; omega, by kernel_rfl, rfl, by kernel_rfl, by kernel_rfl, by show Value.int _ _ = Value.int _ _; simp, by kernel_rfl, by kernel_rfl, by kernel_rfl⟩
              · clear g1 hp
                intro gk3 a wr'' hI K3 hK3
                obtain ⟨h, hh, rfl, hp, hs', hd', k0', k1', k8', k9', k10', k11'⟩ := hI
                rw [fr44 a hs' hd']; simp only [k0', k1', k8', k9', k10', k11']; clear hs' hd' k0' k1' k8' k9' k10' k11'
                by_cases hlth : h < 2
                · have g1 : decide ((h : Int) + 1 ≤ 2) = true := by simp; omega
                  have gh : IntKind.i64.wrap ((h : Int) + 1 + 1) = ((h + 1 : Nat) : Int) + 1 := wrap_near _ (by omega) (by omega)
                  have gk : IntKind.i64.wrap (4 * (i : Int) + 2 * d + h + 1) = 4 * (i : Int) + 2 * d + ((h + 1 : Nat) : Int) := by rw [wrap_near _ (by omega) (by omega)]; omega
                  by_cases hx : 4 * (i : Int) + 2 * d + h = x
                  · have g2 : (4 * (i : Int) + 2 * d + h == x) = true := by simp [hx]
                    have he : okE N x = true := by simp [okE, okR]; omega
                    have q1 : x / 4 = i := by omega
                    have q2 : x % 4 / 2 = d := by omega
                    have q3 : x % 2 + 1 = h + 1 := by omega
                    have hv := Lib.hid (show endsV N x = .tuple #[.int .i64 i, .int .i64 (stepI N d i (h + 1)), .int .u8 d, .int .i64 (h + 1)] by simp [endsV, endF, endT, endD, endH, he, q1, q2, q3])
                    clear hx he q1 q2 q3
                    go_wp2_with fail
                    refine (refStep _ _ _ _ _ (by omega)).mono ?_
                    rintro e _ ⟨rfl, rfl⟩
                    go_wp2
                    refine bodyPost_ret (v := .tuple #[.int .i64 i, .int .i64 (stepI N d i (h + 1)), .int .u8 d, .int .i64 (h + 1)]) (by simp [results, Tryd.results21, go_sem]) rfl ⟨by rw [hv.out], rfl⟩
                  · have g2 : (4 * (i : Int) + 2 * d + h == x) = false := by simp [hx]
                    have hp2 := Lib.hid (show Past x (4 * i + 2 * d + (h + 1 : Nat)) by unfold Past at hp ⊢; omega)
                    clear hx hp
                    go_wp2
                    refine hK3 (2 - (h + 1)) _ _ (by omega) ⟨h + 1, by omega, rfl, hp2.out, by kernel_rfl, rfl, by kernel_rfl, by kernel_rfl, by kernel_rfl, by kernel_rfl, by kernel_rfl, by kernel_rfl⟩
                · obtain rfl : h = 2 := by omega
                  have g1 : decide ((2 : Int) + 1 ≤ 2) = false := by decide
                  have hp2 := Lib.hid (show Past x (4 * i + 2 * (d + 1 : Nat)) by unfold Past at hp ⊢; omega)
                  clear hp
                  go_wp2
                  refine hK2 (2 - (d + 1)) _ _ (by omega) ⟨d + 1, by omega, rfl, hp2.out, by kernel_rfl, rfl, by kernel_rfl, by kernel_rfl, ?_, by kernel_rfl, by kernel_rfl⟩
                  show Value.int _ _ = Value.int _ _
                  congr 1
            · obtain rfl : d = 2 := by omega
              have g1 : decide ((2 : Int) ≤ 1) = false := by decide
              have gi : IntKind.i64.wrap ((i : Int) + 1) = ((i + 1 : Nat) : Int) := wrap_near _ (by omega) (by omega)
              have hp2 := Lib.hid (show Past x (4 * (i + 1 : Nat)) by unfold Past at hp ⊢; omega)
              clear hp
              go_wp2
              refine hK1 (N - (i + 1)) _ _ (by omega) ⟨i + 1, by omega, rfl, hp2.out, by kernel_rfl, rfl, by kernel_rfl, by kernel_rfl, ?_, by kernel_rfl⟩
              show Value.int _ _ = Value.int _ _
              congr 1
        · obtain rfl : i = N := by omega
          have g1 : decide ((i : Int) < (i : Int)) = false := by simp
          have hv := Lib.hid (hr.out (by unfold Past at hp; simp [okE, okR]; omega))
          clear hp
          go_wp2
          refine bodyPost_ret (v := .tuple #[.int .i64 (-1), .int .i64 (-1), .int .u8 0, .int .i64 0]) (by simp [results, Tryd.results21, go_sem]) rfl ⟨by rw [hv.out], rfl⟩
def Later (x m : Int) : Prop := x = -1 ∨ m ≤ x
def InvLink (w : World) (n d i h : Int) (k : Nat) (a : Act) (wr : World) : Prop :=
  ∃ m : Nat, m + k = 64 ∧ wr = w ∧ Later (linkI n d i h) m ∧ a.tmps.size = 44 ∧ a.defers = [] ∧ slot a 0 = .int .i64 n ∧ slot a 1 = .int .u8 d ∧ slot a 2 = .int .i64 i ∧ slot a 3 = .int .i64 h ∧ slot a 9 = .int .i64 m
set_option maxHeartbeats 1000000 in
theorem refLink (w : World) (n d i h : Int) (hd : 0 ≤ d) : Calls Tryd.prog 25 #[.int .i64 n, .int .u8 d, .int .i64 i, .int .i64 h] w fun e w' => e = .returned (.int .i64 (linkI n d i h)) ∧ w = w' := by
  go_enter Tryd.func25, Tryd.ntmps25
  go_wp2
  refine wp_loop_k (InvLink w n d i h) 64 ?_ ?_
  · exact ⟨0, by omega, rfl, by have := linkI_range (n := n) (i := i) (h := h) hd; unfold Later; omega, by kernel_rfl, rfl, by kernel_rfl, by kernel_rfl, by kernel_rfl, by kernel_rfl, by kernel_rfl⟩
  · intro gk a wr hI K hK
    obtain ⟨m, hm, rfl, hl, hs', hd', k0', k1', k2', k3', k9'⟩ := hI
    rw [fr44 a hs' hd']; simp only [k0', k1', k2', k3', k9']; clear hs' hd' k0' k1' k2' k3' k9'
    by_cases hlt : m < 64
    · have g1 : decide ((m : Int) < 64) = true := by simp <;> omega
      have gK : IntKind.i64.wrap ((m : Int) + 1) = ((m + 1 : Nat) : Int) := wrap_near _ (by omega) (by omega)
      have hx0 : True := trivial
      by_cases hc0 : endF n m ≥ 0
      · have c0 : decide (0 ≤ endF n m) = true := by simp; omega
        by_cases hc1 : endF n m = i
        · have c1 : (endF n m == i) = true := by simp [hc1]
          by_cases hc2 : endD n m = d
          · have c2 : (endD n m == d) = true := by simp [hc2]
            by_cases hc3 : endH n m = h
            · have c3 : (endH n m == h) = true := by simp [hc3]
              have hv := Lib.hid (show linkI n d i h = m from (linkI_iff hd (by omega)).2 ⟨hc0, hc1, hc2, hc3⟩)
              clear hl hc0 hc1 hc2 hc3
              go_wp2_with fail
              refine (refEnds _ _ _).mono ?_
              rintro e _ ⟨rfl, rfl⟩
              go_wp2
              go_ret
              exact ⟨by rw [hv.out]; rfl, rfl⟩
            · have c3 : (endH n m == h) = false := by simp [hc3]
              have hl2 := Lib.hid (show Later (linkI n d i h) (m + 1 : Nat) by
                have := linkI_iff (n := n) (i := i) (h := h) hd (show (0 : Int) ≤ m by omega)
                unfold Later at hl ⊢
                rcases hl with hl | hl
                · exact .inl hl
                · by_cases he : linkI n d i h = m
                  · exact absurd (this.1 he).2.2.2 hc3
                  · right
                    omega)
              clear hl hc0 hc1 hc2 hc3
              go_wp2_with fail
              refine (refEnds _ _ _).mono ?_
              rintro e _ ⟨rfl, rfl⟩
              go_wp2
              exact hK (64 - (m + 1)) _ _ (by omega) ⟨m + 1, by omega, rfl, hl2.out, by kernel_rfl, rfl, by kernel_rfl, by kernel_rfl, by kernel_rfl, by kernel_rfl, by kernel_rfl⟩
          · have c2 : (endD n m == d) = false := by simp [hc2]
            have hl2 := Lib.hid (show Later (linkI n d i h) (m + 1 : Nat) by
              have := linkI_iff (n := n) (i := i) (h := h) hd (show (0 : Int) ≤ m by omega)
              unfold Later at hl ⊢
              rcases hl with hl | hl
              · exact .inl hl
              · by_cases he : linkI n d i h = m
                · exact absurd (this.1 he).2.2.1 hc2
                · right
                  omega)
            clear hl hc0 hc1 hc2
            go_wp2_with fail
            refine (refEnds _ _ _).mono ?_
            rintro e _ ⟨rfl, rfl⟩
            go_wp2
            exact hK (64 - (m + 1)) _ _ (by omega) ⟨m + 1, by omega, rfl, hl2.out, by kernel_rfl, rfl, by kernel_rfl, by kernel_rfl, by kernel_rfl, by kernel_rfl, by kernel_rfl⟩
        · have c1 : (endF n m == i) = false := by simp [hc1]
          have hl2 := Lib.hid (show Later (linkI n d i h) (m + 1 : Nat) by
            have := linkI_iff (n := n) (i := i) (h := h) hd (show (0 : Int) ≤ m by omega)
            unfold Later at hl ⊢
            rcases hl with hl | hl
            · exact .inl hl
            · by_cases he : linkI n d i h = m
              · exact absurd (this.1 he).2.1 hc1
              · right
                omega)
          clear hl hc0 hc1
          go_wp2_with fail
          refine (refEnds _ _ _).mono ?_
          rintro e _ ⟨rfl, rfl⟩
          go_wp2
          exact hK (64 - (m + 1)) _ _ (by omega) ⟨m + 1, by omega, rfl, hl2.out, by kernel_rfl, rfl, by kernel_rfl, by kernel_rfl, by kernel_rfl, by kernel_rfl, by kernel_rfl⟩
      · have c0 : decide (0 ≤ endF n m) = false := by simp; omega
        have hl2 := Lib.hid (show Later (linkI n d i h) (m + 1 : Nat) by
          have := linkI_iff (n := n) (i := i) (h := h) hd (show (0 : Int) ≤ m by omega)
          unfold Later at hl ⊢
          rcases hl with hl | hl
          · exact .inl hl
          · by_cases he : linkI n d i h = m
            · exact absurd (this.1 he).1 hc0
            · right
              omega)
        clear hl hc0
        go_wp2_with fail
        refine (refEnds _ _ _).mono ?_
        rintro e _ ⟨rfl, rfl⟩
        go_wp2
        exact hK (64 - (m + 1)) _ _ (by omega) ⟨m + 1, by omega, rfl, hl2.out, by kernel_rfl, rfl, by kernel_rfl, by kernel_rfl, by kernel_rfl, by kernel_rfl, by kernel_rfl⟩
    · obtain rfl : m = 64 := by omega
      have hv := Lib.hid (show linkI n d i h = -1 by have := linkI_range (n := n) (i := i) (h := h) hd; unfold Later at hl; omega)
      clear hl
      go_wp2
      go_ret
      exact ⟨by rw [hv.out]; rfl, rfl⟩
def InvSource (w : World) (n d i h : Int) (k : Nat) (a : Act) (wr : World) : Prop :=
  ∃ m : Nat, m + k = 64 ∧ wr = w ∧ Later (srcK n d i h) m ∧ a.tmps.size = 44 ∧ a.defers = [] ∧ slot a 0 = .int .i64 n ∧ slot a 1 = .int .u8 d ∧ slot a 2 = .int .i64 i ∧ slot a 3 = .int .i64 h ∧ slot a 9 = .int .i64 m
set_option maxHeartbeats 1000000 in
theorem refSource (w : World) (n d i h : Int) (hd : 0 ≤ d) : Calls Tryd.prog 23 #[.int .i64 n, .int .u8 d, .int .i64 i, .int .i64 h] w fun e w' => e = .returned (.int .i64 (srcI n d i h)) ∧ w = w' := by
  go_enter Tryd.func23, Tryd.ntmps23
  go_wp2
  refine wp_loop_k (InvSource w n d i h) 64 ?_ ?_
  · exact ⟨0, by omega, rfl, by have := srcK_range (n := n) (i := i) (h := h) hd; unfold Later; omega, by kernel_rfl, rfl, by kernel_rfl, by kernel_rfl, by kernel_rfl, by kernel_rfl, by kernel_rfl⟩
  · intro gk a wr hI K hK
    obtain ⟨m, hm, rfl, hl, hs', hd', k0', k1', k2', k3', k9'⟩ := hI
    rw [fr44 a hs' hd']; simp only [k0', k1', k2', k3', k9']; clear hs' hd' k0' k1' k2' k3' k9'
    by_cases hlt : m < 64
    · have g1 : decide ((m : Int) < 64) = true := by simp <;> omega
      have gK : IntKind.i64.wrap ((m : Int) + 1) = ((m + 1 : Nat) : Int) := wrap_near _ (by omega) (by omega)
      have hx0 : True := trivial
      by_cases hc0 : endF n m ≥ 0
      · have c0 : decide (0 ≤ endF n m) = true := by simp; omega
        by_cases hc1 : endT n m = i
        · have c1 : (endT n m == i) = true := by simp [hc1]
          by_cases hc2 : endD n m = d
          · have c2 : (endD n m == d) = true := by simp [hc2]
            by_cases hc3 : endH n m = h
            · have c3 : (endH n m == h) = true := by simp [hc3]
              have hv := Lib.hid (srcI_of_srcK hd (by omega) ((srcK_iff hd (by omega)).2 ⟨hc0, hc1, hc2, hc3⟩))
              clear hl hc0 hc1 hc2 hc3
              go_wp2_with fail
              refine (refEnds _ _ _).mono ?_
              rintro e _ ⟨rfl, rfl⟩
              go_wp2
              go_ret
              exact ⟨by rw [hv.out]; rfl, rfl⟩
            · have c3 : (endH n m == h) = false := by simp [hc3]
              have hl2 := Lib.hid (show Later (srcK n d i h) (m + 1 : Nat) by
                have := srcK_iff (n := n) (i := i) (h := h) hd (show (0 : Int) ≤ m by omega)
                unfold Later at hl ⊢
                rcases hl with hl | hl
                · exact .inl hl
                · by_cases he : srcK n d i h = m
                  · exact absurd (this.1 he).2.2.2 hc3
                  · right
                    omega)
              clear hl hc0 hc1 hc2 hc3
              go_wp2_with fail
              refine (refEnds _ _ _).mono ?_
              rintro e _ ⟨rfl, rfl⟩
              go_wp2
              exact hK (64 - (m + 1)) _ _ (by omega) ⟨m + 1, by omega, rfl, hl2.out, by kernel_rfl, rfl, by kernel_rfl, by kernel_rfl, by kernel_rfl, by kernel_rfl, by kernel_rfl⟩
          · have c2 : (endD n m == d) = false := by simp [hc2]
            have hl2 := Lib.hid (show Later (srcK n d i h) (m + 1 : Nat) by
              have := srcK_iff (n := n) (i := i) (h := h) hd (show (0 : Int) ≤ m by omega)
              unfold Later at hl ⊢
              rcases hl with hl | hl
              · exact .inl hl
              · by_cases he : srcK n d i h = m
                · exact absurd (this.1 he).2.2.1 hc2
                · right
                  omega)
            clear hl hc0 hc1 hc2
            go_wp2_with fail
            refine (refEnds _ _ _).mono ?_
            rintro e _ ⟨rfl, rfl⟩
            go_wp2
            exact hK (64 - (m + 1)) _ _ (by omega) ⟨m + 1, by omega, rfl, hl2.out, by kernel_rfl, rfl, by kernel_rfl, by kernel_rfl, by kernel_rfl, by kernel_rfl, by kernel_rfl⟩
        · have c1 : (endT n m == i) = false := by simp [hc1]
          have hl2 := Lib.hid (show Later (srcK n d i h) (m + 1 : Nat) by
            have := srcK_iff (n := n) (i := i) (h := h) hd (show (0 : Int) ≤ m by omega)
            unfold Later at hl ⊢
            rcases hl with hl | hl
            · exact .inl hl
            · by_cases he : srcK n d i h = m
              · exact absurd (this.1 he).2.1 hc1
              · right
                omega)
          clear hl hc0 hc1
          go_wp2_with fail
          refine (refEnds _ _ _).mono ?_
          rintro e _ ⟨rfl, rfl⟩
          go_wp2
          exact hK (64 - (m + 1)) _ _ (by omega) ⟨m + 1, by omega, rfl, hl2.out, by kernel_rfl, rfl, by kernel_rfl, by kernel_rfl, by kernel_rfl, by kernel_rfl, by kernel_rfl⟩
      · have c0 : decide (0 ≤ endF n m) = false := by simp; omega
        have hl2 := Lib.hid (show Later (srcK n d i h) (m + 1 : Nat) by
          have := srcK_iff (n := n) (i := i) (h := h) hd (show (0 : Int) ≤ m by omega)
          unfold Later at hl ⊢
          rcases hl with hl | hl
          · exact .inl hl
          · by_cases he : srcK n d i h = m
            · exact absurd (this.1 he).1 hc0
            · right
              omega)
        clear hl hc0
        go_wp2_with fail
        refine (refEnds _ _ _).mono ?_
        rintro e _ ⟨rfl, rfl⟩
        go_wp2
        exact hK (64 - (m + 1)) _ _ (by omega) ⟨m + 1, by omega, rfl, hl2.out, by kernel_rfl, rfl, by kernel_rfl, by kernel_rfl, by kernel_rfl, by kernel_rfl, by kernel_rfl⟩
    · obtain rfl : m = 64 := by omega
      have hv := Lib.hid (srcI_of_none hd (show srcK n d i h = -1 by have := srcK_range (n := n) (i := i) (h := h) hd; unfold Later at hl; omega))
      clear hl
      go_wp2
      go_ret
      exact ⟨by rw [hv.out]; rfl, rfl⟩
end Go.Proofs.YteogoddnefeleaaDoor
