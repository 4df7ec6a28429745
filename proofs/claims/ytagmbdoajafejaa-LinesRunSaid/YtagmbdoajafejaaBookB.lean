/- The book: 'kept' answers yes where each list bears its mark. -/
import Derived.Test.YtagmbdoajafejaaBookA
import Derived.Deep.CutBlock
namespace Go.Proofs.Ytagmbdoajafejaa
open Go.RowKit
set_option linter.unusedSimpArgs false
set_option linter.unusedVariables false
/-- A book: its own block, and its lists. -/
structure Book (w : World) (bK : Nat) (ab : Option Addr) (nb cb : Nat) (Gb Mb : Nat → Nat) (an : Option Addr) (nn cn : Nat) (Gn Mn : Nat → Nat) (as_ : Option Addr) (ns cs : Nat) (Gs Ms : Nat → Nat) : Prop where
  blk : Blk w bK #[.slice ab nb cb, .slice an nn cn, .slice as_ ns cs, .bool false] 49
  bytes : Rows w 5 22 ab nb Gb Mb
  nums : Rows w 3 41 an nn Gn Mn
  syms : Rows w 89 88 as_ ns Gs Ms
set_option maxRecDepth 100000
theorem kept_any (w : World) (bK t : Nat) (ab : Option Addr) (nb cb : Nat) (Gb Mb : Nat → Nat) (an : Option Addr) (nn cn : Nat) (Gn Mn : Nat → Nat) (as_ : Option Addr) (ns cs : Nat) (Gs Ms : Nat → Nat)
    (hK : Book w bK ab nb cb Gb Mb an nn cn Gn Mn as_ ns cs Gs Ms) (ht : t ≤ 1) (mb : Mkd w .u8 nb Gb Mb t nb 0) (mn : Mkd w .i64 nn Gn Mn t nn 0) (ms : Mkd w .u8 ns Gs Ms t ns 0) :
    Calls Try.prog 39 #[.pointer (some ⟨bK, 0, none⟩), .int .i64 t] w fun e w' => e = .returned (.bool true) ∧ ∃ q, w' = w.drewN q := by
  have hn1 := hK.bytes.1
  have hn2 := hK.nums.1
  have hn3 := hK.syms.1
  have c0 := hK.blk.cell (i := 0) rfl
  have c1 := hK.blk.cell (i := 1) rfl
  have c2 := hK.blk.cell (i := 2) rfl
  go_enter Try.func39, Try.ntmps39
  go_upto_block 0 with fail
  refine wp_cut (fun a wx => (∃ q, wx = w.drewN q) ∧ a.tmps.size = 118 ∧ a.defers = [] ∧ slot a 0 = .pointer (some ⟨bK, 0, none⟩) ∧ slot a 1 = .int .i64 t) ?_ ?_
  · intro K' hK'
    apply wp_block
    refine wp_loop_k (fun k a wx => ∃ i q : Nat, i + k = nb ∧ wx = w.drewN q ∧ a.tmps.size = 118 ∧ a.defers = [] ∧ slot a 0 = .pointer (some ⟨bK, 0, none⟩) ∧ slot a 1 = .int .i64 t ∧ slot a 5 = .int .i64 i) nb ?_ ?_
    · exact ⟨0, 0, by omega, rfl, by kernel_rfl, rfl, by kernel_rfl, by kernel_rfl, by kernel_rfl⟩
    · intro gk a wr hI K hK2
      obtain ⟨i, q, hi, rfl, hs', hd', k0', k1', k5'⟩ := hI
      rw [fr118 a hs' hd']; simp only [k0', k1', k5']; clear hs' hd' k0' k1' k5'
      by_cases hlt : i < nb
      · obtain ⟨hm, b, o, A, C, arr, rfl, hb, harr, hrow⟩ := hK.bytes.2.1 i hlt
        have cI := hb.cell harr
        have hin : (i : Int) < nb := by omega
        have hwi : IntKind.i64.wrap (i : Int) = i := by rw [IntKind.wrap_i64]; omega
        go_upto_block 2 with fail
        refine wp_cutQ (fun a wx => (∃ q, wx = w.drewN q) ∧ a.tmps.size = 118 ∧ a.defers = [] ∧ slot a 0 = .pointer (some ⟨bK, 0, none⟩) ∧ slot a 1 = .int .i64 t ∧ slot a 5 = .int .i64 i) ?_ ?_
        · intro K3 hK3
          apply wp_block
          refine wp_loop_k (fun k a wx => ∃ j q : Nat, j + k = Mb i ∧ wx = w.drewN q ∧ a.tmps.size = 118 ∧ a.defers = [] ∧ slot a 0 = .pointer (some ⟨bK, 0, none⟩) ∧ slot a 1 = .int .i64 t ∧ slot a 5 = .int .i64 i ∧ slot a 6 = .int .i64 j) (Mb i) ?_ ?_
          · exact ⟨0, _, by omega, rfl, by kernel_rfl, rfl, by kernel_rfl, by kernel_rfl, by kernel_rfl, by kernel_rfl⟩
          · intro gk2 a wr hI K4 hK4
            obtain ⟨j, q2, hj, rfl, hs', hd', k0', k1', k5', k6'⟩ := hI
            rw [fr118 a hs' hd']; simp only [k0', k1', k5', k6']; clear hs' hd' k0' k1' k5' k6'
            by_cases hjt : j < Mb i
            · obtain ⟨rfl, cur, hcur, hsz⟩ := hrow (by omega)
              have cV := mb i j hlt hjt (.inl hlt)
              have hjn : (j : Int) < Mb i := by omega
              have hwj : IntKind.i64.wrap (j : Int) = j := by rw [IntKind.wrap_i64]; omega
              have hmk := mk_lt i t
              have hw8 : IntKind.u8.wrap (mk i t : Nat) = (mk i t : Nat) := by rw [IntKind.wrap_u8]; omega
              have hne : (((mk i t : Nat) : Int) != (mk i t : Nat)) = false := by simp
              go_wp2_with fail
              go_quiet ((go_at_call 38; exact (mark_q i t _ (by omega) ht).mono fun _ _ h => ⟨h.1, _, h.2⟩))
              go_wp2
              refine hK4 (Mb i - (j + 1)) _ _ (by omega) ⟨j + 1, _, by omega, rfl, by kernel_rfl, rfl, by kernel_rfl, by kernel_rfl, by kernel_rfl, ?_⟩
              show Value.int _ _ = Value.int _ _
              simp
            · go_wp2_with fail
              refine hK3 _ _ trivial ⟨⟨_, rfl⟩, by kernel_rfl, rfl, by kernel_rfl, by kernel_rfl, by kernel_rfl⟩
        rintro a wx ⟨⟨q2, rfl⟩, hs', hd', k0', k1', k5'⟩; rw [fr118 a hs' hd']; simp only [k0', k1', k5']; clear hs' hd' k0' k1' k5'
        go_wp2_with fail
        refine hK2 (nb - (i + 1)) _ _ (by omega) ⟨i + 1, _, by omega, rfl, by kernel_rfl, rfl, by kernel_rfl, by kernel_rfl, ?_⟩
        show Value.int _ _ = Value.int _ _
        simp
      · go_wp2_with fail
        refine hK' _ _ trivial ⟨?_, by kernel_rfl, rfl, by kernel_rfl, by kernel_rfl⟩
        exact ⟨_, rfl⟩
  rintro a wx ⟨⟨q0, rfl⟩, hs', hd', k0', k1'⟩; rw [fr118 a hs' hd']; simp only [k0', k1']; clear hs' hd' k0' k1'
  go_upto_block 4 with fail
  refine wp_cut (fun a wx => (∃ q, wx = w.drewN q) ∧ a.tmps.size = 118 ∧ a.defers = [] ∧ slot a 0 = .pointer (some ⟨bK, 0, none⟩) ∧ slot a 1 = .int .i64 t) ?_ ?_
  · intro K' hK'
    apply wp_block
    refine wp_loop_k (fun k a wx => ∃ i q : Nat, i + k = nn ∧ wx = w.drewN q ∧ a.tmps.size = 118 ∧ a.defers = [] ∧ slot a 0 = .pointer (some ⟨bK, 0, none⟩) ∧ slot a 1 = .int .i64 t ∧ slot a 7 = .int .i64 i) nn ?_ ?_
    · exact ⟨0, q0, by omega, rfl, by kernel_rfl, rfl, by kernel_rfl, by kernel_rfl, by kernel_rfl⟩
    · intro gk a wr hI K hK2
      obtain ⟨i, q, hi, rfl, hs', hd', k0', k1', k7'⟩ := hI
      rw [fr118 a hs' hd']; simp only [k0', k1', k7']; clear hs' hd' k0' k1' k7'
      by_cases hlt : i < nn
      · obtain ⟨hm, b, o, A, C, arr, rfl, hb, harr, hrow⟩ := hK.nums.2.1 i hlt
        have cI := hb.cell harr
        have hin : (i : Int) < nn := by omega
        have hwi : IntKind.i64.wrap (i : Int) = i := by rw [IntKind.wrap_i64]; omega
        go_upto_block 6 with fail
        refine wp_cutQ (fun a wx => (∃ q, wx = w.drewN q) ∧ a.tmps.size = 118 ∧ a.defers = [] ∧ slot a 0 = .pointer (some ⟨bK, 0, none⟩) ∧ slot a 1 = .int .i64 t ∧ slot a 7 = .int .i64 i) ?_ ?_
        · intro K3 hK3
          apply wp_block
          refine wp_loop_k (fun k a wx => ∃ j q : Nat, j + k = Mn i ∧ wx = w.drewN q ∧ a.tmps.size = 118 ∧ a.defers = [] ∧ slot a 0 = .pointer (some ⟨bK, 0, none⟩) ∧ slot a 1 = .int .i64 t ∧ slot a 7 = .int .i64 i ∧ slot a 8 = .int .i64 j) (Mn i) ?_ ?_
          · exact ⟨0, _, by omega, rfl, by kernel_rfl, rfl, by kernel_rfl, by kernel_rfl, by kernel_rfl, by kernel_rfl⟩
          · intro gk2 a wr hI K4 hK4
            obtain ⟨j, q2, hj, rfl, hs', hd', k0', k1', k7', k8'⟩ := hI
            rw [fr118 a hs' hd']; simp only [k0', k1', k7', k8']; clear hs' hd' k0' k1' k7' k8'
            by_cases hjt : j < Mn i
            · obtain ⟨rfl, cur, hcur, hsz⟩ := hrow (by omega)
              have cV := mn i j hlt hjt (.inl hlt)
              have hjn : (j : Int) < Mn i := by omega
              have hwj : IntKind.i64.wrap (j : Int) = j := by rw [IntKind.wrap_i64]; omega
              have hmk := mk_lt i t
              have hw8 : IntKind.u8.wrap (mk i t : Nat) = (mk i t : Nat) := by rw [IntKind.wrap_u8]; omega
              have hne : (((mk i t : Nat) : Int) != (mk i t : Nat)) = false := by simp
              go_wp2_with fail
              go_quiet ((go_at_call 38; exact (mark_q i t _ (by omega) ht).mono fun _ _ h => ⟨h.1, _, h.2⟩))
              go_wp2
              refine hK4 (Mn i - (j + 1)) _ _ (by omega) ⟨j + 1, _, by omega, rfl, by kernel_rfl, rfl, by kernel_rfl, by kernel_rfl, by kernel_rfl, ?_⟩
              show Value.int _ _ = Value.int _ _
              simp
            · go_wp2_with fail
              refine hK3 _ _ trivial ⟨⟨_, rfl⟩, by kernel_rfl, rfl, by kernel_rfl, by kernel_rfl, by kernel_rfl⟩
        rintro a wx ⟨⟨q2, rfl⟩, hs', hd', k0', k1', k7'⟩; rw [fr118 a hs' hd']; simp only [k0', k1', k7']; clear hs' hd' k0' k1' k7'
        go_wp2_with fail
        refine hK2 (nn - (i + 1)) _ _ (by omega) ⟨i + 1, _, by omega, rfl, by kernel_rfl, rfl, by kernel_rfl, by kernel_rfl, ?_⟩
        show Value.int _ _ = Value.int _ _
        simp
      · go_wp2_with fail
        refine hK' _ _ trivial ⟨?_, by kernel_rfl, rfl, by kernel_rfl, by kernel_rfl⟩
        exact ⟨_, rfl⟩
  rintro a wx ⟨⟨q4, rfl⟩, hs', hd', k0', k1'⟩; rw [fr118 a hs' hd']; simp only [k0', k1']; clear hs' hd' k0' k1'
  go_upto_block 8 with fail
  refine wp_cut (fun a wx => (∃ q, wx = w.drewN q) ∧ a.tmps.size = 118 ∧ a.defers = [] ∧ slot a 0 = .pointer (some ⟨bK, 0, none⟩) ∧ slot a 1 = .int .i64 t) ?_ ?_
  · intro K' hK'
    apply wp_block
    refine wp_loop_k (fun k a wx => ∃ i q : Nat, i + k = ns ∧ wx = w.drewN q ∧ a.tmps.size = 118 ∧ a.defers = [] ∧ slot a 0 = .pointer (some ⟨bK, 0, none⟩) ∧ slot a 1 = .int .i64 t ∧ slot a 9 = .int .i64 i) ns ?_ ?_
    · exact ⟨0, q4, by omega, rfl, by kernel_rfl, rfl, by kernel_rfl, by kernel_rfl, by kernel_rfl⟩
    · intro gk a wr hI K hK2
      obtain ⟨i, q, hi, rfl, hs', hd', k0', k1', k9'⟩ := hI
      rw [fr118 a hs' hd']; simp only [k0', k1', k9']; clear hs' hd' k0' k1' k9'
      by_cases hlt : i < ns
      · obtain ⟨hm, b, o, A, C, arr, rfl, hb, harr, hrow⟩ := hK.syms.2.1 i hlt
        have cI := hb.cell harr
        have hin : (i : Int) < ns := by omega
        have hwi : IntKind.i64.wrap (i : Int) = i := by rw [IntKind.wrap_i64]; omega
        go_upto_block 10 with fail
        refine wp_cutQ (fun a wx => (∃ q, wx = w.drewN q) ∧ a.tmps.size = 118 ∧ a.defers = [] ∧ slot a 0 = .pointer (some ⟨bK, 0, none⟩) ∧ slot a 1 = .int .i64 t ∧ slot a 9 = .int .i64 i) ?_ ?_
        · intro K3 hK3
          apply wp_block
          refine wp_loop_k (fun k a wx => ∃ j q : Nat, j + k = Ms i ∧ wx = w.drewN q ∧ a.tmps.size = 118 ∧ a.defers = [] ∧ slot a 0 = .pointer (some ⟨bK, 0, none⟩) ∧ slot a 1 = .int .i64 t ∧ slot a 9 = .int .i64 i ∧ slot a 10 = .int .i64 j) (Ms i) ?_ ?_
          · exact ⟨0, _, by omega, rfl, by kernel_rfl, rfl, by kernel_rfl, by kernel_rfl, by kernel_rfl, by kernel_rfl⟩
          · intro gk2 a wr hI K4 hK4
            obtain ⟨j, q2, hj, rfl, hs', hd', k0', k1', k9', k10'⟩ := hI
            rw [fr118 a hs' hd']; simp only [k0', k1', k9', k10']; clear hs' hd' k0' k1' k9' k10'
            by_cases hjt : j < Ms i
            · obtain ⟨rfl, cur, hcur, hsz⟩ := hrow (by omega)
              have cV := ms i j hlt hjt (.inl hlt)
              have hjn : (j : Int) < Ms i := by omega
              have hwj : IntKind.i64.wrap (j : Int) = j := by rw [IntKind.wrap_i64]; omega
              have hmk := mk_lt i t
              have hw8 : IntKind.u8.wrap (mk i t : Nat) = (mk i t : Nat) := by rw [IntKind.wrap_u8]; omega
              have hne : (((mk i t : Nat) : Int) != (mk i t : Nat)) = false := by simp
              go_wp2_with fail
              go_quiet ((go_at_call 38; exact (mark_q i t _ (by omega) ht).mono fun _ _ h => ⟨h.1, _, h.2⟩))
              go_wp2
              refine hK4 (Ms i - (j + 1)) _ _ (by omega) ⟨j + 1, _, by omega, rfl, by kernel_rfl, rfl, by kernel_rfl, by kernel_rfl, by kernel_rfl, ?_⟩
              show Value.int _ _ = Value.int _ _
              simp
            · go_wp2_with fail
              refine hK3 _ _ trivial ⟨⟨_, rfl⟩, by kernel_rfl, rfl, by kernel_rfl, by kernel_rfl, by kernel_rfl⟩
        rintro a wx ⟨⟨q2, rfl⟩, hs', hd', k0', k1', k9'⟩; rw [fr118 a hs' hd']; simp only [k0', k1', k9']; clear hs' hd' k0' k1' k9'
        go_wp2_with fail
        refine hK2 (ns - (i + 1)) _ _ (by omega) ⟨i + 1, _, by omega, rfl, by kernel_rfl, rfl, by kernel_rfl, by kernel_rfl, ?_⟩
        show Value.int _ _ = Value.int _ _
        simp
      · go_wp2_with fail
        refine hK' _ _ trivial ⟨?_, by kernel_rfl, rfl, by kernel_rfl, by kernel_rfl⟩
        exact ⟨_, rfl⟩
  rintro a wx ⟨⟨q8, rfl⟩, hs', hd', k0', k1'⟩; rw [fr118 a hs' hd']; simp only [k0', k1']; clear hs' hd' k0' k1'
  go_wp2_with fail
  go_ret
  exact ⟨rfl, _, rfl⟩
end Go.Proofs.Ytagmbdoajafejaa
