/- The book: 'Apart' answers yes where its lists lie in different blocks; it writes into them alone. -/
import Derived.Test.YtagmbdoajafejaaBookB
namespace Go.Proofs.Ytagmbdoajafejaa
open Go.RowKit
set_option linter.unusedSimpArgs false
set_option linter.unusedVariables false
theorem Book.set {w : World} {bK : Nat} {ab : Option Addr} {nb cb : Nat} {Gb Mb : Nat → Nat} {an : Option Addr} {nn cn : Nat} {Gn Mn : Nat → Nat} {as_ : Option Addr} {ns cs : Nat} {Gs Ms : Nat → Nat} (h : Book w bK ab nb cb Gb Mb an nn cn Gn Mn as_ ns cs Gs Ms)
    {g j : Nat} {v : Value} {c : Array Value} {E' : TypeId} (hg : Blk w g c E') (n1 : E' ≠ 49) (n2 : E' ≠ 22) (n3 : E' ≠ 41) (n4 : E' ≠ 88) : Book (w.setCell ⟨g, j, none⟩ v) bK ab nb cb Gb Mb an nn cn Gn Mn as_ ns cs Gs Ms :=
  ⟨h.blk.setNe (by simpa using (hg.ne h.blk n1).symm) v, h.bytes.set hg n2, h.nums.set hg n3, h.syms.set hg n4⟩
theorem Book.drewN {w : World} {bK : Nat} {ab : Option Addr} {nb cb : Nat} {Gb Mb : Nat → Nat} {an : Option Addr} {nn cn : Nat} {Gn Mn : Nat → Nat} {as_ : Option Addr} {ns cs : Nat} {Gs Ms : Nat → Nat} (h : Book w bK ab nb cb Gb Mb an nn cn Gn Mn as_ ns cs Gs Ms) (q : Nat) : Book (w.drewN q) bK ab nb cb Gb Mb an nn cn Gn Mn as_ ns cs Gs Ms :=
  ⟨h.blk, h.bytes, h.nums, h.syms⟩
/-- The blocks of all lists of a book. -/
def bookBlks (nb : Nat) (Gb Mb : Nat → Nat) (nn : Nat) (Gn Mn : Nat → Nat) (ns : Nat) (Gs Ms : Nat → Nat) : List Nat := blks nb Gb Mb ++ (blks nn Gn Mn ++ blks ns Gs Ms)
set_option maxRecDepth 100000
set_option maxHeartbeats 1000000 in
theorem apart_any (w : World) (bK : Nat) (ab : Option Addr) (nb cb : Nat) (Gb Mb : Nat → Nat) (an : Option Addr) (nn cn : Nat) (Gn Mn : Nat → Nat) (as_ : Option Addr) (ns cs : Nat) (Gs Ms : Nat → Nat) (hK : Book w bK ab nb cb Gb Mb an nn cn Gn Mn as_ ns cs Gs Ms) :
    Calls Try.prog 21 #[.pointer (some ⟨bK, 0, none⟩)] w fun e w' => e = .returned (.bool true) ∧ Touch (bookBlks nb Gb Mb nn Gn Mn ns Gs Ms) w w' := by
  have hn1 := hK.bytes.1
  have hn2 := hK.nums.1
  have hn3 := hK.syms.1
  have c3 := hK.blk.cell (i := 3) rfl
  go_enter Try.func21, Try.ntmps21
  go_wp2_with fail
  clear c3
  refine wp_loop_k (fun k a wx => ∃ t : Nat, t + k = 2 ∧ Book wx bK ab nb cb Gb Mb an nn cn Gn Mn as_ ns cs Gs Ms ∧ Touch (bookBlks nb Gb Mb nn Gn Mn ns Gs Ms) w wx ∧ a.tmps.size = 123 ∧ a.defers = [] ∧ slot a 0 = .pointer (some ⟨bK, 0, none⟩) ∧ slot a 3 = .int .i64 t) 2 ?_ ?_
  · exact ⟨0, by omega, hK, Touch.refl _ _, by kernel_rfl, rfl, by kernel_rfl, by kernel_rfl⟩
  intro gk a wr hI K hKK
  obtain ⟨t, ht, hB, hT, hs', hd', k0', k3'⟩ := hI
  rw [fr123 a hs' hd']; simp only [k0', k3']; clear hs' hd' k0' k3'
  clear hK
  by_cases ht2 : t < 2
  · have ht1 : t ≤ 1 := by omega
    have p0 : True := trivial
    go_upto_block 2 with fail
    refine wp_cut (fun a wx => (Book wx bK ab nb cb Gb Mb an nn cn Gn Mn as_ ns cs Gs Ms ∧ Touch (bookBlks nb Gb Mb nn Gn Mn ns Gs Ms) w wx ∧ (True) ∧ Mkd wx .u8 nb Gb Mb t nb 0) ∧ a.tmps.size = 123 ∧ a.defers = [] ∧ slot a 0 = .pointer (some ⟨bK, 0, none⟩) ∧ slot a 3 = .int .i64 t) ?_ ?_
    · intro K' hK'
      apply wp_block
      refine wp_loop_k (fun k a wx => ∃ i : Nat, i + k = nb ∧ (Book wx bK ab nb cb Gb Mb an nn cn Gn Mn as_ ns cs Gs Ms ∧ Touch (bookBlks nb Gb Mb nn Gn Mn ns Gs Ms) w wx ∧ (True) ∧ Mkd wx .u8 nb Gb Mb t i 0) ∧ a.tmps.size = 123 ∧ a.defers = [] ∧ slot a 0 = .pointer (some ⟨bK, 0, none⟩) ∧ slot a 3 = .int .i64 t ∧ slot a 4 = .int .i64 i) nb ?_ ?_
      · exact ⟨0, by omega, ⟨hB, hT, p0, Mkd.zero _ _ _ _ _ _⟩, by kernel_rfl, rfl, by kernel_rfl, by kernel_rfl, by kernel_rfl⟩
      · clear hB hT p0
        intro gk a wr hI K hK2
        obtain ⟨i, hi, ⟨hB, hT, p0, hM⟩, hs', hd', k0', k3', k4'⟩ := hI
        rw [fr123 a hs' hd']; simp only [k0', k3', k4']; clear hs' hd' k0' k3' k4'
        have cF := hB.blk.cell (i := 0) rfl
        by_cases hlt : i < nb
        · have hm := (hB.bytes.2.1 i hlt).1
          have hin : (i : Int) < nb := by omega
          go_upto_block 4 with fail
          clear cF
          refine wp_cutQ (fun a wx => (Book wx bK ab nb cb Gb Mb an nn cn Gn Mn as_ ns cs Gs Ms ∧ Touch (bookBlks nb Gb Mb nn Gn Mn ns Gs Ms) w wx ∧ (True) ∧ Mkd wx .u8 nb Gb Mb t i (Mb i)) ∧ a.tmps.size = 123 ∧ a.defers = [] ∧ slot a 0 = .pointer (some ⟨bK, 0, none⟩) ∧ slot a 3 = .int .i64 t ∧ slot a 4 = .int .i64 i) ?_ ?_
          · intro K3 hK3
            apply wp_block
            refine wp_loop_k (fun k a wx => ∃ j : Nat, j + k = Mb i ∧ (Book wx bK ab nb cb Gb Mb an nn cn Gn Mn as_ ns cs Gs Ms ∧ Touch (bookBlks nb Gb Mb nn Gn Mn ns Gs Ms) w wx ∧ (True) ∧ Mkd wx .u8 nb Gb Mb t i j) ∧ a.tmps.size = 123 ∧ a.defers = [] ∧ slot a 0 = .pointer (some ⟨bK, 0, none⟩) ∧ slot a 3 = .int .i64 t ∧ slot a 4 = .int .i64 i ∧ slot a 5 = .int .i64 j) (Mb i) ?_ ?_
            · exact ⟨0, by omega, ⟨hB, hT, p0, hM⟩, by kernel_rfl, rfl, by kernel_rfl, by kernel_rfl, by kernel_rfl, by kernel_rfl⟩
            · clear hB hT p0 hM
              intro gk2 a wr hI K4 hK4
              obtain ⟨j, hj, ⟨hB, hT, p0, hM⟩, hs', hd', k0', k3', k4', k5'⟩ := hI
              rw [fr123 a hs' hd']; simp only [k0', k3', k4', k5']; clear hs' hd' k0' k3' k4' k5'
              have cF := hB.blk.cell (i := 0) rfl
              obtain ⟨_, b, o, A, C, arr, hao, hb, harr, hrow⟩ := hB.bytes.2.1 i hlt
              have cI := hb.cell harr
              by_cases hjt : j < Mb i
              · obtain ⟨rfl, cur, hcur, hsz⟩ := hrow (by omega)
                have hjn : (j : Int) < Mb i := by omega
                have hwi : IntKind.i64.wrap (i : Int) = i := by rw [IntKind.wrap_i64]; omega
                have hwj : IntKind.i64.wrap (j : Int) = j := by rw [IntKind.wrap_i64]; omega
                have hmk := mk_lt i t
                have hw8 : IntKind.u8.wrap (mk i t : Nat) = (mk i t : Nat) := by rw [IntKind.wrap_u8]; omega
                obtain ⟨v0, hv0⟩ : ∃ v0, cur[j]? = some v0 := ⟨_, Array.getElem?_eq_getElem (by omega)⟩
                have cX := hcur.cell hv0
                have fX := hcur.free j
                go_wp2_with fail
                go_region_with (go_at_call 38; refine (mark_any i t _ (by omega) ht1).mono ?_; rintro e w1 ⟨rfl, rfl⟩)
                all_goals
                  go_wp2_with fail
                  refine hK4 (Mb i - (j + 1)) _ _ (by omega) ⟨j + 1, by omega, ⟨(hB.set hcur (by decide) (by decide) (by decide) (by decide)).drewN 1, ?_, trivial, (hM.step hB.bytes hlt hjt).drewN 1⟩, by kernel_rfl, rfl, by kernel_rfl, by kernel_rfl, by kernel_rfl, ?_⟩
                  · exact (hT.setCell (.inl (by simp only [bookBlks, List.mem_append]; have := mem_blks hlt (Nat.lt_of_le_of_lt (Nat.zero_le _) hjt) (G := Gb); simp [this])) _).drew
                  · show Value.int _ _ = Value.int _ _
                    simp
              · have e : j = Mb i := by omega
                subst e
                go_wp2_with fail
                refine hK3 _ _ trivial ⟨⟨hB, hT, p0, hM⟩, by kernel_rfl, rfl, by kernel_rfl, by kernel_rfl, by kernel_rfl⟩
          clear hB hT p0 hM
          rintro a wx ⟨⟨hB, hT, p0, hM⟩, hs', hd', k0', k3', k4'⟩; rw [fr123 a hs' hd']; simp only [k0', k3', k4']; clear hs' hd' k0' k3' k4'
          go_wp2_with fail
          refine hK2 (nb - (i + 1)) _ _ (by omega) ⟨i + 1, by omega, ⟨hB, hT, p0, hM.next⟩, by kernel_rfl, rfl, by kernel_rfl, by kernel_rfl, ?_⟩
          show Value.int _ _ = Value.int _ _
          simp
        · have e : i = nb := by omega
          subst e
          go_wp2_with fail
          refine hK' _ _ trivial ⟨⟨hB, hT, p0, hM⟩, by kernel_rfl, rfl, by kernel_rfl, by kernel_rfl⟩
    clear hB hT p0
    rintro a wx ⟨⟨hB, hT, p0, hMp1⟩, hs', hd', k0', k3'⟩; rw [fr123 a hs' hd']; simp only [k0', k3']; clear hs' hd' k0' k3'
    have p1 := hMp1
    go_upto_block 6 with fail
    refine wp_cut (fun a wx => (Book wx bK ab nb cb Gb Mb an nn cn Gn Mn as_ ns cs Gs Ms ∧ Touch (bookBlks nb Gb Mb nn Gn Mn ns Gs Ms) w wx ∧ (Mkd wx .u8 nb Gb Mb t nb 0) ∧ Mkd wx .i64 nn Gn Mn t nn 0) ∧ a.tmps.size = 123 ∧ a.defers = [] ∧ slot a 0 = .pointer (some ⟨bK, 0, none⟩) ∧ slot a 3 = .int .i64 t) ?_ ?_
    · intro K' hK'
      apply wp_block
      refine wp_loop_k (fun k a wx => ∃ i : Nat, i + k = nn ∧ (Book wx bK ab nb cb Gb Mb an nn cn Gn Mn as_ ns cs Gs Ms ∧ Touch (bookBlks nb Gb Mb nn Gn Mn ns Gs Ms) w wx ∧ (Mkd wx .u8 nb Gb Mb t nb 0) ∧ Mkd wx .i64 nn Gn Mn t i 0) ∧ a.tmps.size = 123 ∧ a.defers = [] ∧ slot a 0 = .pointer (some ⟨bK, 0, none⟩) ∧ slot a 3 = .int .i64 t ∧ slot a 6 = .int .i64 i) nn ?_ ?_
      · exact ⟨0, by omega, ⟨hB, hT, p1, Mkd.zero _ _ _ _ _ _⟩, by kernel_rfl, rfl, by kernel_rfl, by kernel_rfl, by kernel_rfl⟩
      · clear hB hT p1
        intro gk a wr hI K hK2
        obtain ⟨i, hi, ⟨hB, hT, p1, hM⟩, hs', hd', k0', k3', k6'⟩ := hI
        rw [fr123 a hs' hd']; simp only [k0', k3', k6']; clear hs' hd' k0' k3' k6'
        have cF := hB.blk.cell (i := 1) rfl
        by_cases hlt : i < nn
        · have hm := (hB.nums.2.1 i hlt).1
          have hin : (i : Int) < nn := by omega
          go_upto_block 8 with fail
          clear cF
          refine wp_cutQ (fun a wx => (Book wx bK ab nb cb Gb Mb an nn cn Gn Mn as_ ns cs Gs Ms ∧ Touch (bookBlks nb Gb Mb nn Gn Mn ns Gs Ms) w wx ∧ (Mkd wx .u8 nb Gb Mb t nb 0) ∧ Mkd wx .i64 nn Gn Mn t i (Mn i)) ∧ a.tmps.size = 123 ∧ a.defers = [] ∧ slot a 0 = .pointer (some ⟨bK, 0, none⟩) ∧ slot a 3 = .int .i64 t ∧ slot a 6 = .int .i64 i) ?_ ?_
          · intro K3 hK3
            apply wp_block
            refine wp_loop_k (fun k a wx => ∃ j : Nat, j + k = Mn i ∧ (Book wx bK ab nb cb Gb Mb an nn cn Gn Mn as_ ns cs Gs Ms ∧ Touch (bookBlks nb Gb Mb nn Gn Mn ns Gs Ms) w wx ∧ (Mkd wx .u8 nb Gb Mb t nb 0) ∧ Mkd wx .i64 nn Gn Mn t i j) ∧ a.tmps.size = 123 ∧ a.defers = [] ∧ slot a 0 = .pointer (some ⟨bK, 0, none⟩) ∧ slot a 3 = .int .i64 t ∧ slot a 6 = .int .i64 i ∧ slot a 7 = .int .i64 j) (Mn i) ?_ ?_
            · exact ⟨0, by omega, ⟨hB, hT, p1, hM⟩, by kernel_rfl, rfl, by kernel_rfl, by kernel_rfl, by kernel_rfl, by kernel_rfl⟩
            · clear hB hT p1 hM
              intro gk2 a wr hI K4 hK4
              obtain ⟨j, hj, ⟨hB, hT, p1, hM⟩, hs', hd', k0', k3', k6', k7'⟩ := hI
              rw [fr123 a hs' hd']; simp only [k0', k3', k6', k7']; clear hs' hd' k0' k3' k6' k7'
              have cF := hB.blk.cell (i := 1) rfl
              obtain ⟨_, b, o, A, C, arr, hao, hb, harr, hrow⟩ := hB.nums.2.1 i hlt
              have cI := hb.cell harr
              by_cases hjt : j < Mn i
              · obtain ⟨rfl, cur, hcur, hsz⟩ := hrow (by omega)
                have hjn : (j : Int) < Mn i := by omega
                have hwi : IntKind.i64.wrap (i : Int) = i := by rw [IntKind.wrap_i64]; omega
                have hwj : IntKind.i64.wrap (j : Int) = j := by rw [IntKind.wrap_i64]; omega
                have hmk := mk_lt i t
                have hw8 : IntKind.u8.wrap (mk i t : Nat) = (mk i t : Nat) := by rw [IntKind.wrap_u8]; omega
                obtain ⟨v0, hv0⟩ : ∃ v0, cur[j]? = some v0 := ⟨_, Array.getElem?_eq_getElem (by omega)⟩
                have cX := hcur.cell hv0
                have fX := hcur.free j
                go_wp2_with fail
                go_region_with (go_at_call 38; refine (mark_any i t _ (by omega) ht1).mono ?_; rintro e w1 ⟨rfl, rfl⟩)
                all_goals
                  go_wp2_with fail
                  refine hK4 (Mn i - (j + 1)) _ _ (by omega) ⟨j + 1, by omega, ⟨(hB.set hcur (by decide) (by decide) (by decide) (by decide)).drewN 1, ?_, p1.set hB.bytes hcur (by decide), (hM.step hB.nums hlt hjt).drewN 1⟩, by kernel_rfl, rfl, by kernel_rfl, by kernel_rfl, by kernel_rfl, ?_⟩
                  · exact (hT.setCell (.inl (by simp only [bookBlks, List.mem_append]; have := mem_blks hlt (Nat.lt_of_le_of_lt (Nat.zero_le _) hjt) (G := Gn); simp [this])) _).drew
                  · show Value.int _ _ = Value.int _ _
                    simp
              · have e : j = Mn i := by omega
                subst e
                go_wp2_with fail
                refine hK3 _ _ trivial ⟨⟨hB, hT, p1, hM⟩, by kernel_rfl, rfl, by kernel_rfl, by kernel_rfl, by kernel_rfl⟩
          clear hB hT p1 hM
          rintro a wx ⟨⟨hB, hT, p1, hM⟩, hs', hd', k0', k3', k6'⟩; rw [fr123 a hs' hd']; simp only [k0', k3', k6']; clear hs' hd' k0' k3' k6'
          go_wp2_with fail
          refine hK2 (nn - (i + 1)) _ _ (by omega) ⟨i + 1, by omega, ⟨hB, hT, p1, hM.next⟩, by kernel_rfl, rfl, by kernel_rfl, by kernel_rfl, ?_⟩
          show Value.int _ _ = Value.int _ _
          simp
        · have e : i = nn := by omega
          subst e
          go_wp2_with fail
          refine hK' _ _ trivial ⟨⟨hB, hT, p1, hM⟩, by kernel_rfl, rfl, by kernel_rfl, by kernel_rfl⟩
    clear hB hT p1
    rintro a wx ⟨⟨hB, hT, p1, hMp2⟩, hs', hd', k0', k3'⟩; rw [fr123 a hs' hd']; simp only [k0', k3']; clear hs' hd' k0' k3'
    have p2 := And.intro p1 hMp2
    go_upto_block 10 with fail
    refine wp_cut (fun a wx => (Book wx bK ab nb cb Gb Mb an nn cn Gn Mn as_ ns cs Gs Ms ∧ Touch (bookBlks nb Gb Mb nn Gn Mn ns Gs Ms) w wx ∧ (Mkd wx .u8 nb Gb Mb t nb 0 ∧ Mkd wx .i64 nn Gn Mn t nn 0) ∧ Mkd wx .u8 ns Gs Ms t ns 0) ∧ a.tmps.size = 123 ∧ a.defers = [] ∧ slot a 0 = .pointer (some ⟨bK, 0, none⟩) ∧ slot a 3 = .int .i64 t) ?_ ?_
    · intro K' hK'
      apply wp_block
      refine wp_loop_k (fun k a wx => ∃ i : Nat, i + k = ns ∧ (Book wx bK ab nb cb Gb Mb an nn cn Gn Mn as_ ns cs Gs Ms ∧ Touch (bookBlks nb Gb Mb nn Gn Mn ns Gs Ms) w wx ∧ (Mkd wx .u8 nb Gb Mb t nb 0 ∧ Mkd wx .i64 nn Gn Mn t nn 0) ∧ Mkd wx .u8 ns Gs Ms t i 0) ∧ a.tmps.size = 123 ∧ a.defers = [] ∧ slot a 0 = .pointer (some ⟨bK, 0, none⟩) ∧ slot a 3 = .int .i64 t ∧ slot a 8 = .int .i64 i) ns ?_ ?_
      · exact ⟨0, by omega, ⟨hB, hT, p2, Mkd.zero _ _ _ _ _ _⟩, by kernel_rfl, rfl, by kernel_rfl, by kernel_rfl, by kernel_rfl⟩
      · clear hB hT p2
        intro gk a wr hI K hK2
        obtain ⟨i, hi, ⟨hB, hT, p2, hM⟩, hs', hd', k0', k3', k8'⟩ := hI
        rw [fr123 a hs' hd']; simp only [k0', k3', k8']; clear hs' hd' k0' k3' k8'
        have cF := hB.blk.cell (i := 2) rfl
        by_cases hlt : i < ns
        · have hm := (hB.syms.2.1 i hlt).1
          have hin : (i : Int) < ns := by omega
          go_upto_block 12 with fail
          clear cF
          refine wp_cutQ (fun a wx => (Book wx bK ab nb cb Gb Mb an nn cn Gn Mn as_ ns cs Gs Ms ∧ Touch (bookBlks nb Gb Mb nn Gn Mn ns Gs Ms) w wx ∧ (Mkd wx .u8 nb Gb Mb t nb 0 ∧ Mkd wx .i64 nn Gn Mn t nn 0) ∧ Mkd wx .u8 ns Gs Ms t i (Ms i)) ∧ a.tmps.size = 123 ∧ a.defers = [] ∧ slot a 0 = .pointer (some ⟨bK, 0, none⟩) ∧ slot a 3 = .int .i64 t ∧ slot a 8 = .int .i64 i) ?_ ?_
          · intro K3 hK3
            apply wp_block
            refine wp_loop_k (fun k a wx => ∃ j : Nat, j + k = Ms i ∧ (Book wx bK ab nb cb Gb Mb an nn cn Gn Mn as_ ns cs Gs Ms ∧ Touch (bookBlks nb Gb Mb nn Gn Mn ns Gs Ms) w wx ∧ (Mkd wx .u8 nb Gb Mb t nb 0 ∧ Mkd wx .i64 nn Gn Mn t nn 0) ∧ Mkd wx .u8 ns Gs Ms t i j) ∧ a.tmps.size = 123 ∧ a.defers = [] ∧ slot a 0 = .pointer (some ⟨bK, 0, none⟩) ∧ slot a 3 = .int .i64 t ∧ slot a 8 = .int .i64 i ∧ slot a 9 = .int .i64 j) (Ms i) ?_ ?_
            · exact ⟨0, by omega, ⟨hB, hT, p2, hM⟩, by kernel_rfl, rfl, by kernel_rfl, by kernel_rfl, by kernel_rfl, by kernel_rfl⟩
            · clear hB hT p2 hM
              intro gk2 a wr hI K4 hK4
              obtain ⟨j, hj, ⟨hB, hT, p2, hM⟩, hs', hd', k0', k3', k8', k9'⟩ := hI
              rw [fr123 a hs' hd']; simp only [k0', k3', k8', k9']; clear hs' hd' k0' k3' k8' k9'
              have cF := hB.blk.cell (i := 2) rfl
              obtain ⟨_, b, o, A, C, arr, hao, hb, harr, hrow⟩ := hB.syms.2.1 i hlt
              have cI := hb.cell harr
              by_cases hjt : j < Ms i
              · obtain ⟨rfl, cur, hcur, hsz⟩ := hrow (by omega)
                have hjn : (j : Int) < Ms i := by omega
                have hwi : IntKind.i64.wrap (i : Int) = i := by rw [IntKind.wrap_i64]; omega
                have hwj : IntKind.i64.wrap (j : Int) = j := by rw [IntKind.wrap_i64]; omega
                have hmk := mk_lt i t
                have hw8 : IntKind.u8.wrap (mk i t : Nat) = (mk i t : Nat) := by rw [IntKind.wrap_u8]; omega
                obtain ⟨v0, hv0⟩ : ∃ v0, cur[j]? = some v0 := ⟨_, Array.getElem?_eq_getElem (by omega)⟩
                have cX := hcur.cell hv0
                have fX := hcur.free j
                go_wp2_with fail
                go_region_with (go_at_call 38; refine (mark_any i t _ (by omega) ht1).mono ?_; rintro e w1 ⟨rfl, rfl⟩)
                all_goals
                  go_wp2_with fail
                  refine hK4 (Ms i - (j + 1)) _ _ (by omega) ⟨j + 1, by omega, ⟨(hB.set hcur (by decide) (by decide) (by decide) (by decide)).drewN 1, ?_, ⟨p2.1.set hB.bytes hcur (by decide), p2.2.set hB.nums hcur (by decide)⟩, (hM.step hB.syms hlt hjt).drewN 1⟩, by kernel_rfl, rfl, by kernel_rfl, by kernel_rfl, by kernel_rfl, ?_⟩
                  · exact (hT.setCell (.inl (by simp only [bookBlks, List.mem_append]; have := mem_blks hlt (Nat.lt_of_le_of_lt (Nat.zero_le _) hjt) (G := Gs); simp [this])) _).drew
                  · show Value.int _ _ = Value.int _ _
                    simp
              · have e : j = Ms i := by omega
                subst e
                go_wp2_with fail
                refine hK3 _ _ trivial ⟨⟨hB, hT, p2, hM⟩, by kernel_rfl, rfl, by kernel_rfl, by kernel_rfl, by kernel_rfl⟩
          clear hB hT p2 hM
          rintro a wx ⟨⟨hB, hT, p2, hM⟩, hs', hd', k0', k3', k8'⟩; rw [fr123 a hs' hd']; simp only [k0', k3', k8']; clear hs' hd' k0' k3' k8'
          go_wp2_with fail
          refine hK2 (ns - (i + 1)) _ _ (by omega) ⟨i + 1, by omega, ⟨hB, hT, p2, hM.next⟩, by kernel_rfl, rfl, by kernel_rfl, by kernel_rfl, ?_⟩
          show Value.int _ _ = Value.int _ _
          simp
        · have e : i = ns := by omega
          subst e
          go_wp2_with fail
          refine hK' _ _ trivial ⟨⟨hB, hT, p2, hM⟩, by kernel_rfl, rfl, by kernel_rfl, by kernel_rfl⟩
    clear hB hT p2
    rintro a wx ⟨⟨hB, hT, p2, hMp3⟩, hs', hd', k0', k3'⟩; rw [fr123 a hs' hd']; simp only [k0', k3']; clear hs' hd' k0' k3'
    have p3 := trivial
    obtain ⟨⟨mb, mn⟩, ms⟩ := And.intro p2 hMp3
    go_wp2_with fail
    refine (kept_any _ _ _ _ _ _ _ _ _ _ _ _ _ _ _ _ _ _ hB ht1 mb mn ms).mono ?_
    rintro e wx2 ⟨rfl, q, rfl⟩
    go_wp2_with fail
    refine hKK (2 - (t + 1)) _ _ (by omega) ⟨t + 1, by omega, hB.drewN q, hT.drewN q, by kernel_rfl, rfl, by kernel_rfl, ?_⟩
    show Value.int _ _ = Value.int _ _
    simp
  · go_wp2_with fail
    go_ret
    exact ⟨rfl, hT⟩
end Go.Proofs.Ytagmbdoajafejaa
