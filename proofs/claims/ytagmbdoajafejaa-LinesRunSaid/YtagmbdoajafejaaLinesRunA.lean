/- LinesRun: the line and the document's line, side by side. -/
import Derived.Test.YtagmbdoajafejaaRef07W
import Derived.Test.YtagmbdoajafejaaLinesBInt
import Derived.Test.YtagmbdoajafejaaLinesCInt
namespace Go.Proofs.Ytagmbdoajafejaa
open Go.RowKit
set_option linter.unusedSimpArgs false
set_option linter.unusedVariables false
/-- What was sent j ticks ago. -/
def ent (S : Sends) (j : Nat) : Int × Bool := if j ≤ S.length then (S[S.length - j]?).getD (0, false) else (0, false)
/-- Where nothing was sent the number is 0. -/
def Zeros (S : Sends) : Prop := ∀ x ∈ S, x.2 = false → x.1 = 0
theorem Zeros.nil : Zeros [] := fun x h => by simp at h
theorem Zeros.add {S : Sends} (h : Zeros S) {x : Int × Bool} (hx : x.2 = false → x.1 = 0) : Zeros (S ++ [x]) := fun y hy => by
  simp only [List.mem_append, List.mem_singleton] at hy
  rcases hy with hy | rfl
  · exact h y hy
  · exact hx
theorem ent_zero {S : Sends} (h : Zeros S) (j : Nat) (hj : (ent S j).2 = false) : ent S j = (0, false) := by
  unfold ent at hj ⊢
  split
  · rename_i hle
    rw [if_pos hle] at hj
    cases hS : S[S.length - j]? with
    | none => rfl
    | some x =>
      rw [hS] at hj
      have := h x (List.mem_of_getElem? hS) (by simpa using hj)
      obtain ⟨x1, x2⟩ := x
      simp at hj this ⊢
      exact ⟨this, hj⟩
  · rfl
theorem at_ent {S : Sends} (h : Zeros S) {hop k : Nat} (hk : k ≤ hop) : atRef hop S (S.length + k) = ent S (hop - k) := by
  by_cases hle : hop ≤ S.length + k
  · have e : S.length + k - hop = S.length - (hop - k) := by omega
    have hle' : hop - k ≤ S.length := by omega
    have hz := ent_zero h (hop - k)
    simp only [atRef, hle, if_true, e, ent, hle'] at hz ⊢
    cases hS : S[S.length - (hop - k)]? with
    | none => rfl
    | some x =>
      obtain ⟨x1, x2⟩ := x
      rw [hS] at hz
      cases x2 with
      | true => rfl
      | false => simpa using (hz rfl).symm
  · have hle' : ¬ hop - k ≤ S.length := by omega
    simp [atRef, ent, hle, hle']
theorem ent_add {S : Sends} {x : Int × Bool} {j : Nat} : ent (S ++ [x]) (j + 1) = if j = 0 then x else ent S j := by
  unfold ent
  by_cases h0 : j = 0
  · subst h0
    simp
  · rw [if_neg h0]
    by_cases hle : j ≤ S.length
    · have h1 : j + 1 ≤ (S ++ [x]).length := by simp; omega
      rw [if_pos h1, if_pos hle]
      have e : (S ++ [x]).length - (j + 1) = S.length - j := by simp
      rw [e, List.getElem?_append_left (by omega)]
    · have h1 : ¬ j + 1 ≤ (S ++ [x]).length := by simp; omega
      rw [if_neg h1, if_neg hle]
/-- A line's way, by what was sent. -/
def wayOf (hop : Nat) (S : Sends) : List Value :=
  if hop = 1 then [.int .i64 (ent S 1).1, .bool (ent S 1).2] else [.int .i64 (ent S 2).1, .bool (ent S 2).2, .int .i64 (ent S 1).1, .bool (ent S 1).2]
/-- What is on its way, as a list: its length. -/
def wayN (hop : Nat) (S : Sends) : Nat := if hop = 2 ∧ (ent S 1).2 = true then 1 else 0
theorem lineHere {w : World} {bL bW hop : Nat} {S : Sends} {t : Int} (hh : hop = 1 ∨ hop = 2) (h : LineInt w bL bW hop (wayOf hop S) t) :
    Calls Try.prog 14 #[.pointer (some ⟨bL, 0, none⟩)] w fun e w' => e = .returned (.tuple #[.int .i64 (ent S hop).1, .bool (ent S hop).2]) ∧ ∃ n, w' = w.drewN n := by
  rcases hh with rfl | rfl
  · exact hereInt w bL bW 1 _ _ _ t (by decide) h
  · exact hereInt w bL bW 2 _ _ _ t (by decide) h
theorem lineWay {w : World} {bL bW hop : Nat} {S : Sends} {t : Int} (hh : hop = 1 ∨ hop = 2) (h : LineInt w bL bW hop (wayOf hop S) t) :
    Calls Try.prog 17 #[.pointer (some ⟨bL, 0, none⟩)] w fun e w' => ∃ ao, e = .returned (.slice ao (wayN hop S) (wayN hop S)) ∧ Below w.heap.size w w' ∧ Rd .i64 w' ao (wayN hop S) (fun _ => (ent S 1).1) ∧
      (0 < wayN hop S → ∃ g, ao = some ⟨g, 0, none⟩ ∧ w.heap.size ≤ g ∧ ∃ cur, Blk w' g cur 3 ∧ wayN hop S ≤ cur.size) := by
  rcases hh with rfl | rfl
  · refine (wayInt_1 w bL bW _ _ t h).mono ?_
    rintro e w' ⟨rfl, rfl⟩
    exact ⟨none, by simp [wayN], Below.refl _ _, fun i hi => by simp [wayN] at hi, fun hp => by simp [wayN] at hp⟩
  · cases hb : (ent S 1).2 with
    | false =>
      have h' : LineInt w bL bW 2 [.int .i64 (ent S 2).1, .bool (ent S 2).2, .int .i64 (ent S 1).1, .bool false] t := by simpa [wayOf, hb] using h
      refine (wayInt_2_no w bL bW _ _ _ t h').mono ?_
      rintro e w' ⟨rfl, hw⟩
      have e0 : wayN 2 S = 0 := by simp [wayN, hb]
      rw [e0]
      exact ⟨none, rfl, hw, fun i hi => absurd hi (by omega), fun hp => absurd hp (by omega)⟩
    | true =>
      have h' : LineInt w bL bW 2 [.int .i64 (ent S 2).1, .bool (ent S 2).2, .int .i64 (ent S 1).1, .bool true] t := by simpa [wayOf, hb] using h
      refine (wayInt_2_yes w bL bW _ _ _ t h').mono ?_
      rintro e w' ⟨g, rfl, hw, hg, cur, hc, hc0⟩
      have e0 : wayN 2 S = 1 := by simp [wayN, hb]
      rw [e0]
      refine ⟨_, rfl, hw, Rd.of_blk hc (fun i hi => by obtain rfl : i = 0 := by omega
                                                       exact hc0), fun _ => ⟨g, rfl, hg, cur, hc, ?_⟩⟩
      exact (Array.getElem?_eq_some_iff.1 hc0).1
theorem refWay {B : Nat} {w : World} {bR hop : Nat} {v : Value} {S : Sends} (hh : hop = 1 ∨ hop = 2) (hz : Zeros S) (h : RefAt B w bR hop v S) (hS : S.length ≤ 1000) :
    Calls Try.prog 18 #[.pointer (some ⟨bR, 0, none⟩)] w fun e w' => ∃ ao c, e = .returned (.slice ao (wayN hop S) c) ∧ Below w.heap.size w w' ∧ Rd .i64 w' ao (wayN hop S) (fun _ => (ent S 1).1) := by
  have e1 : atRef hop S (S.length + 1) = if hop = 2 then ent S 1 else (0, false) := by
    rcases hh with rfl | rfl
    · have : S[S.length + 1 - 1]? = none := by simp
      simp [atRef]
    · simpa using at_ent hz (hop := 2) (k := 1) (by omega)
  by_cases hn : hop = 2 ∧ (ent S 1).2 = true
  · have e0 : wayN hop S = 1 := by simp [wayN, hn]
    rw [e0]
    refine (refWay_one h (by omega) hS (by rw [e1, if_pos hn.1]; exact hn.2)).mono ?_
    rintro e w' ⟨g, c, rfl, hw, hr⟩
    rw [e1, if_pos hn.1] at hr
    exact ⟨_, c, rfl, hw, hr⟩
  · have e0 : wayN hop S = 0 := by simp [wayN, hn]
    rw [e0]
    refine (refWay_none h (by omega) hS (by rw [e1]; split <;> simp_all)).mono ?_
    rintro e w' ⟨rfl, q, rfl⟩
    exact ⟨none, 0, rfl, bdrewN (Below.refl _ _) q, fun i hi => absurd hi (by omega)⟩
theorem wayOf_add {hop : Nat} {S : Sends} {x : Int × Bool} (hh : hop = 1 ∨ hop = 2) :
    wayOf hop (S ++ [x]) = if hop = 1 then [.int .i64 x.1, .bool x.2] else [.int .i64 (ent S 1).1, .bool (ent S 1).2, .int .i64 x.1, .bool x.2] := by
  have e1 : ent (S ++ [x]) 1 = x := by simpa using ent_add (S := S) (x := x) (j := 0)
  have e2 : ent (S ++ [x]) 2 = ent S 1 := by simpa using ent_add (S := S) (x := x) (j := 1)
  rcases hh with rfl | rfl <;> simp [wayOf, e1, e2]
theorem lineSend_no {w : World} {bL bW hop : Nat} {S : Sends} {t : Int} (hh : hop = 1 ∨ hop = 2) (h : LineInt w bL bW hop (wayOf hop S) t) (h0 : 0 ≤ t) (h1 : t < 9223372036854775807) (a : Option Addr) (c : Nat) :
    Calls Try.prog 22 #[.pointer (some ⟨bL, 0, none⟩), .slice a 0 c] w fun e w' => e = .returned (.int .i64 0) ∧ LineInt w' bL bW hop (wayOf hop (S ++ [(0, false)])) (t + 1) ∧ Touch [bL, bW] w w' := by
  rw [wayOf_add hh]
  rcases hh with rfl | rfl
  · exact sendInt_1_no w bL bW _ _ t a c h0 h1 h
  · exact sendInt_2_no w bL bW _ _ _ _ t a c h0 h1 h
theorem lineSend_yes {w : World} {bL bW hop : Nat} {S : Sends} {t : Int} (hh : hop = 1 ∨ hop = 2) (h : LineInt w bL bW hop (wayOf hop S) t) (h0 : 0 ≤ t) (h1 : t < 9223372036854775807) (b o c : Nat) (x : Int) (hx : w.cell? ⟨b, o, none⟩ = some (.int .i64 x)) :
    Calls Try.prog 22 #[.pointer (some ⟨bL, 0, none⟩), .slice (some ⟨b, o, none⟩) 1 c] w fun e w' => e = .returned (.int .i64 0) ∧ LineInt w' bL bW hop (wayOf hop (S ++ [(x, true)])) (t + 1) ∧ Touch [bL, bW] w w' := by
  rw [wayOf_add hh]
  rcases hh with rfl | rfl
  · exact sendInt_1_yes w bL bW _ _ t b o x c h0 h1 h hx
  · exact sendInt_2_yes w bL bW _ _ _ _ t b o x c h0 h1 h hx
end Go.Proofs.Ytagmbdoajafejaa
