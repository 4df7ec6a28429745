/- Rings: what the functions answer, in plain integers. -/
import Derived.Test.YteogoddnefeleaaDoorBase
namespace Go.Proofs.YteogoddnefeleaaDoor
def okR (n d : Int) : Bool := decide (4 ≤ n) && decide (n ≤ 16) && decide (d ≤ 1)
def inR (n i : Int) : Bool := decide (0 ≤ i) && decide (i < n)
def okH (h : Int) : Bool := decide (h = 1) || decide (h = 2)
def sgn (d : Int) : Int := if d = 1 then -1 else 1
/-- A step. -/
def stepI (n d i k : Int) : Int := if okR n d && inR n i then (i + sgn d * k) % n else -1
/-- A distance. -/
def distI (n d f t : Int) : Int := if okR n d && inR n f && inR n t then (sgn d * (t - f)) % n else -1
def srcI (n d i h : Int) : Int := if okH h then stepI n d i (-h) else -1
def linkI (n d i h : Int) : Int := if okR n d && inR n i && okH h then 4 * i + 2 * d + h - 1 else -1
def placeI (n d f i : Int) : Int := if d = 1 then distI n d (stepI n 0 f 1) i else distI n d f i
theorem okR_true {n d : Int} (h : okR n d = true) : 4 ≤ n ∧ n ≤ 16 ∧ d ≤ 1 := by
  simp [okR] at h
  exact ⟨h.1.1, h.1.2, h.2⟩
theorem inR_true {n i : Int} (h : inR n i = true) : 0 ≤ i ∧ i < n := by
  simp [inR] at h
  exact h
theorem okH_true {h : Int} (e : okH h = true) : h = 1 ∨ h = 2 := by
  simp [okH] at e
  exact e
theorem sgn_zero : sgn 0 = 1 := rfl
theorem sgn_one : sgn 1 = -1 := rfl
/-- The rest as Go takes it, and the rest that is never negative. -/
theorem round_emod {n i : Int} (hn : 0 < n) : Int.tmod (Int.tmod i n + n) n = i % n := by
  have h1 := Int.tmod_lt_of_pos i hn
  have h2 : -n < Int.tmod i n := Int.lt_tmod_of_pos i hn
  rw [Int.tmod_eq_emod_of_nonneg (by omega), Int.add_emod_right]
  have h3 := Int.tmod_add_mul_tdiv i n
  conv => rhs; rw [← h3]
  simp
theorem emod_tmod {n a s k : Int} : (a + s * Int.tmod k n) % n = (a + s * k) % n := by
  have h3 := Int.tmod_add_mul_tdiv k n
  conv => rhs; rw [← h3]
  rw [Int.mul_add, ← Int.add_assoc, Int.mul_left_comm]
  simp
/-- The next node. -/
def nextI (n d i : Int) : Int := if d = 0 then (if i = n - 1 then 0 else i + 1) else (if i = 0 then n - 1 else i - 1)
theorem nextI_emod {n d i : Int} (hn : 4 ≤ n) (hi : 0 ≤ i ∧ i < n) (hd : d = 0 ∨ d = 1) : nextI n d i = (i + sgn d) % n := by
  rcases hd with rfl | rfl
  · by_cases h : i = n - 1
    · subst h
      simp [nextI, sgn]
    · simp only [nextI, if_neg h, if_true, sgn]
      rw [Int.emod_eq_of_lt (by simp; omega) (by simp; omega)]
      simp
  · by_cases h : i = 0
    · subst h
      have e : ((0 : Int) + sgn 1) % n = (n - 1) % n := by
        rw [← Int.add_emod_right (0 + sgn 1) n]
        congr 1
        simp [sgn]
        omega
      rw [e, Int.emod_eq_of_lt (by omega) (by omega)]
      simp [nextI]
    · have e : i + sgn 1 = i - 1 := by simp [sgn]; omega
      rw [e, Int.emod_eq_of_lt (by omega) (by omega)]
      simp [nextI, h]
theorem emod_in {n x : Int} (hn : 4 ≤ n) : 0 ≤ x % n ∧ x % n < n := ⟨Int.emod_nonneg x (by omega), Int.emod_lt_of_pos x (by omega)⟩
theorem nextI_go {n d x : Int} (hn : 4 ≤ n) (hd : d = 0 ∨ d = 1) (j : Nat) : nextI n d ((x + sgn d * j) % n) = (x + sgn d * (j + 1 : Nat)) % n := by
  rw [nextI_emod hn (emod_in hn) hd, Int.emod_add_emod]
  congr 1
  push_cast
  rw [Int.mul_add, Int.mul_one, Int.add_assoc]
def otherI (d : Int) : Int := if d = 0 then 1 else 0
theorem sgn_other {d : Int} (hd : d = 0 ∨ d = 1) : sgn (otherI d) = -sgn d := by
  rcases hd with rfl | rfl <;> decide
theorem other_in {d : Int} : otherI d = 0 ∨ otherI d = 1 := by
  unfold otherI
  split <;> simp
/-- What n nodes there may be. -/
theorem sizes {n : Int} (h : 4 ≤ n) (h' : n ≤ 16) : n = 4 ∨ n = 5 ∨ n = 6 ∨ n = 7 ∨ n = 8 ∨ n = 9 ∨ n = 10 ∨ n = 11 ∨ n = 12 ∨ n = 13 ∨ n = 14 ∨ n = 15 ∨ n = 16 := by omega
/-- A distance's steps lead there, fewer do not. -/
theorem dist_at {n d f t : Int} (h : 4 ≤ n) (h' : n ≤ 16) (hd : d = 0 ∨ d = 1) (hf : 0 ≤ f ∧ f < n) (ht : 0 ≤ t ∧ t < n) (j : Int) (hj : 0 ≤ j) (hD : j ≤ (sgn d * (t - f)) % n) :
    ((f + sgn d * j) % n = t ↔ j = (sgn d * (t - f)) % n) := by
  rcases sizes h h' with rfl | rfl | rfl | rfl | rfl | rfl | rfl | rfl | rfl | rfl | rfl | rfl | rfl <;> rcases hd with rfl | rfl <;> simp only [sgn] at hD ⊢ <;> constructor <;> intro h1 <;> simp at h1 hD ⊢ <;> omega
/-- A link's ends. -/
def okE (n k : Int) : Bool := okR n 0 && decide (0 ≤ k) && decide (k < 4 * n)
def endF (n k : Int) : Int := if okE n k then k / 4 else -1
def endT (n k : Int) : Int := if okE n k then stepI n (k % 4 / 2) (k / 4) (k % 2 + 1) else -1
def endD (n k : Int) : Int := if okE n k then k % 4 / 2 else 0
def endH (n k : Int) : Int := if okE n k then k % 2 + 1 else 0
theorem okE_true {n k : Int} (h : okE n k = true) : 4 ≤ n ∧ n ≤ 16 ∧ 0 ≤ k ∧ k < 4 * n := by
  simp [okE, okR] at h
  omega
theorem okE_false {n k : Int} (h : okE n k = false) (h4 : 4 ≤ n) (h16 : n ≤ 16) : k < 0 ∨ 4 * n ≤ k := by
  simp [okE, okR] at h
  omega
/-- Whether the link k is the one of d, i, h. -/
def isLink (n d i h k : Int) : Bool := okE n k && decide (k / 4 = i) && decide (k % 4 / 2 = d) && decide (k % 2 + 1 = h)
theorem linkI_range {n d i h : Int} (hd : 0 ≤ d) : linkI n d i h = -1 ∨ (0 ≤ linkI n d i h ∧ linkI n d i h < 64) := by
  unfold linkI
  split
  · rename_i hc
    simp at hc
    have h1 := okR_true hc.1.1
    have h2 := inR_true hc.1.2
    have h3 := okH_true hc.2
    right
    omega
  · exact .inl rfl
theorem linkI_iff {n d i h k : Int} (hd : 0 ≤ d) (hk : 0 ≤ k) : linkI n d i h = k ↔ endF n k ≥ 0 ∧ endF n k = i ∧ endD n k = d ∧ endH n k = h := by
  unfold linkI endF endD endH
  by_cases he : okE n k = true
  · have h0 := okE_true he
    rw [if_pos he, if_pos he, if_pos he]
    split
    · rename_i hc
      simp at hc
      have h1 := okR_true hc.1.1
      have h2 := inR_true hc.1.2
      have h3 := okH_true hc.2
      omega
    · rename_i hc
      constructor
      · intro h; omega
      · rintro ⟨h1, h2, h3, h4⟩
        refine absurd ?_ hc
        simp [okR, inR, okH]
        omega
  · have he' : okE n k = false := by simpa using he
    simp only [he']
    constructor
    · split
      · rename_i hc
        simp at hc
        have h1 := okR_true hc.1.1
        have h2 := inR_true hc.1.2
        have h3 := okH_true hc.2
        have h0 := okE_false he' h1.1 h1.2.1
        omega
      · omega
    · intro h
      simp at h
/-- Where a link's number is of direction d and hop h. -/
def srcK (n d i h : Int) : Int := if okR n d && inR n i && okH h then 4 * srcI n d i h + 2 * d + h - 1 else -1
theorem srcI_none {n d i h : Int} (hc : (okR n d && inR n i && okH h) = false) : srcI n d i h = -1 := by
  unfold srcI stepI
  split
  · rename_i h1
    rw [h1, Bool.and_true] at hc
    rw [hc]
    rfl
  · rfl
theorem srcI_val {n d i h : Int} (hc : (okR n d && inR n i && okH h) = true) : srcI n d i h = (i + sgn d * -h) % n := by
  simp at hc
  simp [srcI, stepI, hc.1.1, hc.1.2, hc.2]
theorem srcK_range {n d i h : Int} (hd : 0 ≤ d) : srcK n d i h = -1 ∨ (0 ≤ srcK n d i h ∧ srcK n d i h < 64) := by
  unfold srcK
  split
  · rename_i hc
    have hv := srcI_val hc
    simp at hc
    have h1 := okR_true hc.1.1
    have h3 := okH_true hc.2
    have h4 := emod_in (x := i + sgn d * -h) h1.1
    rw [hv]
    right
    omega
  · exact .inl rfl
theorem back_iff {n d i h f : Int} (h4 : 4 ≤ n) (h16 : n ≤ 16) (hd : d = 0 ∨ d = 1) (hi : 0 ≤ i ∧ i < n) (hf : 0 ≤ f ∧ f < n) (hh : h = 1 ∨ h = 2) : (f + sgn d * h) % n = i ↔ f = (i + sgn d * -h) % n := by
  rcases sizes h4 h16 with rfl | rfl | rfl | rfl | rfl | rfl | rfl | rfl | rfl | rfl | rfl | rfl | rfl <;> rcases hd with rfl | rfl <;> rcases hh with rfl | rfl <;> simp only [sgn] <;> constructor <;> intro h1 <;> simp at h1 ⊢ <;> omega
theorem srcK_iff {n d i h k : Int} (hd : 0 ≤ d) (hk : 0 ≤ k) : srcK n d i h = k ↔ endF n k ≥ 0 ∧ endT n k = i ∧ endD n k = d ∧ endH n k = h := by
  by_cases he : okE n k = true
  · have h0 := okE_true he
    have e1 : endF n k = k / 4 := by simp [endF, he]
    have e2 : endD n k = k % 4 / 2 := by simp [endD, he]
    have e3 : endH n k = k % 2 + 1 := by simp [endH, he]
    have e4 : endT n k = (k / 4 + sgn (k % 4 / 2) * (k % 2 + 1)) % n := by
      have ho : okR n (k % 4 / 2) = true := by simp [okR]; omega
      have hi : inR n (k / 4) = true := by simp [inR]; omega
      simp [endT, he, stepI, ho, hi]
    have hE := emod_in (x := k / 4 + sgn (k % 4 / 2) * (k % 2 + 1)) h0.1
    rw [e1, e2, e3, e4]
    cases hc : okR n d && inR n i && okH h with
    | true =>
      have hv := srcI_val hc
      have hk2 : srcK n d i h = 4 * srcI n d i h + 2 * d + h - 1 := by simp [srcK, hc]
      simp at hc
      have h1 := okR_true hc.1.1
      have h2 := inR_true hc.1.2
      have h3 := okH_true hc.2
      have hE2 := emod_in (x := i + sgn d * -h) h0.1
      have hb := back_iff (f := k / 4) h1.1 h1.2.1 (show d = 0 ∨ d = 1 by omega) h2 (by omega) h3
      rw [hk2, hv]
      constructor
      · intro h5
        have h6 : k % 4 / 2 = d := by omega
        have h7 : k % 2 + 1 = h := by omega
        rw [h6, h7]
        exact ⟨by omega, hb.2 (by omega), rfl, rfl⟩
      · rintro ⟨h5, h6, h7, h8⟩
        rw [h7, h8] at h6
        have := hb.1 h6
        omega
    | false =>
      have hk2 : srcK n d i h = -1 := by simp [srcK, hc]
      rw [hk2]
      constructor
      · intro h; omega
      · rintro ⟨h1, h2, h3, h4⟩
        have hcc : (okR n d && inR n i && okH h) = true := by simp [okR, inR, okH]; omega
        simp [hcc] at hc
  · have he' : okE n k = false := by simpa using he
    have e1 : endF n k = -1 := by simp [endF, he']
    rw [e1]
    constructor
    · intro h5
      unfold srcK at h5
      split at h5
      · rename_i hc
        have hv := srcI_val hc
        simp at hc
        have h1 := okR_true hc.1.1
        have h3 := okH_true hc.2
        have h0 := okE_false he' h1.1 h1.2.1
        have hE2 := emod_in (x := i + sgn d * -h) h1.1
        omega
      · omega
    · intro h; omega
theorem srcI_of_srcK {n d i h k : Int} (hd : 0 ≤ d) (hk : 0 ≤ k) (e : srcK n d i h = k) : srcI n d i h = endF n k := by
  have h1 := (srcK_iff hd hk).1 e
  have h2 : okE n k = true := by
    cases h3 : okE n k with
    | true => rfl
    | false => simp [endF, h3] at h1
  have h4 : endF n k = k / 4 := by simp [endF, h2]
  unfold srcK at e
  split at e
  · rename_i hc
    simp at hc
    have h5 := okR_true hc.1.1
    have h6 := okH_true hc.2
    omega
  · omega
theorem srcI_of_none {n d i h : Int} (hd : 0 ≤ d) (e : srcK n d i h = -1) : srcI n d i h = -1 := by
  unfold srcK at e
  split at e
  · rename_i hc
    have hv := srcI_val hc
    simp at hc
    have h1 := okR_true hc.1.1
    have h3 := okH_true hc.2
    have hE2 := emod_in (x := i + sgn d * -h) h1.1
    omega
  · rename_i hc
    exact srcI_none (by simpa using hc)
/-- A path. -/
def pathOk (n d f t h : Int) : Bool := decide (0 < distI n d f t) && okH h && decide (h ≤ distI n d f t)
def pathN (n d f t h : Int) : Nat := if pathOk n d f t h then ((distI n d f t - h + 1) / 2).toNat else 0
/-- Back from t: the node where the last hop begins, then by skips. -/
def fwdL (n d t h : Int) (i : Nat) : Int := (t + sgn d * -(h + 2 * i)) % n
def pathL (n d f t h : Int) (i : Nat) : Int := fwdL n d t h (pathN n d f t h - 1 - i)
def hopJ (h : Int) (j : Nat) : Int := if j = 0 then h else 2
def atJ (n d t h : Int) (j : Nat) : Int := if j = 0 then t else fwdL n d t h (j - 1)
theorem distI_le {n d f t : Int} (h : 0 < distI n d f t) : okR n d = true ∧ inR n f = true ∧ inR n t = true ∧ distI n d f t < n := by
  unfold distI at h ⊢
  split at h
  · rename_i hc
    rw [if_pos hc]
    simp at hc
    exact ⟨hc.1.1, hc.1.2, hc.2, (emod_in (okR_true hc.1.1).1).2⟩
  · omega
theorem atJ_in {n d t h : Int} {j : Nat} (hn : 4 ≤ n) (ht : inR n t = true) : inR n (atJ n d t h j) = true := by
  unfold atJ
  split
  · exact ht
  · have := emod_in (x := t + sgn d * -(h + 2 * (j - 1 : Nat))) hn
    simp only [inR, fwdL, Bool.and_eq_true]
    exact ⟨decide_eq_true this.1, decide_eq_true this.2⟩
theorem step_at {n d t h : Int} {j : Nat} (hr : okR n d = true) (ht : inR n t = true) : stepI n d (atJ n d t h j) (-(hopJ h j)) = fwdL n d t h j := by
  have h4 := (okR_true hr).1
  have hi := atJ_in (d := d) (h := h) (j := j) h4 ht
  simp only [stepI, hr, hi, Bool.and_self, if_true]
  unfold atJ hopJ
  by_cases hj : j = 0
  · subst hj
    simp [fwdL]
  · rw [if_neg hj, if_neg hj]
    unfold fwdL
    rw [Int.emod_add_emod]
    congr 1
    rw [Int.add_assoc, ← Int.mul_add]
    congr 2
    omega
theorem distI_ge {n d f t : Int} : -1 ≤ distI n d f t := by
  unfold distI
  split
  · rename_i hc
    simp at hc
    have := emod_in (x := sgn d * (t - f)) (okR_true hc.1.1).1
    omega
  · omega
theorem back_at {n d t h : Int} (hr : okR n d = true) (hd : 0 ≤ d) (ht : inR n t = true) : stepI n (otherI d) t h = fwdL n d t h 0 := by
  have h1 := okR_true hr
  have h2 : okR n (otherI d) = true := by
    have := @other_in d
    simp [okR]
    omega
  simp only [stepI, h2, ht, Bool.and_self, if_true, fwdL]
  rw [sgn_other (by omega)]
  congr 1
  simp [Int.neg_mul, Int.mul_neg]
theorem dist_back {n d f t h : Int} (hd : 0 ≤ d) (hh : okH h = true) (hD : 0 < distI n d f t) (hle : h < distI n d f t) : distI n d f (fwdL n d t h 0) = distI n d f t - h := by
  obtain ⟨h1, h2, h3, h4⟩ := distI_le hD
  have k1 := okR_true h1
  have k2 := inR_true h2
  have k3 := inR_true h3
  have kh := okH_true hh
  have k4 := emod_in (x := t + sgn d * -(h + 2 * (0 : Nat))) k1.1
  have k5 : inR n (fwdL n d t h 0) = true := by
    simp only [inR, fwdL, Bool.and_eq_true]
    exact ⟨decide_eq_true k4.1, decide_eq_true k4.2⟩
  simp only [distI, h1, h2, h3, k5, Bool.and_self, if_true] at hle ⊢
  unfold fwdL
  clear k4 k5 h4 hD h1 h2 h3
  rcases show d = 0 ∨ d = 1 by omega with rfl | rfl <;> rcases sizes k1.1 k1.2.1 with rfl | rfl | rfl | rfl | rfl | rfl | rfl | rfl | rfl | rfl | rfl | rfl | rfl <;> rcases kh with rfl | rfl <;> simp [sgn] at hle ⊢ <;> omega
theorem fwd_back {n d t h : Int} (i : Nat) : fwdL n d (fwdL n d t h 0) 2 i = fwdL n d t h (i + 1) := by
  unfold fwdL
  rw [Int.emod_add_emod]
  congr 1
  rw [Int.add_assoc, ← Int.mul_add]
  congr 2
  omega
/-- How a path goes on, back from its last node. -/
def lastH (r : Int) : Int := if r = 1 then 1 else 2
theorem path_back {n d f t h : Int} (hd : 0 ≤ d) (hok : pathOk n d f t h = true) (hlt : h < distI n d f t) :
    pathOk n d f (fwdL n d t h 0) (lastH (distI n d f t - h)) = true ∧ pathN n d f t h = pathN n d f (fwdL n d t h 0) (lastH (distI n d f t - h)) + 1 ∧
      (∀ i, i < pathN n d f (fwdL n d t h 0) (lastH (distI n d f t - h)) → pathL n d f (fwdL n d t h 0) (lastH (distI n d f t - h)) i = pathL n d f t h i) ∧
      pathL n d f t h (pathN n d f (fwdL n d t h 0) (lastH (distI n d f t - h))) = fwdL n d t h 0 := by
  have ho : 0 < distI n d f t ∧ okH h = true ∧ h ≤ distI n d f t := by simpa [pathOk, and_assoc] using hok
  have hb := dist_back hd ho.2.1 ho.1 hlt
  have hok' : pathOk n d f (fwdL n d t h 0) (lastH (distI n d f t - h)) = true := by
    simp only [pathOk, hb, lastH]
    split
    · rename_i e
      simp [okH]
      omega
    · simp [okH]
      omega
  have hNe : pathN n d f (fwdL n d t h 0) (lastH (distI n d f t - h)) = ((distI n d f t - h - lastH (distI n d f t - h) + 1) / 2).toNat := by rw [pathN, if_pos hok', hb]
  have hN : pathN n d f t h = pathN n d f (fwdL n d t h 0) (lastH (distI n d f t - h)) + 1 := by
    rw [hNe, pathN, if_pos hok]
    unfold lastH
    split <;> omega
  refine ⟨hok', hN, fun i hi => ?_, ?_⟩
  · have h2 : lastH (distI n d f t - h) = 2 := by
      unfold lastH
      split
      · rename_i e
        exfalso
        have e1 : lastH (distI n d f t - h) = 1 := by simp [lastH, e]
        rw [e1] at hNe hi
        omega
      · rfl
    unfold pathL
    rw [hN]
    rw [h2] at hi ⊢
    rw [fwd_back]
    congr 1
    omega
  · unfold pathL
    rw [hN]
    congr 1
    omega
end Go.Proofs.YteogoddnefeleaaDoor
