/- Plain laws: one digit more; how many digits fit. -/
import Derived.Test.YtkdnlmnjhlogmaaZO
namespace Go.Proofs.Ytkdnlmnjhlogmaa
open Go.RowKit Go.Shelf
set_option linter.unusedSimpArgs false
set_option linter.unusedVariables false

/-- The digits of the first groups that are found. -/
def psum (f : Nat → Int) : Nat → Int
  | 0 => 0
  | k + 1 => psum f k + f k
theorem psum_ge (f : Nat → Int) (hf : ∀ k, 0 ≤ f k) (k : Nat) (h : ∀ i, i < k → f i ≠ 0) : (k : Int) ≤ psum f k := by
  induction k with
  | zero => simp [psum]
  | succ k ih =>
    have := ih (fun i hi => h i (by omega))
    have h1 := h k (by omega)
    have h2 := hf k
    rw [psum]; omega
theorem stp_before (f : Nat → Int) (hf : ∀ k, 0 ≤ f k) (n : Int) (k : Nat) (h : ∀ i, i < k → f i ≠ 0) (hn : psum f k ≤ n) : stp f n k = (n - psum f k, (List.range k).map f) := by
  induction k with
  | zero => simp [stp, psum]
  | succ k ih =>
    have h1 := h k (by omega)
    have h2 := hf k
    rw [psum] at hn
    have ih := ih (fun i hi => h i (by omega)) (by omega)
    simp only [stp, ih]
    rw [if_neg (by omega), if_neg (by omega), psum, List.range_succ, List.map_append]
    refine Prod.ext ?_ rfl
    show n - psum f k - f k = n - (psum f k + f k)
    omega
theorem grp_at (f : Nat → Int) (hf : ∀ k, 0 ≤ f k) (n : Int) (k : Nat) (h : ∀ i, i < k → f i ≠ 0) (hn : psum f k < n) (hk : f k = 0 ∨ n ≤ psum f k + f k) : grp f n = (n - psum f k) :: ((List.range k).map f).reverse := by
  have h0 := stp_before f hf n k h (by omega)
  have hp := psum_ge f hf k h
  have h1 : stp f n (k + 1) = (0, (List.range k).map f ++ [n - psum f k]) := by
    simp only [stp, h0]
    rw [if_neg (by omega)]
    by_cases hc : f k = 0 ∨ n - psum f k < f k
    · rw [if_pos hc]
    · rw [if_neg hc]
      have : n - psum f k = f k := by omega
      rw [this]; simp
  rw [← grp_of f hf n (by omega) (k + 1) (by rw [h1]), h1]
  simp
/-- Where the last group that is found lies. -/
theorem grp_where (f : Nat → Int) (hf : ∀ k, 0 ≤ f k) (n : Int) (hn : 0 < n) : ∃ k, (∀ i, i < k → f i ≠ 0) ∧ psum f k < n ∧ (f k = 0 ∨ n ≤ psum f k + f k) := by
  have go : ∀ F k : Nat, (∀ i, i < k → f i ≠ 0) → psum f k < n → n ≤ F + psum f k → ∃ k, (∀ i, i < k → f i ≠ 0) ∧ psum f k < n ∧ (f k = 0 ∨ n ≤ psum f k + f k) := by
    intro F
    induction F with
    | zero => intro k h1 h2 h3; omega
    | succ F ih =>
      intro k h1 h2 h3
      by_cases hc : f k = 0 ∨ n ≤ psum f k + f k
      · exact ⟨k, h1, h2, hc⟩
      · have := hf k
        refine ih (k + 1) (fun i hi => ?_) (by rw [psum]; omega) (by rw [psum]; omega)
        by_cases e : i = k
        · subst e; omega
        · exact h1 i (by omega)
  exact go n.toNat 0 (fun i hi => by omega) (by simpa [psum] using hn) (by simp [psum]; omega)
theorem grp_next (f : Nat → Int) (hf : ∀ k, 0 ≤ f k) (n : Int) (hn : 0 ≤ n) : grp f (n + 1) = 1 :: grp f n ∨ ∃ x tl, grp f n = x :: tl ∧ grp f (n + 1) = (x + 1) :: tl := by
  rcases Int.lt_or_eq_of_le hn with h | h
  · obtain ⟨k, h1, h2, h3⟩ := grp_where f hf n h
    have e := grp_at f hf n k h1 h2 h3
    by_cases hc : f k = 0 ∨ n + 1 ≤ psum f k + f k
    · right
      have e2 := grp_at f hf (n + 1) k h1 (by omega) hc
      exact ⟨_, _, e, by rw [e2]; congr 1; omega⟩
    · left
      have hk : n = psum f k + f k := by omega
      have hfk := hf (k + 1)
      have e2 := grp_at f hf (n + 1) (k + 1) (fun i hi => by
        by_cases e : i = k
        · subst e; omega
        · exact h1 i (by omega)) (by rw [psum]; omega) (by rw [psum]; omega)
      rw [e2, e, List.range_succ, List.map_append, List.reverse_append, psum]
      have ha : n + 1 - (psum f k + f k) = 1 := by omega
      have hb : n - psum f k = f k := by omega
      rw [ha, hb]; rfl
  · subst h
    left
    have hfk := hf 0
    have := grp_at f hf 1 0 (fun i hi => by omega) (by simp [psum]) (by simp only [psum]; omega)
    rw [grp_zero]
    simpa [psum] using this

/-- The bytes of so many digits. -/
def byt (f : Nat → Int) (sl : Int) (n : Nat) : Int := (n : Int) + (((grp f n).length : Int) - 1) * sl
theorem fits_byt (f : Nat → Int) (sl b : Int) (n : Nat) : fitsIn f sl b n ↔ byt f sl n ≤ b := Iff.rfl
theorem len_next (f : Nat → Int) (hf : ∀ k, 0 ≤ f k) (n : Nat) : (grp f n).length ≤ (grp f (n + 1 : Nat)).length := by
  rcases grp_next f hf n (by omega) with h | ⟨x, tl, h1, h2⟩
  · rw [show ((n + 1 : Nat) : Int) = (n : Int) + 1 by omega, h]; simp
  · rw [show ((n + 1 : Nat) : Int) = (n : Int) + 1 by omega, h2, h1]; simp
theorem byt_next (f : Nat → Int) (hf : ∀ k, 0 ≤ f k) (sl : Int) (hs : 0 ≤ sl) (n : Nat) : byt f sl n + 1 ≤ byt f sl (n + 1) := by
  have h := len_next f hf n
  have : (((grp f n).length : Int) - 1) * sl ≤ (((grp f (n + 1 : Nat)).length : Int) - 1) * sl := Int.mul_le_mul_of_nonneg_right (by omega) hs
  unfold byt; omega
theorem byt_more (f : Nat → Int) (hf : ∀ k, 0 ≤ f k) (sl : Int) (hs : 0 ≤ sl) (n j : Nat) : byt f sl n + j ≤ byt f sl (n + j) := by
  induction j with
  | zero => simp
  | succ j ih => have := byt_next f hf sl hs (n + j); rw [← Nat.add_assoc]; omega
theorem rst_psum (f : Nat → Int) (hf : ∀ k, 0 ≤ f k) (sl b : Int) (k : Nat) (h : ∀ i, i < k → f i ≠ 0) : (rst f sl b k).1 = psum f k ∧ rleft f sl b k = b - psum f k - k * sl := by
  have main : (rst f sl b k).1 = psum f k ∧ (rst f sl b k).2 = (if k = 0 then b else b - psum f k - ((k : Int) - 1) * sl) := by
    induction k with
    | zero => simp [rst, psum]
    | succ k ih =>
      obtain ⟨i1, i2⟩ := ih (fun i hi => h i (by omega))
      have hp := psum_ge f hf k (fun i hi => h i (by omega))
      simp only [rst, psum, i1, i2, true_and]
      by_cases hk : k = 0
      · subst hk; simp [psum]
      · rw [if_pos (show 0 < psum f k by omega), if_neg hk, if_neg (by omega)]
        rw [show (((k + 1 : Nat) : Int) - 1) = ((k : Int) - 1) + 1 by omega, Int.add_mul]; omega
  obtain ⟨m1, m2⟩ := main
  refine ⟨m1, ?_⟩
  have hp := psum_ge f hf k h
  rw [rleft, m1, m2]
  by_cases hk : k = 0
  · subst hk; simp [psum]
  · rw [if_pos (by omega), if_neg hk]
    have : (k : Int) * sl = ((k : Int) - 1) * sl + sl := by
      conv => lhs; rw [show (k : Int) = ((k : Int) - 1) + 1 by omega, Int.add_mul]
      omega
    omega
theorem first_stop (st : Nat → Bool) (N : Nat) (h : st N = true) : ∃ k, k ≤ N ∧ st k = true ∧ ∀ j, j < k → st j = false := by
  induction N with
  | zero => exact ⟨0, Nat.le_refl _, h, fun j hj => by omega⟩
  | succ N ih =>
    by_cases hc : ∃ i, i ≤ N ∧ st i = true
    · have go : ∀ M, M ≤ N → st M = true → ∃ k, k ≤ N ∧ st k = true ∧ ∀ j, j < k → st j = false := by
        intro M
        induction M using Nat.strongRecOn with
        | ind M ihm =>
          intro hM hst
          by_cases hc2 : ∃ i, i < M ∧ st i = true
          · obtain ⟨i, hi, hs⟩ := hc2
            exact ihm i hi (by omega) hs
          · refine ⟨M, hM, hst, fun j hj => ?_⟩
            cases hj2 : st j
            · rfl
            · exact absurd ⟨j, hj, hj2⟩ hc2
      obtain ⟨i, hi, hs⟩ := hc
      obtain ⟨k, h1, h2, h3⟩ := go i hi hs
      exact ⟨k, by omega, h2, h3⟩
    · refine ⟨N + 1, Nat.le_refl _, h, fun j hj => ?_⟩
      cases hj2 : st j
      · rfl
      · exact absurd ⟨j, by omega, hj2⟩ hc
theorem room_law (f : Nat → Int) (hf : ∀ k, 0 ≤ f k) (sl b : Int) (hs : 0 ≤ sl) (hb : 0 ≤ b) :
    ∃ R : Nat, roomL f sl b = R ∧ (R : Int) ≤ b ∧ (R = 0 ∨ fitsIn f sl b R) ∧ ¬ fitsIn f sl b (R + 1) := by
  have hstop : rstop f sl b b.toNat = true ∨ ∃ j, j < b.toNat ∧ rstop f sl b j = true := by
    by_cases hc : ∃ j, j < b.toNat ∧ rstop f sl b j = true
    · exact .inr hc
    · left
      have hall : ∀ j, j < b.toNat → rstop f sl b j = false := fun j hj => by
        cases h : rstop f sl b j
        · rfl
        · exact absurd ⟨j, hj, h⟩ hc
      obtain ⟨h1, h2, _⟩ := rst_left f hf sl b hs hb b.toNat hall
      have : rleft f sl b b.toNat ≤ 0 := by unfold rleft; split <;> omega
      simp [rstop, this]
  obtain ⟨k, hk, hno⟩ : ∃ k, rstop f sl b k = true ∧ ∀ j, j < k → rstop f sl b j = false := by
    rcases hstop with h | ⟨j, _, h⟩
    · obtain ⟨k, _, h2, h3⟩ := first_stop _ _ h; exact ⟨k, h2, h3⟩
    · obtain ⟨k, _, h2, h3⟩ := first_stop _ _ h; exact ⟨k, h2, h3⟩
  have hne : ∀ i, i < k → f i ≠ 0 := fun i hi h => by
    have := hno i hi
    simp [rstop, h] at this
  obtain ⟨r1, r2⟩ := rst_psum f hf sl b k hne
  have hp := psum_ge f hf k hne
  rw [roomL_at f hf sl b hs hb k hno hk, r1, r2]
  have hfk := hf k
  rw [rstop, r2] at hk
  simp only [Bool.or_eq_true, decide_eq_true_eq] at hk
  have hksl : 0 ≤ (k : Int) * sl := Int.mul_nonneg (by omega) hs
  rcases Int.lt_or_le 0 (b - psum f k - k * sl) with hr | hr
  · obtain ⟨R, hR⟩ : ∃ R : Nat, b - k * sl = R := ⟨(b - k * sl).toNat, by omega⟩
    refine ⟨R, by omega, by omega, .inr ?_, ?_⟩
    · have hg := grp_at f hf (R : Int) k hne (by omega) (by omega)
      rw [fitsIn, hg]
      simp only [List.length_cons, List.length_reverse, List.length_map, List.length_range]
      rw [show ((k + 1 : Nat) : Int) - 1 = k by omega]; omega
    · have hg := grp_at f hf (R : Int) k hne (by omega) (by omega)
      have hl := len_next f hf R
      rw [hg] at hl
      simp only [List.length_cons, List.length_reverse, List.length_map, List.length_range] at hl
      rw [fitsIn]
      have : (k : Int) * sl ≤ (((grp f (R + 1 : Nat)).length : Int) - 1) * sl := Int.mul_le_mul_of_nonneg_right (by omega) hs
      omega
  · obtain ⟨R, hR⟩ : ∃ R : Nat, psum f k = R := ⟨(psum f k).toNat, by omega⟩
    have hRb : (R : Int) ≤ b := by
      cases k with
      | zero => simp [psum] at hR; omega
      | succ k =>
        have hn := hno k (by omega)
        obtain ⟨r1', r2'⟩ := rst_psum f hf sl b k (fun i hi => hne i (by omega))
        rw [rstop, r2'] at hn
        simp only [Bool.or_eq_false_iff, decide_eq_false_iff_not] at hn
        have : 0 ≤ (k : Int) * sl := Int.mul_nonneg (by omega) hs
        rw [psum] at hR; omega
    refine ⟨R, by omega, hRb, ?_, ?_⟩
    · cases k with
      | zero => left; simp [psum] at hR; omega
      | succ k =>
        right
        have hn := hno k (by omega)
        obtain ⟨r1', r2'⟩ := rst_psum f hf sl b k (fun i hi => hne i (by omega))
        rw [rstop, r2'] at hn
        simp only [Bool.or_eq_false_iff, decide_eq_false_iff_not] at hn
        have hfk0 := hne k (by omega)
        have hfk1 := hf k
        rw [psum] at hR
        have hg := grp_at f hf (R : Int) k (fun i hi => hne i (by omega)) (by omega) (by omega)
        rw [fitsIn, hg]
        simp only [List.length_cons, List.length_reverse, List.length_map, List.length_range]
        rw [show ((k + 1 : Nat) : Int) - 1 = k by omega]; omega
    · have hg := grp_at f hf ((R + 1 : Nat) : Int) k hne (by omega) (by omega)
      rw [fitsIn, hg]
      simp only [List.length_cons, List.length_reverse, List.length_map, List.length_range]
      rw [show ((k + 1 : Nat) : Int) - 1 = k by omega]; omega
/-- All fewer digits fit, too. -/
theorem fits_less (f : Nat → Int) (hf : ∀ k, 0 ≤ f k) (sl b : Int) (hs : 0 ≤ sl) (R m : Nat) (hm : m < R) (h : fitsIn f sl b R) : fitsIn f sl b (m + 1) := by
  rw [fits_byt] at h ⊢
  have := byt_more f hf sl hs (m + 1) (R - (m + 1))
  rw [show m + 1 + (R - (m + 1)) = R by omega] at this
  omega
end Go.Proofs.Ytkdnlmnjhlogmaa
