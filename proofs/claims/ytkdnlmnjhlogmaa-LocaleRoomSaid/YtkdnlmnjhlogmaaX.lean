/- The longest grouped beginning, by the program: the words. -/
import Derived.Test.YtkdnlmnjhlogmaaW
namespace Go.Proofs.Ytkdnlmnjhlogmaa
open Go.RowKit Go.Shelf
set_option linter.unusedSimpArgs false
set_option linter.unusedVariables false

def rn (rs : List Int) (k : Nat) : Nat := (rs.getD k 0).toNat
/-- Where a run begins. -/
def pos (sl : Nat) (rs : List Int) : Nat → Nat
  | 0 => 0
  | k + 1 => pos sl rs k + rn rs k + sl
/-- The digits of the first runs; where they end. -/
def ud (t : List UInt8) (sl : Nat) (rs : List Int) : Nat → List UInt8
  | 0 => []
  | k + 1 => ud t sl rs k ++ (t.drop (pos sl rs k)).take (rn rs k)
def un (sl : Nat) (rs : List Int) : Nat → Nat
  | 0 => 0
  | k + 1 => pos sl rs k + rn rs k
theorem pos_cons (sl : Nat) (x : Int) (xs : List Int) (k : Nat) : pos sl (x :: xs) (k + 1) = x.toNat + sl + pos sl xs k := by
  induction k with
  | zero => simp [pos, rn]
  | succ k ih => rw [pos, ih, pos]; simp [rn]; omega
theorem rn_cons (x : Int) (xs : List Int) (k : Nat) : rn (x :: xs) (k + 1) = rn xs k := by simp [rn]
theorem runsF_fit (sep : List UInt8) : ∀ (F : Nat) (r : List UInt8) (k : Nat), k < (runsF sep F r).length → 0 < (runsF sep F r).getD k 0 ∧ sep.length + pos sep.length (runsF sep F r) k + rn (runsF sep F r) k ≤ r.length
  | 0, _, k, h => by simp [runsF] at h
  | F + 1, r, k, h => by
    simp only [runsF] at h ⊢
    split at h
    · rename_i hc
      rw [if_pos hc]
      simp only [Bool.and_eq_true, decide_eq_true_eq] at hc
      have hp := (List.isPrefixOf_iff_prefix.1 hc.1.2).length_le
      have hl := lead_le (r.drop sep.length)
      rw [List.length_drop] at hl
      cases k with
      | zero => simp [pos, rn]; omega
      | succ k =>
        have := runsF_fit sep F ((r.drop sep.length).drop (lead (r.drop sep.length))) k (by simpa using h)
        rw [pos_cons, rn_cons]
        rw [List.length_drop, List.length_drop] at this
        simp only [List.getD_cons_succ, Int.toNat_natCast]
        omega
    · simp at h
theorem runsL_fit (sep t : List UInt8) (k : Nat) (h : k < (runsL sep t).length) : 0 ≤ (runsL sep t).getD k 0 ∧ (0 < k → 0 < (runsL sep t).getD k 0) ∧ pos sep.length (runsL sep t) k + rn (runsL sep t) k ≤ t.length := by
  have hl := lead_le t
  cases k with
  | zero => simp [runsL, pos, rn]; omega
  | succ k =>
    have := runsF_fit sep t.length (t.drop (lead t)) k (by simpa [runsL] using h)
    rw [runsL, pos_cons, rn_cons]
    simp only [List.length_drop] at this
    simp only [List.getD_cons_succ, Int.toNat_natCast]
    omega
theorem runsL_len (sep t : List UInt8) : (runsL sep t).length ≤ t.length + 1 := by
  have : ∀ (F : Nat) (r : List UInt8), (runsF sep F r).length ≤ F := by
    intro F
    induction F with
    | zero => simp [runsF]
    | succ F ih => intro r; simp only [runsF]; split; · simp; exact ih _
                   · simp
  have := this t.length (t.drop (lead t))
  simp [runsL]; omega
/-- The greatest number of separators with which a beginning is grouped. -/
def findQ (f : Nat → Int) (rs : List Int) : Nat → Option Nat
  | 0 => none
  | k + 1 => if goodAll f rs (k + 1) then some (k + 1) else findQ f rs k
theorem findQ_some (f : Nat → Int) (rs : List Int) (k q : Nat) (h : findQ f rs k = some q) : 0 < q ∧ q ≤ k ∧ goodAll f rs q = true := by
  induction k with
  | zero => cases h
  | succ k ih =>
    rw [findQ] at h
    split at h
    · cases h; rename_i hg; exact ⟨by omega, Nat.le_refl _, hg⟩
    · have := ih h; exact ⟨this.1, by omega, this.2.2⟩
theorem findQ_max (f : Nat → Int) (rs : List Int) (k q : Nat) (h : ∀ j, findQ f rs k = some j → j < q) (hq : q ≤ k) (h0 : 0 < q) : goodAll f rs q = false := by
  induction k with
  | zero => omega
  | succ k ih =>
    rw [findQ] at h
    split at h
    · have := h _ rfl; omega
    · rename_i hg
      rcases Nat.lt_or_eq_of_le hq with hlt | rfl
      · exact ih h (by omega)
      · simpa using hg
/-- The runs with the last group in the place of the last run. -/
def cutRuns (g : List Int) (rs : List Int) (q : Nat) : List Int := rs.take q ++ [g.getD 0 0]
def ungL (f : Nat → Int) (g : List Int) (sep t : List UInt8) : List UInt8 × Nat :=
  match findQ f (runsL sep t) ((runsL sep t).length - 1) with
  | some q => (ud t sep.length (cutRuns g (runsL sep t) q) (q + 1), un sep.length (cutRuns g (runsL sep t) q) (q + 1))
  | none => (t.take (lead t), lead t)
theorem goodAll_iff (f : Nat → Int) (rs : List Int) (q : Nat) (h : goodAll f rs q = true) (k : Nat) (hk : k ≤ q) : goodAt f rs q k = true :=
  List.all_eq_true.1 h k (List.mem_range.2 (by omega))
theorem good_first (s : ByteArray) (g : List Int) (one : Bool) (hone : one = ((L s).isEmpty || g.isEmpty)) (rs : List Int) (q : Nat) (h0 : 0 < q) (h : goodAll (sz one g) rs q = true) :
    one = false ∧ g ≠ [] ∧ sz one g 0 = g.getD 0 0 ∧ g.getD 0 0 ≠ 0 ∧ g.getD 0 0 ≤ rs.getD q 0 := by
  have h1 := goodAll_iff _ _ _ h 0 (Nat.zero_le _)
  rw [goodAt, if_neg (by omega), if_pos rfl, Bool.and_eq_true, decide_eq_true_eq, decide_eq_true_eq] at h1
  obtain ⟨ha, hb⟩ := h1
  cases one with
  | true => exact absurd rfl ha
  | false =>
    have hge : g ≠ [] := fun e => by rw [e] at hone; simp at hone
    have hs : sz false g 0 = g.getD 0 0 := by
      simp only [sz, Bool.false_eq_true, if_false] at ha ⊢
      split
      · rename_i hx; rw [if_pos hx] at ha; exact absurd rfl ha
      · simp [szN]
    rw [hs] at ha hb
    exact ⟨rfl, hge, hs, ha, by simpa using hb⟩
theorem cut_fit (g : List Int) (sep t : List UInt8) (q : Nat) (hq : q < (runsL sep t).length) (hg : g.getD 0 0 ≤ (runsL sep t).getD q 0) (k : Nat) (hk : k ≤ q) :
    pos sep.length (cutRuns g (runsL sep t) q) k + rn (cutRuns g (runsL sep t) q) k ≤ t.length := by
  have e1 : ∀ j, j < q → rn (cutRuns g (runsL sep t) q) j = rn (runsL sep t) j := fun j hj => by
    simp only [rn, cutRuns, List.getD_eq_getElem?_getD]
    rw [List.getElem?_append_left (by rw [List.length_take]; omega), List.getElem?_take, if_pos hj]
  have e2 : ∀ j, j ≤ q → pos sep.length (cutRuns g (runsL sep t) q) j = pos sep.length (runsL sep t) j := by
    intro j
    induction j with
    | zero => intro _; rfl
    | succ j ih => intro h; rw [pos, pos, ih (by omega), e1 j (by omega)]
  have e3 : rn (cutRuns g (runsL sep t) q) q ≤ rn (runsL sep t) q := by
    simp only [rn, cutRuns]
    rw [List.getD_eq_getElem?_getD, List.getElem?_append_right (by rw [List.length_take]; omega), List.length_take, Nat.min_eq_left (by omega), Nat.sub_self]
    simp only [List.getElem?_cons_zero, Option.getD_some]
    omega
  have := runsL_fit sep t k (by omega)
  rw [e2 k hk]
  by_cases h : k = q
  · subst h; omega
  · rw [e1 k (by omega)]; omega
theorem findQ_none (f : Nat → Int) (rs : List Int) (k : Nat) (h : ∀ j, 0 < j → j ≤ k → goodAll f rs j = false) : findQ f rs k = none := by
  induction k with
  | zero => rfl
  | succ k ih => rw [findQ, h (k + 1) (by omega) (Nat.le_refl _)]; exact ih (fun j h1 h2 => h j h1 (by omega))
theorem findQ_at (f : Nat → Int) (rs : List Int) (k q : Nat) (h : ∀ j, q < j → j ≤ k → goodAll f rs j = false) (hq : goodAll f rs q = true) (h0 : 0 < q) (hk : q ≤ k) : findQ f rs k = some q := by
  induction k with
  | zero => omega
  | succ k ih =>
    rw [findQ]
    by_cases e : q = k + 1
    · subst e; rw [hq]; rfl
    · rw [h (k + 1) (by omega) (Nat.le_refl _)]; exact ih (fun j h1 h2 => h j h1 (by omega)) (by omega)
theorem ud_len (t : List UInt8) (sl : Nat) (rs : List Int) (k : Nat) : (ud t sl rs k).length ≤ un sl rs k := by
  induction k with
  | zero => simp [ud]
  | succ k ih =>
    rw [ud, List.length_append, un]
    have h1 : ((t.drop (pos sl rs k)).take (rn rs k)).length ≤ rn rs k := by rw [List.length_take]; omega
    have h2 : un sl rs k ≤ pos sl rs k := by
      cases k with
      | zero => simp [un]
      | succ k => rw [un, pos]; omega
    omega
theorem pos_un (sl : Nat) (rs : List Int) (k : Nat) : pos sl rs k = if k = 0 then 0 else un sl rs k + sl := by
  cases k with
  | zero => rfl
  | succ k => rw [if_neg (by omega), pos, un]
theorem un_pos (sl : Nat) (rs : List Int) (k : Nat) : un sl rs k ≤ pos sl rs k := by
  cases k with
  | zero => exact Nat.le_refl _
  | succ k => rw [un, pos]; omega
theorem cut_at (g rs : List Int) (q : Nat) (hq : q < rs.length) (j : Nat) (hj : j ≤ q) : (cutRuns g rs q)[j]? = some (if j = q then g.getD 0 0 else rs.getD j 0) := by
  rw [cutRuns]
  by_cases h : j = q
  · subst h
    rw [List.getElem?_append_right (by rw [List.length_take]; omega), List.length_take, Nat.min_eq_left (by omega), Nat.sub_self, if_pos rfl]
    rfl
  · rw [List.getElem?_append_left (by rw [List.length_take]; omega), List.getElem?_take, if_pos (by omega), if_neg h, List.getD_eq_getElem?_getD, List.getElem?_eq_getElem (by omega)]
    rfl
theorem cut_len (g rs : List Int) (q : Nat) (hq : q < rs.length) : (cutRuns g rs q).length = q + 1 := by
  simp [cutRuns]; omega
end Go.Proofs.Ytkdnlmnjhlogmaa
