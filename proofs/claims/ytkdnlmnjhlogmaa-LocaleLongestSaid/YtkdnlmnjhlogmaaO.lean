/- Digits grouped, by the program. -/
import Derived.Test.YtkdnlmnjhlogmaaN
namespace Go.Proofs.Ytkdnlmnjhlogmaa
open Go.RowKit Go.Shelf
set_option linter.unusedSimpArgs false
set_option linter.unusedVariables false

/-! ### What grouping comes to -/
def isum (l : List Int) : Int := l.foldr (· + ·) 0
theorem isum_nil : isum [] = 0 := rfl
theorem isum_cons (a : Int) (l : List Int) : isum (a :: l) = a + isum l := rfl
theorem isum_append (a b : List Int) : isum (a ++ b) = isum a + isum b := by
  induction a with
  | nil => simp [isum_nil]
  | cons x a ih => rw [List.cons_append, isum_cons, isum_cons, ih]; omega
theorem isum_reverse (a : List Int) : isum a.reverse = isum a := by
  induction a with
  | nil => rfl
  | cons x a ih => rw [List.reverse_cons, isum_append, isum_cons, isum_cons, isum_nil, ih]; omega
theorem isum_nonneg (l : List Int) (h : ∀ x ∈ l, (1 : Int) ≤ x) : (l.length : Int) ≤ isum l := by
  induction l with
  | nil => simp [isum_nil]
  | cons a l ih =>
    have := h a (by simp)
    have := ih (fun x hx => h x (by simp [hx]))
    rw [isum_cons, List.length_cons]; omega
theorem nxt_pos (f : Nat → Int) (hf : ∀ k, 0 ≤ f k) (m : Int) (hm : 0 < m) (k : Nat) : 1 ≤ nxt f m k ∧ nxt f m k ≤ m := by
  have := hf k
  unfold nxt; split <;> omega
theorem stp_sum (f : Nat → Int) (hf : ∀ k, 0 ≤ f k) (n : Int) (hn : 0 ≤ n) (k : Nat) : isum (stp f n k).2 + (stp f n k).1 = n ∧ ∀ x ∈ (stp f n k).2, (1 : Int) ≤ x := by
  induction k with
  | zero => simp [stp, isum_nil]
  | succ k ih =>
    by_cases h : (stp f n k).1 = 0
    · have : stp f n (k + 1) = stp f n k := by simp only [stp, if_pos h]
      rw [this]; exact ih
    · have h0 := (stp_left f hf n hn k).1
      obtain ⟨h1, h2⟩ := nxt_pos f hf (stp f n k).1 (by omega) k
      rw [stp_succ f n k h]
      refine ⟨?_, fun x hx => ?_⟩
      · show isum ((stp f n k).2 ++ [_]) + _ = n
        rw [isum_append, isum_cons, isum_nil]
        show isum (stp f n k).2 + (nxt f (stp f n k).1 k + 0) + ((stp f n k).1 - nxt f (stp f n k).1 k) = n
        omega
      · rcases List.mem_append.1 hx with hx | hx
        · exact ih.2 x hx
        · simp at hx; subst hx; exact h1
theorem grp_sum (f : Nat → Int) (hf : ∀ k, 0 ≤ f k) (n : Int) (hn : 0 ≤ n) : isum (grp f n) = n ∧ (∀ x ∈ grp f n, (1 : Int) ≤ x) ∧ ((grp f n).length : Int) ≤ n := by
  obtain ⟨h1, h2⟩ := stp_sum f hf n hn n.toNat
  have h0 : (stp f n n.toNat).1 = 0 := by have := stp_left f hf n hn n.toNat; omega
  have h3 : isum (grp f n) = n := by rw [grp, isum_reverse]; omega
  have h4 : ∀ x ∈ grp f n, (1 : Int) ≤ x := fun x hx => h2 x (by rw [grp] at hx; simpa using hx)
  exact ⟨h3, h4, by have := isum_nonneg _ h4; omega⟩

/-- One group more: what is written, what is left, whether it is the first one. -/
def gstep (sep : List UInt8) (st : List UInt8 × List UInt8 × Bool) (n : Int) : List UInt8 × List UInt8 × Bool :=
  (st.1 ++ ((if st.2.2 then [] else sep) ++ st.2.1.take n.toNat), st.2.1.drop n.toNat, false)
def gstate (sep d : List UInt8) (gs : List Int) (k : Nat) : List UInt8 × List UInt8 × Bool := (gs.take k).foldl (gstep sep) ([], d, true)
def joined (sep : List UInt8) (gs : List Int) (d : List UInt8) : List UInt8 := (gs.foldl (gstep sep) ([], d, true)).1
theorem gstate_succ (sep d : List UInt8) (gs : List Int) (k : Nat) (x : Int) (h : gs[k]? = some x) : gstate sep d gs (k + 1) = gstep sep (gstate sep d gs k) x := by
  rw [gstate, List.take_add_one, h, Option.toList_some, List.foldl_append]; rfl
theorem gstate_first (sep d : List UInt8) (gs : List Int) (k : Nat) (hk : k ≤ gs.length) : (gstate sep d gs k).2.2 = decide (k = 0) := by
  cases k with
  | zero => simp [gstate]
  | succ k =>
    have : ∃ x, gs[k]? = some x := ⟨gs[k], List.getElem?_eq_getElem (by omega)⟩
    obtain ⟨x, hx⟩ := this
    rw [gstate_succ sep d gs k x hx]; simp [gstep]
theorem gstate_rest (sep d : List UInt8) (gs : List Int) (hpos : ∀ x ∈ gs, (1 : Int) ≤ x) (hs : isum gs = d.length) (k : Nat) (hk : k ≤ gs.length) : ((gstate sep d gs k).2.1.length : Int) = isum (gs.drop k) := by
  induction k with
  | zero => simp [gstate, hs]
  | succ k ih =>
    obtain ⟨x, hx⟩ : ∃ x, gs[k]? = some x := ⟨gs[k], List.getElem?_eq_getElem (by omega)⟩
    have ih := ih (by omega)
    rw [gstate_succ sep d gs k x hx]
    have hd : gs.drop k = x :: gs.drop (k + 1) := by
      rw [← List.getElem_cons_drop (h := by omega)]
      rw [List.getElem?_eq_getElem (by omega)] at hx
      injection hx with hx
      rw [hx]
    rw [hd, isum_cons] at ih
    have h1 := hpos x (List.mem_of_getElem? hx)
    have h2 := isum_nonneg (gs.drop (k + 1)) (fun y hy => hpos y (List.mem_of_mem_drop hy))
    show ((List.drop x.toNat (gstate sep d gs k).2.1).length : Int) = _
    rw [List.length_drop]
    omega
theorem gstate_fits (sep d : List UInt8) (gs : List Int) (hpos : ∀ x ∈ gs, (1 : Int) ≤ x) (hs : isum gs = d.length) (k : Nat) (x : Int) (hx : gs[k]? = some x) : 1 ≤ x ∧ x ≤ (gstate sep d gs k).2.1.length := by
  have hk : k < gs.length := (List.getElem?_eq_some_iff.1 hx).1
  have h := gstate_rest sep d gs hpos hs k (by omega)
  have hd : gs.drop k = x :: gs.drop (k + 1) := by
    rw [← List.getElem_cons_drop (h := hk)]
    rw [List.getElem?_eq_getElem hk] at hx
    injection hx with hx
    rw [hx]
  rw [hd, isum_cons] at h
  have h1 := hpos x (List.mem_of_getElem? hx)
  have h2 := isum_nonneg (gs.drop (k + 1)) (fun y hy => hpos y (List.mem_of_mem_drop hy))
  omega
theorem gstate_len (sep d : List UInt8) (gs : List Int) (k : Nat) (hk : k ≤ gs.length) : (gstate sep d gs k).1.length + (gstate sep d gs k).2.1.length ≤ d.length + k * sep.length := by
  induction k with
  | zero => simp [gstate]
  | succ k ih =>
    obtain ⟨x, hx⟩ : ∃ x, gs[k]? = some x := ⟨gs[k], List.getElem?_eq_getElem (by omega)⟩
    have ih := ih (by omega)
    rw [gstate_succ sep d gs k x hx]
    simp only [gstep, List.length_append, List.length_take, List.length_drop]
    rw [Nat.add_mul]
    split <;> simp <;> omega
theorem gstate_all (sep d : List UInt8) (gs : List Int) : (gstate sep d gs gs.length).1 = joined sep gs d := by rw [gstate, List.take_length]; rfl
end Go.Proofs.Ytkdnlmnjhlogmaa
