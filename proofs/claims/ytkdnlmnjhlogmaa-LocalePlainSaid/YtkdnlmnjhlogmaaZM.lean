/- Plain laws: which lists are the groups of their sum. -/
import Derived.Test.YtkdnlmnjhlogmaaZL
namespace Go.Proofs.Ytkdnlmnjhlogmaa
open Go.RowKit Go.Shelf
set_option linter.unusedSimpArgs false
set_option linter.unusedVariables false

theorem stp_take (f : Nat → Int) (n : Int) (k : Nat) : ∀ i, i < (stp f n k).2.length → (stp f n i).1 ≠ 0 ∧ (stp f n k).2[i]? = some (nxt f (stp f n i).1 i) ∧ (stp f n i).2 = (stp f n k).2.take i := by
  induction k with
  | zero => intro i h; simp [stp] at h
  | succ k ih =>
    intro i h
    by_cases h0 : (stp f n k).1 = 0
    · have e : stp f n (k + 1) = stp f n k := by simp only [stp, if_pos h0]
      rw [e] at h ⊢; exact ih i h
    · have hs := stp_succ f n k h0
      have e2 : (stp f n (k + 1)).2 = (stp f n k).2 ++ [nxt f (stp f n k).1 k] := by rw [hs]
      have hlen : (stp f n k).2.length = k := by
        clear ih h hs e2
        induction k with
        | zero => rfl
        | succ k ih =>
          have h1 : (stp f n k).1 ≠ 0 := fun h1 => h0 (by have : stp f n (k + 1) = stp f n k := by simp only [stp, if_pos h1]
                                                          rw [this]; exact h1)
          rw [stp_succ f n k h1]; simp [ih h1]
      rw [e2, List.length_append, hlen] at h
      simp at h
      rw [e2]
      by_cases hi : i = k
      · subst hi
        refine ⟨h0, ?_, ?_⟩
        · rw [List.getElem?_append_right (by omega), hlen, Nat.sub_self]; rfl
        · rw [List.take_append_of_le_length (by omega), List.take_of_length_le (by omega)]
      · obtain ⟨a, b, c⟩ := ih i (by omega)
        refine ⟨a, ?_, ?_⟩
        · rw [List.getElem?_append_left (by omega)]; exact b
        · rw [List.take_append_of_le_length (by omega)]; exact c
theorem isum_take_drop (l : List Int) (i : Nat) : isum (l.take i) + isum (l.drop i) = isum l := by
  rw [← isum_append, List.take_append_drop]
theorem isum_drop_succ (l : List Int) (i : Nat) (y : Int) (h : l[i]? = some y) : isum (l.drop i) = y + isum (l.drop (i + 1)) := by
  have hd : l.drop i = y :: l.drop (i + 1) := by
    obtain ⟨hi, e⟩ := List.getElem?_eq_some_iff.1 h
    rw [← List.getElem_cons_drop (h := hi), e]
  rw [hd, isum_cons]
/-- What the groups, from the last one on, have to be. -/
def okRev (f : Nat → Int) (ys : List Int) : Prop := ∀ i y, ys[i]? = some y → if i + 1 = ys.length then f i = 0 ∨ y ≤ f i else f i ≠ 0 ∧ y = f i
theorem grp_okRev (f : Nat → Int) (hf : ∀ k, 0 ≤ f k) (ys : List Int) (hp : ∀ y ∈ ys, (1 : Int) ≤ y) : grp f (isum ys) = ys.reverse ↔ okRev f ys := by
  have hn0 : 0 ≤ isum ys := by have := isum_nonneg ys hp; omega
  constructor
  · intro h i y hy
    have hi := (List.getElem?_eq_some_iff.1 hy).1
    have e : (stp f (isum ys) (isum ys).toNat).2 = ys := by
      have := congrArg List.reverse h
      rwa [grp, List.reverse_reverse, List.reverse_reverse] at this
    obtain ⟨h1, h2, h3⟩ := stp_take f (isum ys) (isum ys).toNat i (by rw [e]; exact hi)
    rw [e] at h2 h3
    obtain ⟨s1, s2⟩ := stp_sum f hf (isum ys) hn0 i
    rw [h3] at s1
    have htd := isum_take_drop ys i
    have hds := isum_drop_succ ys i y hy
    have hy' : y = nxt f (stp f (isum ys) i).1 i := by rw [hy] at h2; injection h2
    have hrem : (stp f (isum ys) i).1 = y + isum (ys.drop (i + 1)) := by omega
    have hnn := isum_nonneg (ys.drop (i + 1)) (fun z hz => hp z (List.mem_of_mem_drop hz))
    rw [List.length_drop] at hnn
    rw [hrem] at hy'
    unfold nxt at hy'
    split
    · rename_i hl
      have : isum (ys.drop (i + 1)) = 0 := by rw [List.drop_of_length_le (by omega)]; rfl
      split at hy' <;> omega
    · rename_i hl
      have : 0 < isum (ys.drop (i + 1)) := by omega
      have hfi := hf i
      split at hy' <;> omega
  · intro h
    have key : ∀ i, i ≤ ys.length → stp f (isum ys) i = (isum (ys.drop i), ys.take i) := by
      intro i
      induction i with
      | zero => intro _; simp [stp]
      | succ i ih =>
        intro hi
        have ih := ih (by omega)
        obtain ⟨y, hy⟩ : ∃ y, ys[i]? = some y := ⟨ys[i]'(by omega), List.getElem?_eq_getElem _⟩
        have hy1 := hp y (List.mem_of_getElem? hy)
        have hds := isum_drop_succ ys i y hy
        have hnn := isum_nonneg (ys.drop (i + 1)) (fun z hz => hp z (List.mem_of_mem_drop hz))
        rw [List.length_drop] at hnn
        have hne : (stp f (isum ys) i).1 ≠ 0 := by rw [ih]; show isum (ys.drop i) ≠ 0; omega
        have hok := h i y hy
        have hnx : nxt f (isum (ys.drop i)) i = y := by
          unfold nxt
          split at hok
          · have : isum (ys.drop (i + 1)) = 0 := by rw [List.drop_of_length_le (by omega)]; rfl
            split <;> omega
          · split <;> omega
        rw [stp_succ f _ i hne, ih]
        show (isum (ys.drop i) - nxt f (isum (ys.drop i)) i, ys.take i ++ [nxt f (isum (ys.drop i)) i]) = _
        rw [hnx, hds]
        congr 1
        · omega
        · rw [List.take_add_one, hy]; rfl
    have hl := key ys.length (Nat.le_refl _)
    rw [List.drop_length, List.take_length] at hl
    rw [← grp_of f hf (isum ys) hn0 ys.length (by rw [hl]; rfl), hl]
/-- The same, the first group first. -/
theorem grp_ok (f : Nat → Int) (hf : ∀ k, 0 ≤ f k) (xs : List Int) (hp : ∀ y ∈ xs, (1 : Int) ≤ y) : grp f (isum xs) = xs ↔ okRev f xs.reverse := by
  have := grp_okRev f hf xs.reverse (fun y hy => hp y (by simpa using hy))
  rwa [isum_reverse, List.reverse_reverse] at this
/-- As grouped says it: all runs but the last one whole, of the last one so many digits. -/
theorem good_grp (f : Nat → Int) (hf : ∀ k, 0 ≤ f k) (rs : List Int) (k : Nat) (hk : k < rs.length) (hk0 : 0 < k) (hp : ∀ y ∈ rs, (1 : Int) ≤ y) (j : Int) (hj : 1 ≤ j) (hj2 : j ≤ rs.getD k 0) :
    grp f (isum (rs.take k ++ [j])) = rs.take k ++ [j] ↔ goodAll f rs k = true ∧ j = f 0 := by
  rw [grp_ok f hf _ (fun y hy => by rcases List.mem_append.1 hy with h | h; exact hp y (List.mem_of_mem_take h); simp at h; omega)]
  have hlen : (rs.take k ++ [j]).reverse.length = k + 1 := by simp; omega
  have hat : ∀ i, i ≤ k → (rs.take k ++ [j]).reverse[i]? = some (if i = 0 then j else rs.getD (k - i) 0) := fun i hi => by
    rw [List.reverse_append]
    cases i with
    | zero => simp
    | succ i =>
      rw [if_neg (by omega)]
      simp only [List.reverse_cons, List.reverse_nil, List.nil_append, List.cons_append, List.getElem?_cons_succ]
      rw [List.getElem?_reverse (by simp; omega), List.length_take, Nat.min_eq_left (by omega), List.getElem?_take, if_pos (by omega), List.getD_eq_getElem?_getD, show k - 1 - i = k - (i + 1) by omega, List.getElem?_eq_getElem (by omega)]
      rfl
  constructor
  · intro h
    have h0 := h 0 _ (hat 0 (by omega))
    rw [if_neg (by omega), if_pos rfl] at h0
    refine ⟨?_, h0.2⟩
    rw [goodAll, List.all_eq_true]
    intro i hi
    have hi := List.mem_range.1 hi
    have h1 := h i _ (hat i (by omega))
    rw [hlen] at h1
    by_cases hik : i = k
    · subst hik
      rw [if_pos rfl, if_neg (by omega), Nat.sub_self] at h1
      rw [goodAt, if_pos rfl]; exact decide_eq_true h1
    · rw [if_neg (by omega)] at h1
      rw [goodAt, if_neg hik]
      by_cases hi0 : i = 0
      · subst hi0
        rw [if_pos rfl] at h1 ⊢
        simp only [Bool.and_eq_true, decide_eq_true_eq]
        exact ⟨h1.1, by rw [Nat.sub_zero]; omega⟩
      · rw [if_neg hi0] at h1 ⊢
        simp only [Bool.and_eq_true, decide_eq_true_eq]
        exact h1
  · rintro ⟨hg, rfl⟩ i y hy
    have hi := (List.getElem?_eq_some_iff.1 hy).1
    rw [hlen] at hi ⊢
    rw [hat i (by omega)] at hy
    injection hy with hy
    have h1 := goodAll_iff f rs k hg i (by omega)
    by_cases hik : i = k
    · subst hik
      rw [if_pos rfl]
      rw [goodAt, if_pos rfl, decide_eq_true_eq] at h1
      rw [if_neg (by omega), Nat.sub_self] at hy
      rw [← hy]; exact h1
    · rw [if_neg (by omega)]
      rw [goodAt, if_neg hik] at h1
      by_cases hi0 : i = 0
      · subst hi0
        rw [if_pos rfl] at hy
        exact ⟨by omega, hy.symm⟩
      · rw [if_neg hi0] at hy h1
        simp only [Bool.and_eq_true, decide_eq_true_eq] at h1
        exact ⟨h1.1, by rw [← hy]; exact h1.2⟩
end Go.Proofs.Ytkdnlmnjhlogmaa
