/- Plain laws: the runs of a text, and what the reference makes of them. -/
import Derived.Test.YtkdnlmnjhlogmaaZA
import Derived.Test.YtkdnlmnjhlogmaaZB
namespace Go.Proofs.Ytkdnlmnjhlogmaa
open Go.RowKit Go.Shelf
set_option linter.unusedSimpArgs false
set_option linter.unusedVariables false

theorem runs_rest (sep t : List UInt8) (k : Nat) (hk : k < (runsL sep t).length) :
    rn (runsL sep t) k = lead (t.drop (pos sep.length (runsL sep t) k)) ∧
    ∃ F, (t.drop (pos sep.length (runsL sep t) k + rn (runsL sep t) k)).length ≤ F ∧ (runsL sep t).drop (k + 1) = runsF sep F (t.drop (pos sep.length (runsL sep t) k + rn (runsL sep t) k)) := by
  induction k with
  | zero =>
    have h0 : rn (runsL sep t) 0 = lead t := by simp [rn, runsL]
    rw [h0]
    refine ⟨by simp [pos], t.length, ?_, ?_⟩
    · rw [List.length_drop]; omega
    · simp [pos, runsL]
  | succ k ih =>
    obtain ⟨_, F, hF, he⟩ := ih (by omega)
    have hne : (runsL sep t).drop (k + 1) ≠ [] := by
      intro h
      have := congrArg List.length h
      rw [List.length_drop] at this
      simp at this; omega
    obtain ⟨e, hee⟩ : ∃ e, pos sep.length (runsL sep t) k + rn (runsL sep t) k = e := ⟨_, rfl⟩
    rw [hee] at hF he
    have hp : pos sep.length (runsL sep t) (k + 1) = e + sep.length := by rw [pos, hee]
    rw [hp]
    rw [he] at hne
    have hc : sep.isEmpty = false ∧ pre sep (t.drop e) = true ∧ lead ((t.drop e).drop sep.length) ≠ 0 := by
      refine ⟨?_, ?_, ?_⟩
      · cases h : sep.isEmpty
        · rfl
        · exact absurd (runsF_end _ _ _ (.inl h)) hne
      · cases h : pre sep (t.drop e)
        · exact absurd (runsF_end _ _ _ (.inr (.inl h))) hne
        · rfl
      · intro h; exact absurd (runsF_end _ _ _ (.inr (.inr h))) hne
    rw [runsF_go _ _ _ hF hc.1 hc.2.1 hc.2.2] at he
    have hr : rn (runsL sep t) (k + 1) = lead (t.drop (e + sep.length)) := by
      have h1 : (runsL sep t).getD (k + 1) 0 = (lead ((t.drop e).drop sep.length) : Int) := by
        have : ((runsL sep t).drop (k + 1))[0]? = some (lead ((t.drop e).drop sep.length) : Int) := by rw [he]; rfl
        rw [List.getElem?_drop] at this
        rw [List.getD_eq_getElem?_getD, show (k + 1) = k + 1 + 0 from rfl, this]; rfl
      rw [rn, h1, List.drop_drop]; rfl
    refine ⟨hr, F - 1, ?_, ?_⟩
    · rw [List.length_drop] at hF ⊢
      have := hc.2.2
      have hl := lead_le (t.drop (e + sep.length))
      rw [hr]
      rw [List.drop_drop] at this
      rw [List.length_drop] at hl
      omega
    · have : (runsL sep t).drop (k + 1 + 1) = ((runsL sep t).drop (k + 1)).drop 1 := by rw [List.drop_drop]
      rw [this, he, hr]
      simp only [List.drop_succ_cons, List.drop_zero, List.drop_drop]
theorem runs_next (sep t : List UInt8) (k : Nat) (hk : k + 1 < (runsL sep t).length) :
    sep.isEmpty = false ∧ pre sep (t.drop (pos sep.length (runsL sep t) k + rn (runsL sep t) k)) = true ∧ 0 < rn (runsL sep t) (k + 1) := by
  obtain ⟨_, F, hF, he⟩ := runs_rest sep t k (by omega)
  have hne : (runsL sep t).drop (k + 1) ≠ [] := by
    intro h
    have := congrArg List.length h
    rw [List.length_drop] at this
    simp at this; omega
  rw [he] at hne
  refine ⟨?_, ?_, ?_⟩
  · cases h : sep.isEmpty
    · rfl
    · exact absurd (runsF_end _ _ _ (.inl h)) hne
  · cases h : pre sep (t.drop (pos sep.length (runsL sep t) k + rn (runsL sep t) k))
    · exact absurd (runsF_end _ _ _ (.inr (.inl h))) hne
    · rfl
  · have := (runsL_fit sep t (k + 1) hk).2.1 (by omega)
    rw [rn]; omega
theorem runs_last (sep t : List UInt8) (k : Nat) (hk : k + 1 = (runsL sep t).length) :
    sep.isEmpty = true ∨ pre sep (t.drop (pos sep.length (runsL sep t) k + rn (runsL sep t) k)) = false ∨ lead (t.drop (pos sep.length (runsL sep t) k + rn (runsL sep t) k + sep.length)) = 0 := by
  obtain ⟨_, F, hF, he⟩ := runs_rest sep t k (by omega)
  rw [List.drop_of_length_le (by omega)] at he
  cases h1 : sep.isEmpty
  · cases h2 : pre sep (t.drop (pos sep.length (runsL sep t) k + rn (runsL sep t) k))
    · exact .inr (.inl rfl)
    · refine .inr (.inr ?_)
      rcases Nat.eq_zero_or_pos (lead (t.drop (pos sep.length (runsL sep t) k + rn (runsL sep t) k + sep.length))) with h3 | h3
      · exact h3
      · rw [runsF_go _ _ _ hF h1 h2 (by rw [List.drop_drop]; omega)] at he
        cases he
  · exact .inl rfl
end Go.Proofs.Ytkdnlmnjhlogmaa
