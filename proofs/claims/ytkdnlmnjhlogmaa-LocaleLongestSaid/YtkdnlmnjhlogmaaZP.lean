/- Plain laws: what is grouped is found again. -/
import Derived.Test.YtkdnlmnjhlogmaaZN
namespace Go.Proofs.Ytkdnlmnjhlogmaa
open Go.RowKit Go.Shelf
set_option linter.unusedSimpArgs false
set_option linter.unusedVariables false

theorem filter_sep (sep : List UInt8) (hsd : sep.all (fun c => !dg c) = true) : sep.filter dg = [] := by
  rw [List.filter_eq_nil_iff]
  intro c hc
  have := List.all_eq_true.1 hsd c hc
  simpa using this
theorem filter_dg (d : List UInt8) (hd : d.all dg = true) : d.filter dg = d := by
  rw [List.filter_eq_self]; exact fun c hc => List.all_eq_true.1 hd c hc
theorem all_take (d : List UInt8) (k : Nat) (hd : d.all dg = true) : (d.take k).all dg = true := by
  rw [List.all_eq_true] at hd ⊢; exact fun y hy => hd y (List.mem_of_mem_take hy)
theorem all_drop (d : List UInt8) (k : Nat) (hd : d.all dg = true) : (d.drop k).all dg = true := by
  rw [List.all_eq_true] at hd ⊢; exact fun y hy => hd y (List.mem_of_mem_drop hy)
theorem tj_filter (sep : List UInt8) (hsd : sep.all (fun c => !dg c) = true) : ∀ (xs : List Int) (d : List UInt8), d.all dg = true → (∀ y ∈ xs, (1 : Int) ≤ y) → isum xs = d.length → (tj sep xs d).filter dg = d ∧ (tj sep xs d).length = d.length + xs.length * sep.length
  | [], d, _, _, h => by
    have : d = [] := List.eq_nil_of_length_eq_zero (by rw [isum_nil] at h; omega)
    subst this; simp [tj]
  | x :: xs, d, hd, hp, h => by
    have hx := hp x (by simp)
    rw [isum_cons] at h
    have hn := isum_nonneg xs (fun z hz => hp z (by simp [hz]))
    obtain ⟨h1, h2⟩ := tj_filter sep hsd xs (d.drop x.toNat) (all_drop d _ hd) (fun z hz => hp z (by simp [hz])) (by rw [List.length_drop]; omega)
    rw [tj]
    refine ⟨?_, ?_⟩
    · rw [List.filter_append, List.filter_append, filter_sep sep hsd, filter_dg _ (all_take d _ hd), h1]; simp
    · rw [List.length_append, List.length_append, h2, List.length_take, List.length_drop, List.length_cons, Nat.add_mul]; omega
theorem joined_filter (sep : List UInt8) (hsd : sep.all (fun c => !dg c) = true) (xs : List Int) (d : List UInt8) (hd : d.all dg = true) (hp : ∀ y ∈ xs, (1 : Int) ≤ y) (h : isum xs = d.length) :
    (joined sep xs d).filter dg = d ∧ (joined sep xs d).length = d.length + (xs.length - 1) * sep.length := by
  cases xs with
  | nil =>
    have : d = [] := List.eq_nil_of_length_eq_zero (by rw [isum_nil] at h; omega)
    subst this; simp [joined]
  | cons x xs =>
    have hx := hp x (by simp)
    rw [isum_cons] at h
    have hn := isum_nonneg xs (fun z hz => hp z (by simp [hz]))
    obtain ⟨h1, h2⟩ := tj_filter sep hsd xs (d.drop x.toNat) (all_drop d _ hd) (fun z hz => hp z (by simp [hz])) (by rw [List.length_drop]; omega)
    rw [joined_cons]
    refine ⟨?_, ?_⟩
    · rw [List.filter_append, filter_dg _ (all_take d _ hd), h1, List.take_append_drop]
    · rw [List.length_append, h2, List.length_take, List.length_drop, List.length_cons, Nat.add_sub_cancel]; omega
theorem grpL_filter (sep : List UInt8) (hsd : sep.all (fun c => !dg c) = true) (g : List Int) (hg : ∀ x ∈ g, (1 : Int) ≤ x ∧ x ≤ 127) (d : List UInt8) (hd : d.all dg = true) : (grpL sep g d).filter dg = d := by
  obtain ⟨g1, g2, _⟩ := grp_sum (sz (oneB sep g) g) (sz_nonneg (s := sep) hg) (d.length : Int) (by omega)
  exact (joined_filter sep hsd _ d hd g2 g1).1

/-- Where the last run ends. -/
theorem text_end (sep t : List UInt8) (h0 : 0 < lead t) (k : Nat) (hk : k + 1 = (runsL sep t).length) :
    isum (runsL sep t) = (ud t sep.length (runsL sep t) (k + 1)).length ∧ (ud t sep.length (runsL sep t) (k + 1)).all dg = true ∧ t.take (pos sep.length (runsL sep t) k + rn (runsL sep t) k) = joined sep (runsL sep t) (ud t sep.length (runsL sep t) (k + 1)) := by
  obtain ⟨t1, t2, t3⟩ := text_at sep t h0 k (by omega)
  obtain ⟨d1, d2⟩ := run_dg sep t k (by omega)
  have hat := rn_at sep t k (by omega)
  have htk : (runsL sep t) = (runsL sep t).take k ++ [((rn (runsL sep t) k : Nat) : Int)] := by
    have : (runsL sep t).take (k + 1) = (runsL sep t).take k ++ [((rn (runsL sep t) k : Nat) : Int)] := by rw [List.take_add_one, hat]; rfl
    rw [← this, hk, List.take_length]
  have hpos : ∀ y ∈ (runsL sep t).take k, (1 : Int) ≤ y := fun y hy => runs_pos sep t h0 y (List.mem_of_mem_take hy)
  have hud : ud t sep.length (runsL sep t) (k + 1) = ud t sep.length (runsL sep t) k ++ (t.drop (pos sep.length (runsL sep t) k)).take (rn (runsL sep t) k) := rfl
  rw [hud]
  refine ⟨?_, by rw [List.all_append, t2, d1]; rfl, ?_⟩
  · have e := congrArg isum htk
    rw [isum_append, isum_cons, isum_nil, t1] at e
    rw [e, List.length_append, d2]; omega
  · have e : joined sep (runsL sep t) (ud t sep.length (runsL sep t) k ++ (t.drop (pos sep.length (runsL sep t) k)).take (rn (runsL sep t) k)) = joined sep ((runsL sep t).take k ++ [((rn (runsL sep t) k : Nat) : Int)]) (ud t sep.length (runsL sep t) k ++ (t.drop (pos sep.length (runsL sep t) k)).take (rn (runsL sep t) k)) := congrArg (fun l => joined sep l _) htk
    rw [e, take_add]
    by_cases hk0 : k = 0
    · subst hk0
      rw [List.take_zero, List.nil_append, joined_one _ _ _ (by rw [List.length_append, d2]; simp [ud])]
      simp [pos, ud]
    · rw [joined_snoc sep _ _ _ _ hpos t1 (by rw [d2]) (take_ne _ _ (by omega) (by omega)), t3 (by omega), List.append_assoc]

theorem back_eq (g : List Int) (hg : ∀ x ∈ g, (1 : Int) ≤ x ∧ x ≤ 127) (sep d tail : List UInt8) (hsd : sep.all (fun c => !dg c) = true) (hd : d.all dg = true) (hd0 : d ≠ []) (ht : dgAt tail 0 = false) (ht2 : sep.isEmpty = true ∨ pre sep tail = false) :
    ungL (sz (oneB sep g) g) g sep (grpL sep g d ++ tail) = (d, (grpL sep g d).length) ∧ lead (grpL sep g d ++ tail) ≠ 0 := by
  have hl : 0 < d.length := List.length_pos_iff.2 hd0
  have hf := sz_nonneg (s := sep) hg
  obtain ⟨g1, g2, _⟩ := grp_sum (sz (oneB sep g) g) hf (d.length : Int) (by omega)
  -- one run
  have single : joined sep (grp (sz (oneB sep g) g) (d.length : Int)) d = d → ungL (sz (oneB sep g) g) g sep (grpL sep g d ++ tail) = (d, (grpL sep g d).length) ∧ lead (grpL sep g d ++ tail) ≠ 0 := by
    intro e
    have e1 : grpL sep g d = d := e
    rw [e1]
    have hlead : lead (d ++ tail) = d.length := lead_append d tail hd ht
    have hrs : runsL sep (d ++ tail) = [(d.length : Int)] := by
      rw [runsL, hlead]
      have : (d ++ tail).drop d.length = tail := by simp
      rw [this, runsF_end _ _ _ (ht2.elim .inl (fun h => .inr (.inl h)))]
    refine ⟨?_, by omega⟩
    rw [ungL, hrs]
    simp [findQ, hlead]
  cases ho : oneB sep g
  · -- groups
    have hs : sep.isEmpty = false := by cases h : sep.isEmpty; · rfl
                                        · rw [oneB, h] at ho; cases ho
    have hpt : pre sep tail = false := ht2.resolve_left (by rw [hs]; decide)
    have hsd0 : dgAt sep 0 = false := by
      cases sep with
      | nil => cases hs
      | cons a sep => simp [dgAt] at hsd ⊢; exact hsd.1
    rw [ho] at g1 g2 hf single
    obtain ⟨f, hff⟩ : ∃ f, sz false g = f := ⟨_, rfl⟩
    rw [hff] at g1 g2 hf single ⊢
    have hG : grpL sep g d = joined sep (grp f (d.length : Int)) d := by rw [grpL, groupL, ho, hff]
    obtain ⟨xs, hxs⟩ : ∃ xs, grp f (d.length : Int) = xs := ⟨_, rfl⟩
    rw [hxs] at g1 g2 single hG
    cases hxx : xs with
    | nil => rw [hxx, isum_nil] at g1; omega
    | cons x ys =>
      have hruns := runs_joined sep hs hsd0 tail ht (.inl hpt) x ys d (by rw [← hxx]; exact g2) (by rw [← hxx]; exact g1) hd
      rw [← hxx, ← hG] at hruns
      by_cases hm : xs.length = 1
      · refine single ?_
        obtain ⟨y, hy⟩ : ∃ y, xs = [y] := List.length_eq_one_iff.1 hm
        rw [hy] at g1 ⊢
        rw [isum_cons, isum_nil] at g1
        exact joined_one sep y d (by omega)
      · have hxl : 1 < xs.length := by rw [hxx] at hm ⊢; simp at hm ⊢; cases ys with
          | nil => exact absurd rfl hm
          | cons _ _ => simp
        obtain ⟨t, htt⟩ : ∃ t, grpL sep g d ++ tail = t := ⟨_, rfl⟩
        rw [htt] at hruns ⊢
        have hx1 := g2 x (by rw [hxx]; simp)
        have h0 : 0 < lead t := by
          have := runsL_fit sep t 0 (by rw [hruns]; omega)
          have h2 : (runsL sep t).getD 0 0 = (lead t : Int) := by simp [runsL]
          rw [hruns, hxx] at h2
          simp at h2; omega
        obtain ⟨q, hq⟩ : ∃ q, q + 1 = xs.length := ⟨xs.length - 1, by omega⟩
        obtain ⟨e1, e2, e3⟩ := text_end sep t h0 q (by rw [hruns]; exact hq)
        have hat := rn_at sep t q (by rw [hruns]; omega)
        obtain ⟨_, hcu⟩ := And.intro trivial (cut_ud g sep t q (by rw [hruns]; omega))
        have hfitq := (runsL_fit sep t q (by rw [hruns]; omega)).2.2
        rw [hruns] at e1 e2 e3 hat hcu hfitq
        have hxq : xs.take q ++ [((rn xs q : Nat) : Int)] = xs := by
          have : xs.take (q + 1) = xs.take q ++ [((rn xs q : Nat) : Int)] := by rw [List.take_add_one, hat]; rfl
          rw [← this, hq, List.take_length]
        have hgq : xs.getD q 0 = ((rn xs q : Nat) : Int) := by rw [List.getD_eq_getElem?_getD, hat]; rfl
        have hrn1 : (1 : Int) ≤ ((rn xs q : Nat) : Int) := g2 _ (List.mem_of_getElem? hat)
        obtain ⟨hgood, hj⟩ := (good_grp f hf xs q (by omega) (by omega) g2 ((rn xs q : Nat) : Int) hrn1 (by rw [hgq]; exact Int.le_refl _)).1 (by rw [hxq, g1, hxs])
        have hgf := good_first ⟨sep.toArray⟩ g false (by rw [← ho]; simp [oneB, L]) xs q (by omega) (by rw [hff]; exact hgood)
        have hg0 : g.getD 0 0 = ((rn xs q : Nat) : Int) := by rw [← hgf.2.2.1, hff, hj]
        refine ⟨?_, by omega⟩
        rw [ungL, hruns, findQ_at f xs (xs.length - 1) q (fun j h1 h2 => by omega) hgood (by omega) (by omega)]
        show (ud t sep.length (cutRuns g xs q) (q + 1), un sep.length (cutRuns g xs q) (q + 1)) = _
        rw [hcu.1, hcu.2, hg0, Int.toNat_natCast]
        have hud : ud t sep.length xs q ++ (t.drop (pos sep.length xs q)).take (rn xs q) = ud t sep.length xs (q + 1) := rfl
        rw [hud]
        obtain ⟨j1, j2⟩ := joined_filter sep hsd xs d hd g2 g1
        obtain ⟨k1, k2⟩ := joined_filter sep hsd xs (ud t sep.length xs (q + 1)) e2 g2 e1
        have hlen : (ud t sep.length xs (q + 1)).length = d.length := by omega
        have hP : pos sep.length xs q + rn xs q = (joined sep xs d).length := by
          have := congrArg List.length e3
          rw [List.length_take, k2, hlen, ← j2] at this
          omega
        have heq : joined sep xs (ud t sep.length xs (q + 1)) = joined sep xs d := by
          rw [← e3, hP, ← htt, hG]; simp
        have hD : ud t sep.length xs (q + 1) = d := by rw [← k1, heq, j1]
        rw [hD, hP, ← hG]
  · rw [ho] at single
    refine single ?_
    rw [grp_one (sz true g) (fun k => rfl) (d.length : Int) (by omega)]
    exact joined_one sep _ d rfl
end Go.Proofs.Ytkdnlmnjhlogmaa
