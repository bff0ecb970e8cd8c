/- Plain laws: the reference finds what the program finds. -/
import Derived.Test.YtkdnlmnjhlogmaaZM
namespace Go.Proofs.Ytkdnlmnjhlogmaa
open Go.RowKit Go.Shelf
set_option linter.unusedSimpArgs false
set_option linter.unusedVariables false

theorem joined_inj (sep : List UInt8) (hs : sep.isEmpty = false) (hsd : sep.all (fun c => !dg c) = true) (xs ys : List Int) (d : List UInt8) (hx : ∀ y ∈ xs, (1 : Int) ≤ y) (hy : ∀ y ∈ ys, (1 : Int) ≤ y) (h1 : isum xs = d.length) (h2 : isum ys = d.length) (hd : d.all dg = true) (h0 : d ≠ [])
    (h : joined sep xs d = joined sep ys d) : xs = ys := by
  have hsd0 : dgAt sep 0 = false := by
    cases sep with
    | nil => cases hs
    | cons a sep => simp [dgAt] at hsd ⊢; exact hsd.1
  have hl : 0 < d.length := List.length_pos_iff.2 h0
  have ht2 : pre sep ([] : List UInt8) = false ∨ dgAt (([] : List UInt8).drop sep.length) 0 = false := .inr (by simp [dgAt])
  cases xs with
  | nil => rw [isum_nil] at h1; omega
  | cons x xs =>
    cases ys with
    | nil => rw [isum_nil] at h2; omega
    | cons y ys =>
      have e1 := runs_joined sep hs hsd0 [] (by simp [dgAt]) ht2 x xs d hx h1 hd
      have e2 := runs_joined sep hs hsd0 [] (by simp [dgAt]) ht2 y ys d hy h2 hd
      rw [← e1, ← e2, h]

/-- The best behind so many digits of a run. -/
def updn (G : List UInt8 → List UInt8) (t d : List UInt8) (a : Nat) (pl : Bool) (b : List UInt8 × Nat) : Nat → List UInt8 × Nat
  | 0 => b
  | m + 1 => if pl || G (d ++ (t.drop a).take (m + 1)) == t.take (a + (m + 1)) then (d ++ (t.drop a).take (m + 1), a + (m + 1)) else updn G t d a pl b m
theorem dgAt_some (t : List UInt8) (i : Nat) (h : dgAt t i = true) : ∃ c, t[i]? = some c ∧ dg c = true := by
  unfold dgAt at h; split at h
  · rename_i c hc; exact ⟨c, hc, h⟩
  · cases h
theorem scan_run (G : List UInt8 → List UInt8) (sep t : List UInt8) (d : List UInt8) (a : Nat) (pl : Bool) (b : List UInt8 × Nat) : ∀ (m F : Nat), (∀ i, i < m → dgAt t (a + i) = true) →
    rscan G sep t (F + m) d a pl b = rscan G sep t F (d ++ (t.drop a).take m) (a + m) pl (updn G t d a pl b m)
  | 0, F, _ => by simp [updn]
  | m + 1, F, h => by
    rw [show F + (m + 1) = (F + 1) + m by omega, scan_run G sep t d a pl b m (F + 1) (fun i hi => h i (by omega))]
    obtain ⟨c, hc, hdc⟩ := dgAt_some _ _ (h m (by omega))
    have e1 : (t.drop a).take (m + 1) = (t.drop a).take m ++ [c] := by
      rw [List.take_add_one, List.getElem?_drop, hc]; rfl
    rw [rscan_digit G sep t F _ (a + m) pl _ c hc hdc _ rfl, updn, e1, List.append_assoc]
    rfl
theorem upd_plain (G : List UInt8 → List UInt8) (t d : List UInt8) (a : Nat) (b : List UInt8 × Nat) (m : Nat) (hm : 0 < m) : updn G t d a true b m = (d ++ (t.drop a).take m, a + m) := by
  cases m with
  | zero => omega
  | succ m => rw [updn]; simp
theorem upd_none (G : List UInt8 → List UInt8) (t d : List UInt8) (a : Nat) (b : List UInt8 × Nat) : ∀ m, (∀ j, 1 ≤ j → j ≤ m → G (d ++ (t.drop a).take j) ≠ t.take (a + j)) → updn G t d a false b m = b
  | 0, _ => rfl
  | m + 1, h => by
    have h1 : (G (d ++ (t.drop a).take (m + 1)) == t.take (a + (m + 1))) = false := beq_eq_false_iff_ne.2 (h (m + 1) (by omega) (Nat.le_refl _))
    rw [updn, h1]
    exact upd_none G t d a b m (fun j h1 h2 => h j h1 (by omega))
theorem upd_one (G : List UInt8 → List UInt8) (t d : List UInt8) (a : Nat) (b : List UInt8 × Nat) (j0 : Nat) (h0 : 1 ≤ j0) : ∀ m, j0 ≤ m → (∀ j, 1 ≤ j → j ≤ m → (G (d ++ (t.drop a).take j) = t.take (a + j) ↔ j = j0)) → updn G t d a false b m = (d ++ (t.drop a).take j0, a + j0)
  | 0, hm, _ => by omega
  | m + 1, hm, h => by
    rw [updn]
    by_cases e : m + 1 = j0
    · have : (G (d ++ (t.drop a).take (m + 1)) == t.take (a + (m + 1))) = true := beq_iff_eq.2 ((h (m + 1) (by omega) (Nat.le_refl _)).2 e)
      rw [this, ← e]; rfl
    · have : (G (d ++ (t.drop a).take (m + 1)) == t.take (a + (m + 1))) = false := beq_eq_false_iff_ne.2 (fun h2 => e ((h (m + 1) (by omega) (Nat.le_refl _)).1 h2))
      rw [this]
      exact upd_one G t d a b j0 h0 m (by omega) (fun j h1 h2 => h j h1 (by omega))

theorem pre_takes (sep r : List UInt8) (h : pre sep r = true) : r.take sep.length = sep := by
  obtain ⟨q, hq⟩ := List.isPrefixOf_iff_prefix.1 h
  rw [← hq]; simp
theorem take_ne (l : List Int) (k : Nat) (h : 0 < k) (h2 : k < l.length) : l.take k ≠ [] := by
  intro e; rw [List.take_eq_nil_iff] at e
  rcases e with e | e
  · omega
  · rw [e] at h2; simp at h2
theorem take_add (t : List UInt8) (a b : Nat) : t.take (a + b) = t.take a ++ (t.drop a).take b := by
  rw [List.take_add]
theorem runs_pos (sep t : List UInt8) (h0 : 0 < lead t) : ∀ y ∈ runsL sep t, (1 : Int) ≤ y := by
  intro y hy
  obtain ⟨k, hk, rfl⟩ := List.getElem_of_mem hy
  have h := runsL_fit sep t k hk
  have e : (runsL sep t).getD k 0 = (runsL sep t)[k] := by rw [List.getD_eq_getElem?_getD, List.getElem?_eq_getElem hk]; rfl
  rw [e] at h
  cases k with
  | zero => simp [runsL]; omega
  | succ k => have := h.2.1 (by omega); omega
theorem rn_at (sep t : List UInt8) (k : Nat) (hk : k < (runsL sep t).length) : (runsL sep t)[k]? = some ((rn (runsL sep t) k : Nat) : Int) := by
  have h := (runsL_fit sep t k hk).1
  rw [List.getD_eq_getElem?_getD, List.getElem?_eq_getElem hk] at h
  rw [rn, List.getD_eq_getElem?_getD, List.getElem?_eq_getElem hk]
  simp only [Option.getD_some] at h ⊢
  rw [Int.toNat_of_nonneg h]
theorem run_dg (sep t : List UInt8) (k : Nat) (hk : k < (runsL sep t).length) : ((t.drop (pos sep.length (runsL sep t) k)).take (rn (runsL sep t) k)).all dg = true ∧ ((t.drop (pos sep.length (runsL sep t) k)).take (rn (runsL sep t) k)).length = rn (runsL sep t) k := by
  obtain ⟨h1, _⟩ := runs_rest sep t k hk
  have hf := (runsL_fit sep t k hk).2.2
  refine ⟨?_, by rw [List.length_take, List.length_drop]; omega⟩
  rw [List.all_eq_true]
  intro y hy
  obtain ⟨j, hj, rfl⟩ := List.getElem_of_mem hy
  rw [List.length_take] at hj
  exact lead_dg _ j _ (by rw [← h1]; omega) (by rw [List.getElem_take]; exact List.getElem?_eq_getElem _)
/-- The text up to a run. -/
theorem text_at (sep t : List UInt8) (h0 : 0 < lead t) (k : Nat) (hk : k < (runsL sep t).length) :
    isum ((runsL sep t).take k) = (ud t sep.length (runsL sep t) k).length ∧ (ud t sep.length (runsL sep t) k).all dg = true ∧ (0 < k → t.take (pos sep.length (runsL sep t) k) = joined sep ((runsL sep t).take k) (ud t sep.length (runsL sep t) k) ++ sep) := by
  induction k with
  | zero => simp [isum_nil, ud]
  | succ k ih =>
    obtain ⟨i1, i2, i3⟩ := ih (by omega)
    obtain ⟨d1, d2⟩ := run_dg sep t k (by omega)
    obtain ⟨_, hpre, _⟩ := runs_next sep t k hk
    have hat := rn_at sep t k (by omega)
    have htk : (runsL sep t).take (k + 1) = (runsL sep t).take k ++ [((rn (runsL sep t) k : Nat) : Int)] := by rw [List.take_add_one, hat]; rfl
    have hpos : ∀ y ∈ (runsL sep t).take k, (1 : Int) ≤ y := fun y hy => runs_pos sep t h0 y (List.mem_of_mem_take hy)
    rw [htk, ud, pos]
    refine ⟨?_, ?_, fun _ => ?_⟩
    · rw [isum_append, isum_cons, isum_nil, i1, List.length_append, d2]; omega
    · rw [List.all_append, i2, d1]; rfl
    · rw [take_add t _ sep.length, pre_takes _ _ hpre, take_add t _ (rn (runsL sep t) k)]
      congr 1
      by_cases hk0 : k = 0
      · subst hk0
        rw [List.take_zero, List.nil_append, joined_one _ _ _ (by rw [List.length_append, d2]; simp [ud])]
        simp [pos, ud]
      · rw [joined_snoc sep _ _ _ _ hpos i1 (by rw [d2]) (take_ne _ _ (by omega) (by omega)), i3 (by omega), List.append_assoc]

/-- A beginning that ends in a run is grouped just if the program says so. -/
theorem grouped_at (g : List Int) (hg : ∀ x ∈ g, (1 : Int) ≤ x ∧ x ≤ 127) (sep t : List UInt8) (hsd : sep.all (fun c => !dg c) = true) (h0 : 0 < lead t) (k : Nat) (hk : k < (runsL sep t).length) (hk0 : 0 < k) (j : Nat) (hj : 1 ≤ j) (hj2 : j ≤ rn (runsL sep t) k) :
    grpL sep g (ud t sep.length (runsL sep t) k ++ (t.drop (pos sep.length (runsL sep t) k)).take j) = t.take (pos sep.length (runsL sep t) k + j) ↔ goodAll (sz (oneB sep g) g) (runsL sep t) k = true ∧ (j : Int) = sz (oneB sep g) g 0 := by
  obtain ⟨t1, t2, t3⟩ := text_at sep t h0 k hk
  obtain ⟨d1, d2⟩ := run_dg sep t k hk
  have t3 := t3 hk0
  obtain ⟨hs, _, _⟩ := runs_next sep t (k - 1) (by omega)
  have hf := sz_nonneg (s := sep) hg
  have hpos : ∀ y ∈ (runsL sep t).take k, (1 : Int) ≤ y := fun y hy => runs_pos sep t h0 y (List.mem_of_mem_take hy)
  have hseg : ((t.drop (pos sep.length (runsL sep t) k)).take j).length = j := by
    rw [List.length_take] at d2 ⊢; omega
  have hsd2 : ((t.drop (pos sep.length (runsL sep t) k)).take j).all dg = true := by
    rw [List.all_eq_true] at d1 ⊢
    intro y hy
    refine d1 y ?_
    have : (t.drop (pos sep.length (runsL sep t) k)).take j = ((t.drop (pos sep.length (runsL sep t) k)).take (rn (runsL sep t) k)).take j := by rw [List.take_take, Nat.min_eq_left hj2]
    rw [this] at hy
    exact List.mem_of_mem_take hy
  have hT : t.take (pos sep.length (runsL sep t) k + j) = joined sep ((runsL sep t).take k ++ [(j : Int)]) (ud t sep.length (runsL sep t) k ++ (t.drop (pos sep.length (runsL sep t) k)).take j) := by
    rw [take_add, t3, joined_snoc sep _ _ _ _ hpos t1 (by rw [hseg]) (take_ne _ _ (by omega) (by omega)), List.append_assoc]
  have hlen : (ud t sep.length (runsL sep t) k ++ (t.drop (pos sep.length (runsL sep t) k)).take j).length = (ud t sep.length (runsL sep t) k).length + j := by rw [List.length_append, hseg]
  have hsum : isum ((runsL sep t).take k ++ [(j : Int)]) = (ud t sep.length (runsL sep t) k ++ (t.drop (pos sep.length (runsL sep t) k)).take j).length := by
    rw [isum_append, isum_cons, isum_nil, t1, hlen]; omega
  have hdd : (ud t sep.length (runsL sep t) k ++ (t.drop (pos sep.length (runsL sep t) k)).take j).all dg = true := by rw [List.all_append, t2, hsd2]; rfl
  obtain ⟨dd, hddd⟩ : ∃ dd, ud t sep.length (runsL sep t) k ++ (t.drop (pos sep.length (runsL sep t) k)).take j = dd := ⟨_, rfl⟩
  rw [hddd] at hT hsum hdd hlen ⊢
  rw [hT, grpL, groupL]
  have hge : (runsL sep t).getD k 0 = ((rn (runsL sep t) k : Nat) : Int) := by rw [List.getD_eq_getElem?_getD, rn_at sep t k hk]; rfl
  rw [← good_grp (sz (oneB sep g) g) hf (runsL sep t) k hk hk0 (runs_pos sep t h0) (j : Int) (by omega) (by rw [hge]; omega), hsum]
  obtain ⟨g1, g2, _⟩ := grp_sum (sz (oneB sep g) g) hf (dd.length : Int) (by omega)
  constructor
  · intro h
    refine joined_inj sep hs hsd _ _ dd g2 ?_ g1 hsum hdd ?_ h
    · intro y hy
      rcases List.mem_append.1 hy with h | h
      · exact hpos y h
      · simp at h; omega
    · intro h2; rw [h2] at hlen; simp at hlen; omega
  · intro h; rw [h]

def bestAt (f : Nat → Int) (g : List Int) (sep t : List UInt8) (k : Nat) : List UInt8 × Nat :=
  match findQ f (runsL sep t) k with
  | some q => (ud t sep.length (cutRuns g (runsL sep t) q) (q + 1), un sep.length (cutRuns g (runsL sep t) q) (q + 1))
  | none => (t.take (lead t), lead t)
theorem cut_ud (g : List Int) (sep t : List UInt8) (q : Nat) (hq : q < (runsL sep t).length) :
    ud t sep.length (cutRuns g (runsL sep t) q) (q + 1) = ud t sep.length (runsL sep t) q ++ (t.drop (pos sep.length (runsL sep t) q)).take (g.getD 0 0).toNat ∧ un sep.length (cutRuns g (runsL sep t) q) (q + 1) = pos sep.length (runsL sep t) q + (g.getD 0 0).toNat := by
  have e1 : ∀ j, j < q → rn (cutRuns g (runsL sep t) q) j = rn (runsL sep t) j := fun j hj => by
    have := cut_at g (runsL sep t) q hq j (by omega)
    rw [if_neg (by omega)] at this
    rw [rn, rn, List.getD_eq_getElem?_getD, this]; rfl
  have e2 : ∀ j, j ≤ q → pos sep.length (cutRuns g (runsL sep t) q) j = pos sep.length (runsL sep t) j := by
    intro j
    induction j with
    | zero => intro _; rfl
    | succ j ih => intro h; rw [pos, pos, ih (by omega), e1 j (by omega)]
  have e3 : ∀ j, j ≤ q → ud t sep.length (cutRuns g (runsL sep t) q) j = ud t sep.length (runsL sep t) j := by
    intro j
    induction j with
    | zero => intro _; rfl
    | succ j ih => intro h; rw [ud, ud, ih (by omega), e1 j (by omega), e2 j (by omega)]
  have e4 : rn (cutRuns g (runsL sep t) q) q = (g.getD 0 0).toNat := by
    have := cut_at g (runsL sep t) q hq q (Nat.le_refl _)
    rw [if_pos rfl] at this
    rw [rn, List.getD_eq_getElem?_getD, this]; rfl
  rw [ud, un, e2 q (Nat.le_refl _), e3 q (Nat.le_refl _), e4]
  exact ⟨rfl, rfl⟩

theorem ud_one (sep t : List UInt8) : ud t sep.length (runsL sep t) 1 = t.take (lead t) ∧ pos sep.length (runsL sep t) 0 + rn (runsL sep t) 0 = lead t := by
  simp [ud, pos, rn, runsL]
/-- The reference's way through the runs. -/
theorem scan_at (g : List Int) (hg : ∀ x ∈ g, (1 : Int) ≤ x ∧ x ≤ 127) (sep t : List UInt8) (hsd : sep.all (fun c => !dg c) = true) (h0 : 0 < lead t) (k : Nat) (hk : k < (runsL sep t).length) :
    ∃ F, t.length < F + (pos sep.length (runsL sep t) k + rn (runsL sep t) k) ∧
      rungL (grpL sep g) sep t = rscan (grpL sep g) sep t F (ud t sep.length (runsL sep t) (k + 1)) (pos sep.length (runsL sep t) k + rn (runsL sep t) k) (decide (k = 0)) (bestAt (sz (oneB sep g) g) g sep t k) := by
  have hdg : ∀ i, i < rn (runsL sep t) k → dgAt t (pos sep.length (runsL sep t) k + i) = true := fun i hi => by
    obtain ⟨h1, _⟩ := runs_rest sep t k hk
    have hl := (runsL_fit sep t k hk).2.2
    obtain ⟨c, hc⟩ : ∃ c, t[pos sep.length (runsL sep t) k + i]? = some c := ⟨_, List.getElem?_eq_getElem (by omega)⟩
    rw [dgAt, hc]
    exact lead_dg (t.drop (pos sep.length (runsL sep t) k)) i c (by rw [← h1]; exact hi) (by rw [List.getElem?_drop]; exact hc)
  have hfit := (runsL_fit sep t k hk).2.2
  induction k with
  | zero =>
    obtain ⟨u1, u2⟩ := ud_one sep t
    have hr0 : rn (runsL sep t) 0 = lead t := by simp [rn, runsL]
    refine ⟨t.length + 1 - lead t, by rw [u2]; have := lead_le t; omega, ?_⟩
    have hl := lead_le t
    have := scan_run (grpL sep g) sep t [] 0 true ([], 0) (lead t) (t.length + 1 - lead t) (fun i hi => by have := hdg i (by rw [hr0]; exact hi); simpa [pos] using this)
    rw [show t.length + 1 - lead t + lead t = t.length + 1 by omega] at this
    rw [rungL, this, upd_plain _ _ _ _ _ _ h0, u1, u2]
    simp [bestAt, findQ]
  | succ k ih =>
    obtain ⟨F, hF, he⟩ := ih (by omega) (fun i hi => by
      obtain ⟨h1, _⟩ := runs_rest sep t k (by omega)
      have hl := (runsL_fit sep t k (by omega)).2.2
      obtain ⟨c, hc⟩ : ∃ c, t[pos sep.length (runsL sep t) k + i]? = some c := ⟨_, List.getElem?_eq_getElem (by omega)⟩
      rw [dgAt, hc]
      exact lead_dg (t.drop (pos sep.length (runsL sep t) k)) i c (by rw [← h1]; exact hi) (by rw [List.getElem?_drop]; exact hc)) (runsL_fit sep t k (by omega)).2.2
    obtain ⟨n1, n2, n3⟩ := runs_next sep t k hk
    obtain ⟨e, hee⟩ : ∃ e, pos sep.length (runsL sep t) k + rn (runsL sep t) k = e := ⟨_, rfl⟩
    have hp : pos sep.length (runsL sep t) (k + 1) = e + sep.length := by rw [pos, hee]
    rw [hee] at hF he n2
    have hsl : 0 < sep.length := by cases sep with
      | nil => cases n1
      | cons a l => simp
    rw [hp] at hdg hfit ⊢
    -- behind the run: no digit; the separator
    have hrk : 0 < rn (runsL sep t) k := by
      have := runs_pos sep t h0 _ (List.mem_of_getElem? (rn_at sep t k (by omega)))
      omega
    have hlast : dgAt t (e - 1) = true := by
      obtain ⟨h1, _⟩ := runs_rest sep t k (by omega)
      have hl := (runsL_fit sep t k (by omega)).2.2
      obtain ⟨c, hc⟩ : ∃ c, t[e - 1]? = some c := ⟨_, List.getElem?_eq_getElem (by omega)⟩
      rw [dgAt, hc]
      refine lead_dg (t.drop (pos sep.length (runsL sep t) k)) (rn (runsL sep t) k - 1) c (by rw [← h1]; omega) ?_
      rw [List.getElem?_drop, show pos sep.length (runsL sep t) k + (rn (runsL sep t) k - 1) = e - 1 by omega]; exact hc
    obtain ⟨c, hc, hcd⟩ : ∃ c, t[e]? = some c ∧ dg c = false := by
      cases sep with
      | nil => cases n1
      | cons a l =>
        have hq := pre_takes _ _ n2
        have : (t.drop e)[0]? = some a := by
          have := congrArg (fun l => l[0]?) hq
          simpa using this
        rw [List.getElem?_drop, Nat.add_zero] at this
        refine ⟨a, this, ?_⟩
        simp at hsd; exact hsd.1
    obtain ⟨F', rfl⟩ : ∃ F', F = F' + 1 := ⟨F - 1, by omega⟩
    rw [rscan_sep _ _ _ _ _ _ _ _ c hc hcd n1 n2 hlast] at he
    obtain ⟨F'', rfl⟩ : ∃ F'', F' = F'' + rn (runsL sep t) (k + 1) := ⟨F' - rn (runsL sep t) (k + 1), by omega⟩
    rw [scan_run _ _ _ _ _ _ _ (rn (runsL sep t) (k + 1)) F'' hdg] at he
    refine ⟨F'', by omega, ?_⟩
    have hud2 : ud t sep.length (runsL sep t) (k + 1 + 1) = ud t sep.length (runsL sep t) (k + 1) ++ (t.drop (e + sep.length)).take (rn (runsL sep t) (k + 1)) := by
      show ud t sep.length (runsL sep t) (k + 1) ++ (t.drop (pos sep.length (runsL sep t) (k + 1))).take (rn (runsL sep t) (k + 1)) = _
      rw [hp]
    rw [he, hud2, show decide (k + 1 = 0) = false from rfl]
    congr 1
    -- what the run makes of the best
    have hga := grouped_at g hg sep t hsd h0 (k + 1) hk (by omega)
    rw [hp] at hga
    have hf0 := sz_nonneg (s := sep) hg 0
    have hb : ∀ b, goodAll (sz (oneB sep g) g) (runsL sep t) (k + 1) = b → bestAt (sz (oneB sep g) g) g sep t (k + 1) = if b then (ud t sep.length (cutRuns g (runsL sep t) (k + 1)) (k + 1 + 1), un sep.length (cutRuns g (runsL sep t) (k + 1)) (k + 1 + 1)) else bestAt (sz (oneB sep g) g) g sep t k := by
      intro b hb; simp only [bestAt, findQ, hb]; cases b <;> rfl
    cases hgd : goodAll (sz (oneB sep g) g) (runsL sep t) (k + 1)
    · rw [hb _ hgd, upd_none]
      · rfl
      · intro j h1 h2 h3
        have := ((hga j h1 h2).1 h3).1
        rw [hgd] at this; cases this
    · have gf := good_first ⟨sep.toArray⟩ g (oneB sep g) (by simp [oneB, L]) (runsL sep t) (k + 1) (by omega) hgd
      obtain ⟨_, hge, hs0, hg0, hgk⟩ := gf
      have hat := rn_at sep t (k + 1) hk
      rw [List.getD_eq_getElem?_getD (l := runsL sep t), hat] at hgk
      simp only [Option.getD_some] at hgk
      have hj0 : ((g.getD 0 0).toNat : Int) = g.getD 0 0 := Int.toNat_of_nonneg (by omega)
      rw [upd_one _ _ _ _ _ (g.getD 0 0).toNat (by omega) _ (by omega) (fun j h1 h2 => by
        rw [hga j h1 h2, hgd, hs0]
        constructor
        · rintro ⟨_, h⟩; omega
        · intro h; exact ⟨rfl, by omega⟩)]
      obtain ⟨c1, c2⟩ := cut_ud g sep t (k + 1) hk
      rw [hp] at c1 c2
      rw [hb _ hgd, if_pos rfl, c1, c2]

theorem un_eq (g : List Int) (hg : ∀ x ∈ g, (1 : Int) ≤ x ∧ x ≤ 127) (sep t : List UInt8) (hsd : sep.all (fun c => !dg c) = true) (h0 : lead t ≠ 0) :
    ungL (sz (oneB sep g) g) g sep t = rungL (grpL sep g) sep t := by
  have hl : 0 < (runsL sep t).length := by simp [runsL]
  obtain ⟨k, hk⟩ : ∃ k, k + 1 = (runsL sep t).length := ⟨(runsL sep t).length - 1, by omega⟩
  obtain ⟨F, hF, he⟩ := scan_at g hg sep t hsd (by omega) k (by omega)
  have hu : ungL (sz (oneB sep g) g) g sep t = bestAt (sz (oneB sep g) g) g sep t k := by
    rw [ungL, show (runsL sep t).length - 1 = k by omega]; rfl
  rw [hu, he]
  obtain ⟨e, hee⟩ : ∃ e, pos sep.length (runsL sep t) k + rn (runsL sep t) k = e := ⟨_, rfl⟩
  have hlast := runs_last sep t k hk
  have hrest := (runs_rest sep t k (by omega)).1
  have hend : dgAt t e = false := by
    cases h : t[e]? with
    | none => rw [dgAt, h]
    | some c =>
      rw [dgAt, h]
      refine lead_stop (t.drop (pos sep.length (runsL sep t) k)) c ?_
      rw [← hrest, List.getElem?_drop, hee]; exact h
  rw [hee] at hlast hF ⊢
  cases hc : t[e]? with
  | none => rw [rscan_end _ _ _ _ _ _ _ _ (List.getElem?_eq_none_iff.1 hc)]
  | some c =>
    have hcd : dg c = false := by rw [dgAt, hc] at hend; exact hend
    have hlt := (List.getElem?_eq_some_iff.1 hc).1
    obtain ⟨F', rfl⟩ : ∃ F', F = F' + 1 := by
      have := (runsL_fit sep t k (by omega)).2.2
      cases F with
      | zero => omega
      | succ F => exact ⟨F, rfl⟩
    by_cases hst : sep.isEmpty = true ∨ pre sep (t.drop e) = false ∨ dgAt t (e - 1) = false
    · rw [rscan_stop _ _ _ _ _ _ _ _ c hc hcd hst]
    · have n1 : sep.isEmpty = false := by cases h : sep.isEmpty; · rfl
                                          · exact absurd (.inl h) hst
      have n2 : pre sep (t.drop e) = true := by cases h : pre sep (t.drop e); · exact absurd (.inr (.inl h)) hst
                                                · rfl
      have n3 : dgAt t (e - 1) = true := by cases h : dgAt t (e - 1); · exact absurd (.inr (.inr h)) hst
                                            · rfl
      rw [rscan_sep _ _ _ _ _ _ _ _ c hc hcd n1 n2 n3]
      have hz : lead (t.drop (e + sep.length)) = 0 := by
        rcases hlast with h | h | h
        · rw [n1] at h; cases h
        · rw [n2] at h; cases h
        · exact h
      have hz2 := (leadz _).1 hz
      cases hc2 : t[e + sep.length]? with
      | none => rw [rscan_end _ _ _ _ _ _ _ _ (List.getElem?_eq_none_iff.1 hc2)]
      | some c2 =>
        have hcd2 : dg c2 = false := by
          rw [dgAt, List.getElem?_drop, Nat.add_zero, hc2] at hz2; exact hz2
        have hsl : 0 < sep.length := by cases sep with
          | nil => cases n1
          | cons a l => simp
        cases F' with
        | zero => rfl
        | succ F' =>
          refine (rscan_stop _ _ _ _ _ _ _ _ c2 hc2 hcd2 (.inr (.inr ?_))).symm
          have hq := pre_takes _ _ n2
          have : t[e + sep.length - 1]? = sep[sep.length - 1]? := by
            have := congrArg (fun l => l[sep.length - 1]?) hq
            simp only [List.getElem?_take, List.getElem?_drop] at this
            rw [if_pos (by omega)] at this
            rw [show e + sep.length - 1 = e + (sep.length - 1) by omega, this]
          rw [dgAt, this, List.getElem?_eq_getElem (by omega)]
          have := List.all_eq_true.1 hsd _ (List.getElem_mem (show sep.length - 1 < sep.length by omega))
          simpa using this
end Go.Proofs.Ytkdnlmnjhlogmaa
