/- Plain laws: what Ungroup finds is the longest beginning. -/
import Derived.Test.YtkdnlmnjhlogmaaZN
import Derived.Test.YtkdnlmnjhlogmaaZP
namespace Go.Proofs.Ytkdnlmnjhlogmaa
open Go.RowKit Go.Shelf
set_option linter.unusedSimpArgs false
set_option linter.unusedVariables false

/-- The best only grows. -/
theorem rscan_mono (G : List UInt8 → List UInt8) (sep t : List UInt8) : ∀ (F : Nat) (d : List UInt8) (a : Nat) (pl : Bool) (best : List UInt8 × Nat), best.2 ≤ a → best.2 ≤ (rscan G sep t F d a pl best).2
  | 0, _, _, _, best, _ => by rw [rscan]; exact Nat.le_refl _
  | F + 1, d, a, pl, best, h => by
    rw [rscan]; split
    · exact Nat.le_refl _
    · rename_i c hc; split
      · have := rscan_mono G sep t F (d ++ [c]) (a + 1) pl (if pl || G (d ++ [c]) == t.take (a + 1) then (d ++ [c], a + 1) else best) (by split <;> first | omega | (simp; done) | (simp; omega))
        refine Nat.le_trans ?_ this
        split <;> first | omega | (simp; done) | (simp; omega)
      · split
        · exact rscan_mono G sep t F d (a + sep.length) false best (by omega)
        · exact Nat.le_refl _
def fine (G : List UInt8 → List UInt8) (t : List UInt8) (b : List UInt8 × Nat) : Prop :=
  b = ([], 0) ∨ (0 < b.2 ∧ b.2 ≤ t.length ∧ b.1 = (t.take b.2).filter dg ∧ b.1 ≠ [] ∧ (t.take b.2 = b.1 ∨ G b.1 = t.take b.2))
theorem take_snoc_at (t : List UInt8) (a : Nat) (c : UInt8) (h : t[a]? = some c) : t.take (a + 1) = t.take a ++ [c] := by
  rw [List.take_add_one, h]; rfl
theorem rscan_fine (G : List UInt8 → List UInt8) (sep t : List UInt8) (hsd : sep.all (fun c => !dg c) = true) : ∀ (F : Nat) (d : List UInt8) (a : Nat) (pl : Bool) (best : List UInt8 × Nat), fine G t best → d = (t.take a).filter dg → (pl = true → t.take a = d) → fine G t (rscan G sep t F d a pl best)
  | 0, _, _, _, best, h, _, _ => by rw [rscan]; exact h
  | F + 1, d, a, pl, best, h, hd, hp => by
    rw [rscan]; split
    · exact h
    · rename_i c hc
      have ht := take_snoc_at t a c hc
      have hlt := (List.getElem?_eq_some_iff.1 hc).1
      split
      · rename_i hdc
        have hd1 : d ++ [c] = (t.take (a + 1)).filter dg := by rw [ht, List.filter_append, ← hd]; simp [hdc]
        have hp1 : pl = true → t.take (a + 1) = d ++ [c] := fun h => by rw [ht, hp h]
        refine rscan_fine G sep t hsd F _ _ _ _ ?_ hd1 hp1
        split
        · rename_i hb
          rw [Bool.or_eq_true, beq_iff_eq] at hb
          refine .inr ⟨by simp, by simp; omega, hd1, by simp, ?_⟩
          rcases hb with hb | hb
          · exact .inl (hp1 hb)
          · exact .inr hb
        · exact h
      · split
        · rename_i hs
          simp only [Bool.and_eq_true, Bool.not_eq_true'] at hs
          refine rscan_fine G sep t hsd F _ _ _ _ h ?_ (by simp)
          rw [take_add t a sep.length, pre_takes _ _ hs.1.2, List.filter_append, filter_sep sep hsd, List.append_nil, hd]
        · exact h
theorem rscan_reach (G : List UInt8 → List UInt8) (sep t : List UInt8) (hs : sep.isEmpty = false) (hsd : sep.all (fun c => !dg c) = true) (k : Nat) (hk : k ≤ t.length) (hG : G ((t.take k).filter dg) = t.take k) :
    ∀ (F : Nat) (d : List UInt8) (a : Nat) (pl : Bool) (best : List UInt8 × Nat) (ys : List Int) (m : Nat) (d' : List UInt8),
      (t.take k).drop a = d'.take m ++ tj sep ys (d'.drop m) → m ≤ d'.length → (∀ y ∈ ys, (1 : Int) ≤ y) → isum ys = (d'.drop m).length → d'.all dg = true → a ≤ k → ((0 < a ∧ dgAt t (a - 1) = true) ∨ 0 < m) → best.2 ≤ a → (a = k → best.2 = k) → d = (t.take a).filter dg → t.length < F + a →
      k ≤ (rscan G sep t F d a pl best).2
  | 0, d, a, pl, best, ys, m, d', _, _, _, _, _, ha, _, _, _, _, hF => by omega
  | F + 1, d, a, pl, best, ys, m, d', hr, hm, hy, hsum, hdd, ha, hprev, hb, hbk, hd, hF => by
    by_cases hak : a = k
    · have := rscan_mono G sep t (F + 1) d a pl best hb
      rw [hbk hak] at this; exact this
    · have hsl : 0 < sep.length := by
        cases sep with
        | nil => cases hs
        | cons a l => simp
      have htd : t.drop a = (t.take k).drop a ++ t.drop k := by
        conv => lhs; rw [← List.take_append_drop k t]
        rw [List.drop_append_of_le_length (by rw [List.length_take]; omega)]
      have hlen : ((t.take k).drop a).length = k - a := by rw [List.length_drop, List.length_take]; omega
      cases m with
      | zero =>
        cases ys with
        | nil => rw [hr] at hlen; simp [tj] at hlen; omega
        | cons y ys =>
          have hy1 := hy y (by simp)
          rw [isum_cons, List.drop_zero] at hsum
          have hn := isum_nonneg ys (fun z hz => hy z (by simp [hz]))
          rw [List.take_zero, List.nil_append, List.drop_zero, tj] at hr
          have hpre : pre sep (t.drop a) = true := by rw [htd, hr, List.append_assoc]; exact pre_append sep _
          have hprev : dgAt t (a - 1) = true := by
            rcases hprev with h | h
            · exact h.2
            · omega
          obtain ⟨c, l, rfl⟩ : ∃ c l, sep = c :: l := by
            cases sep with
            | nil => cases hs
            | cons c l => exact ⟨c, l, rfl⟩
          have hc : t[a]? = some c := by
            have : (t.drop a)[0]? = some c := by rw [htd, hr]; rfl
            rw [List.getElem?_drop] at this; exact this
          have hcd : dg c = false := by
            simp only [List.all_cons, Bool.and_eq_true, Bool.not_eq_true'] at hsd; exact hsd.1
          rw [rscan_sep G _ t F d a pl best c hc hcd rfl hpre hprev]
          have hl2 := congrArg List.length hr
          rw [hlen, List.length_append, List.length_append, List.length_take] at hl2
          refine rscan_reach G (c :: l) t hs hsd k hk hG F d _ false best ys y.toNat d' ?_ (by omega) (fun z hz => hy z (by simp [hz])) (by rw [List.length_drop]; omega) hdd (by omega) (.inr (by omega)) (by omega) (fun h => by omega) ?_ (by omega)
          · rw [← List.drop_drop, hr]; simp
          · rw [take_add t a, pre_takes _ _ hpre, List.filter_append, filter_sep _ hsd, List.append_nil, hd]
      | succ m =>
        cases d' with
        | nil => simp at hm
        | cons c d'' =>
          rw [List.take_succ_cons, List.drop_succ_cons, List.cons_append] at hr
          have hc : t[a]? = some c := by
            have : (t.drop a)[0]? = some c := by rw [htd, hr]; rfl
            rw [List.getElem?_drop] at this; exact this
          simp only [List.all_cons, Bool.and_eq_true] at hdd
          have hcd := hdd.1
          have ht := take_snoc_at t a c hc
          have hd1 : d ++ [c] = (t.take (a + 1)).filter dg := by rw [ht, List.filter_append, ← hd]; simp [hcd]
          rw [rscan_digit G sep t F d a pl best c hc hcd _ rfl]
          refine rscan_reach G sep t hs hsd k hk hG F _ (a + 1) pl _ ys m d'' ?_ (by simpa using hm) hy (by rw [hsum, List.drop_succ_cons]) hdd.2 (by omega) (.inl ⟨by omega, by rw [Nat.add_sub_cancel, dgAt, hc]; exact hcd⟩) ?_ (fun h => ?_) hd1 (by omega)
          · rw [← List.drop_drop, hr]; simp
          · split <;> first | omega | (simp; done) | (simp; omega)
          · have : (pl || G (d ++ [c]) == t.take (a + 1)) = true := by
              rw [hd1, h, hG]; simp
            rw [this]; simp [h]
theorem all_lead (t : List UInt8) (k : Nat) (hk : k ≤ t.length) (h : (t.take k).all dg = true) : k ≤ lead t := by
  rcases Nat.lt_or_ge (lead t) k with hlt | hge
  · obtain ⟨c, hc⟩ : ∃ c, t[lead t]? = some c := ⟨_, List.getElem?_eq_getElem (by omega)⟩
    have h1 := lead_stop t c hc
    have h2 : c ∈ t.take k := List.mem_of_getElem? (i := lead t) (by rw [List.getElem?_take, if_pos hlt]; exact hc)
    rw [List.all_eq_true] at h
    rw [h c h2] at h1; cases h1
  · exact hge
theorem filter_all (l : List UInt8) : (l.filter dg).all dg = true := by
  rw [List.all_eq_true]; intro c hc; exact (List.mem_filter.1 hc).2
theorem longest (g : List Int) (hg : ∀ x ∈ g, (1 : Int) ≤ x ∧ x ≤ 127) (sep t : List UInt8) (hsd : sep.all (fun c => !dg c) = true) (h0 : lead t ≠ 0) (R : List UInt8 × Nat) (hR : ungL (sz (oneB sep g) g) g sep t = R) :
    (0 < R.2 ∧ R.2 ≤ t.length ∧ R.1 = (t.take R.2).filter dg ∧ R.1 ≠ [] ∧ (t.take R.2 = R.1 ∨ grpL sep g R.1 = t.take R.2)) ∧
    ∀ k, k ≤ t.length → (t.take k).filter dg ≠ [] → (t.take k = (t.take k).filter dg ∨ grpL sep g ((t.take k).filter dg) = t.take k) → k ≤ R.2 := by
  rw [un_eq g hg sep t hsd h0] at hR
  have hl := lead_le t
  have hlead : lead t ≤ R.2 := by
    have := scan_run (grpL sep g) sep t [] 0 true ([], 0) (lead t) (t.length + 1 - lead t) (fun i hi => by
      obtain ⟨c, hc⟩ : ∃ c, t[0 + i]? = some c := ⟨_, List.getElem?_eq_getElem (by omega)⟩
      rw [dgAt, hc]; exact lead_dg t i c hi (by rw [← hc]; simp))
    rw [show t.length + 1 - lead t + lead t = t.length + 1 by omega, upd_plain _ _ _ _ _ _ (by omega)] at this
    have hm := rscan_mono (grpL sep g) sep t (t.length + 1 - lead t) ([] ++ (t.drop 0).take (lead t)) (0 + lead t) true ([] ++ (t.drop 0).take (lead t), 0 + lead t) (Nat.le_refl _)
    rw [← this, show rscan (grpL sep g) sep t (t.length + 1) [] 0 true ([], 0) = R from hR] at hm
    simpa using hm
  refine ⟨?_, fun k hk hne hor => ?_⟩
  · have := rscan_fine (grpL sep g) sep t hsd (t.length + 1) [] 0 true ([], 0) (.inl rfl) (by simp) (by simp)
    rw [show rscan (grpL sep g) sep t (t.length + 1) [] 0 true ([], 0) = R from hR] at this
    rcases this with h | h
    · rw [h] at hlead; simp at hlead; omega
    · exact h
  · have plain : t.take k = (t.take k).filter dg → k ≤ R.2 := fun h => by
      have h1 : (t.take k).all dg = true := by rw [h]; exact filter_all _
      exact Nat.le_trans (all_lead t k hk h1) hlead
    rcases hor with hor | hor
    · exact plain hor
    · obtain ⟨x, hx⟩ : ∃ x, (t.take k).filter dg = x := ⟨_, rfl⟩
      have hxd : x.all dg = true := by rw [← hx]; exact filter_all _
      obtain ⟨g1, g2, _⟩ := grp_sum (sz (oneB sep g) g) (sz_nonneg (s := sep) hg) (x.length : Int) (by omega)
      cases hs : sep.isEmpty
      · rw [hx] at hor hne
        cases hgr : grp (sz (oneB sep g) g) (x.length : Int) with
        | nil =>
          rw [hgr, isum_nil] at g1
          exact absurd (List.eq_nil_of_length_eq_zero (by omega)) hne
        | cons y ys =>
          rw [hgr, isum_cons] at g1
          rw [hgr] at g2
          have hy1 := g2 y (by simp)
          have hn := isum_nonneg ys (fun z hz => g2 z (by simp [hz]))
          have hj : t.take k = x.take y.toNat ++ tj sep ys (x.drop y.toNat) := by
            rw [← hor, grpL, groupL, hgr, joined_cons]
          rw [← hR]
          exact rscan_reach (grpL sep g) sep t hs hsd k hk (by rw [hx]; exact hor) (t.length + 1) [] 0 true ([], 0) ys y.toNat x (by rw [List.drop_zero, hj]) (by omega) (fun z hz => g2 z (by simp [hz])) (by rw [List.length_drop]; omega) hxd (by omega) (.inr (by omega)) (by simp) (fun h => by simp; omega) (by simp) (by omega)
      · refine plain ?_
        have ho : oneB sep g = true := by simp [oneB, hs]
        rw [hx] at hor hne ⊢
        have hlx := List.length_pos_iff.2 hne
        rw [← hor, grpL, groupL, ho, grp_one (sz true g) (fun k => rfl) (x.length : Int) (by omega)]
        exact joined_one sep _ x rfl
end Go.Proofs.Ytkdnlmnjhlogmaa
