/- strings.Cut at a point; Localize. -/
import Derived.Test.YtkdnlmnjhlogmaaY
import Derived.BigQuiet
import Derived.IntWalk
import Derived.Deep.QuietTactic
import Derived.Lib.IndexLaws
namespace Go.Proofs.Ytkdnlmnjhlogmaa
open Go.RowKit Go.Shelf
set_option linter.unusedSimpArgs false
set_option linter.unusedVariables false

/-- strings.Cut at a point. -/
def cutL (l : List UInt8) : List UInt8 × List UInt8 × Bool :=
  if Lib.indexByte l 46 = -1 then (l, [], false) else (l.take (Lib.indexByte l 46).toNat, l.drop ((Lib.indexByte l 46).toNat + 1), true)
theorem indexByte_lt (l : List UInt8) (c : UInt8) (h : Lib.indexByte l c ≠ -1) : 0 ≤ Lib.indexByte l c ∧ (Lib.indexByte l c).toNat < l.length := by
  have h1 := Lib.indexByte_ge l c
  have h2 : 0 ≤ Lib.indexByte l c := by omega
  obtain ⟨o, ho⟩ : ∃ o : Nat, Lib.indexByte l c = o := ⟨_, (Int.toNat_of_nonneg h2).symm⟩
  have := (Lib.indexByte_some ho).1
  refine ⟨h2, ?_⟩
  rw [ho]
  exact (List.getElem?_eq_some_iff.1 this).1

set_option maxHeartbeats 1000000 in
theorem cut_lite (t : ByteArray) (w : World) (ht : t.size ≤ maxLen) :
    Calls Try.prog 58 #[.string t, .string ⟨#[46]⟩] w fun r w' => r = .returned (.tuple #[.string (S (cutL (L t)).1), .string (S (cutL (L t)).2.1), .bool (cutL (L t)).2.2]) ∧ Below w.heap.size w w' := by
  unfold maxLen at ht
  have hix := fun w => Try.stringslite_Index_one t 46 w
  have hil : Lib.indexByte t.data.toList 46 = Lib.indexByte (L t) 46 := rfl
  rw [hil] at hix
  have hlt := indexByte_lt (L t) 46
  rw [L_length] at hlt
  by_cases h : Lib.indexByte (L t) 46 = -1
  · have hc : cutL (L t) = (L t, [], false) := by rw [cutL, if_pos h]
    have h2 : ¬ ((0 : Int) ≤ -1) := by omega
    rw [hc]
    rw [h] at hix
    have Hix := Lib.hid hix
    clear hix hil hlt h hc
    go_enter Try.func58, Try.ntmps58
    go_wp2_with fail
    refine (Hix.out _).mono ?_
    rintro r w1 ⟨rfl, rfl⟩
    go_wp2_with fail
    exact bodyPost_ret (v := .tuple #[.string t, .string ⟨#[]⟩, .bool false]) (by simp [results, Try.results58, go_sem]) rfl ⟨by rw [S_L]; rfl, Below.refl _ _⟩
  · obtain ⟨h0, h1⟩ := hlt h
    obtain ⟨o, ho⟩ : ∃ o : Nat, Lib.indexByte (L t) 46 = o := ⟨_, (Int.toNat_of_nonneg h0).symm⟩
    have hc : cutL (L t) = ((L t).take o, (L t).drop (o + 1), true) := by rw [cutL, if_neg h, ho]; rfl
    rw [hc]
    rw [ho] at hix h1
    have h2 : o < t.size := h1
    have Hix := Lib.hid hix
    have w1 : IntKind.i64.wrap ((o : Int) + 1) = (o : Int) + 1 := IntWalk.i64_in _ (by omega)
    have w2 : (0 : Int) ≤ (o : Int) + 1 := by omega
    have w3 : ((o : Int) + 1).toNat = o + 1 := by omega
    have w4 : (o : Int) + 1 ≤ t.size := by omega
    have w5 : (o : Int) ≤ t.size := by omega
    have w6 : o ≤ t.size := by omega
    have w7 : o + 1 ≤ t.size := by omega
    clear hix hil hlt h hc h0 h1 ho
    go_enter Try.func58, Try.ntmps58
    go_wp2_with fail
    refine (Hix.out _).mono ?_
    rintro r w1 ⟨rfl, rfl⟩
    go_wp2_with fail
    go_quiet (fail)
    go_wp2_with fail
    exact bodyPost_ret (v := .tuple #[.string (t.extract 0 o), .string (t.extract (o + 1) t.size), .bool true]) (by simp [results, Try.results58, go_sem]) rfl
      ⟨by rw [← S_L (t.extract 0 o), ← S_L (t.extract (o + 1) t.size), L_extract, L_extract, List.drop_zero, ← L_length t, List.take_length], below_drewN (Below.refl _ _) nq⟩

theorem cut_calls (t : ByteArray) (w : World) (ht : t.size ≤ maxLen) :
    Calls Try.prog 43 #[.string t, .string ⟨#[46]⟩] w fun r w' => r = .returned (.tuple #[.string (S (cutL (L t)).1), .string (S (cutL (L t)).2.1), .bool (cutL (L t)).2.2]) ∧ Below w.heap.size w w' := by
  have Hc := Lib.hid (cut_lite t w ht)
  go_enter Try.func43, Try.ntmps43
  go_wp2_with fail
  refine Hc.out.mono ?_
  rintro r w1 ⟨rfl, hb⟩
  have Hb := Lib.hid hb
  clear hb
  go_wp2_with fail
  exact bodyPost_ret (v := .tuple #[.string (S (cutL (L t)).1), .string (S (cutL (L t)).2.1), .bool (cutL (L t)).2.2]) (by simp [results, Try.results43, go_sem]) rfl ⟨rfl, Hb.out⟩

/-! ### Localize -/
def locL (point sep : List UInt8) (g : List Int) (t : List UInt8) : Option (List UInt8) :=
  if lead t = t.length then some (grpL sep g t) else if t[lead t]? = some 46 ∧ (t.drop (lead t + 1)).all dg = true then some (grpL sep g (t.take (lead t)) ++ point ++ t.drop (lead t + 1)) else none
theorem lead_all (l : List UInt8) : lead l = l.length ↔ l.all dg = true := by
  induction l with
  | nil => simp [lead]
  | cons a l ih =>
    simp only [lead, List.takeWhile_cons, List.all_cons, List.length_cons] at ih ⊢
    cases h : dg a
    · simp
    · simp [ih]
theorem lead_dg (l : List UInt8) : ∀ j x, j < lead l → l[j]? = some x → dg x = true := by
  induction l with
  | nil => intro j x h; simp [lead] at h
  | cons a l ih =>
    intro j x hj hx
    rw [lead, List.takeWhile_cons] at hj
    cases h : dg a
    · rw [h] at hj; simp at hj
    · rw [h] at hj
      cases j with
      | zero => simp at hx; rw [← hx]; exact h
      | succ j => exact ih j x (by simp at hj; exact hj) (by simpa using hx)
theorem lead_stop (l : List UInt8) (x : UInt8) (h : l[lead l]? = some x) : dg x = false := by
  induction l with
  | nil => simp at h
  | cons a l ih =>
    rw [lead, List.takeWhile_cons] at h
    cases ha : dg a
    · rw [ha] at h; simp at h; rw [← h]; exact ha
    · rw [ha] at h; simp at h; exact ih h
/-- What the program says, in the words of cutL. -/
theorem loc_cut (point sep : List UInt8) (g : List Int) (t : List UInt8) :
    locL point sep g t = if (cutL t).1.all dg = true ∧ (cutL t).2.1.all dg = true then (if (cutL t).2.2 then some (grpL sep g (cutL t).1 ++ point ++ (cutL t).2.1) else some (grpL sep g (cutL t).1)) else none := by
  have h46 : dg 46 = false := rfl
  rw [locL]
  by_cases hl : lead t = t.length
  · rw [if_pos hl]
    have hall := (lead_all t).1 hl
    have hn : Lib.indexByte t 46 = -1 := by
      by_cases h : Lib.indexByte t 46 = -1
      · exact h
      · obtain ⟨h0, h1⟩ := indexByte_lt t 46 h
        obtain ⟨o, ho⟩ : ∃ o : Nat, Lib.indexByte t 46 = o := ⟨_, (Int.toNat_of_nonneg h0).symm⟩
        have := (Lib.indexByte_some ho).1
        have h2 := List.all_eq_true.1 hall 46 (List.mem_of_getElem? this)
        rw [h46] at h2; cases h2
    rw [cutL, if_pos hn]
    simp [hall]
  · rw [if_neg hl]
    have hll : lead t < t.length := by have := lead_le t; omega
    obtain ⟨x, hx⟩ : ∃ x, t[lead t]? = some x := ⟨_, List.getElem?_eq_getElem hll⟩
    have hxd := lead_stop t x hx
    by_cases hx46 : x = 46
    · subst hx46
      have hi : Lib.indexByte t 46 = lead t := by
        by_cases h : Lib.indexByte t 46 = -1
        · exact absurd hx (Lib.indexByte_none h _)
        · obtain ⟨h0, h1⟩ := indexByte_lt t 46 h
          obtain ⟨o, ho⟩ : ∃ o : Nat, Lib.indexByte t 46 = o := ⟨_, (Int.toNat_of_nonneg h0).symm⟩
          obtain ⟨h2, h3⟩ := Lib.indexByte_some ho
          rw [ho]
          rcases Nat.lt_trichotomy o (lead t) with h4 | h4 | h4
          · have := lead_dg t o 46 h4 h2; rw [h46] at this; cases this
          · rw [h4]
          · exact absurd hx (h3 _ h4)
      have hc : cutL t = (t.take (lead t), t.drop (lead t + 1), true) := by
        rw [cutL, hi, if_neg (by omega)]; rfl
      have ht : (t.take (lead t)).all dg = true := by
        rw [List.all_eq_true]
        intro y hy
        obtain ⟨j, hj, rfl⟩ := List.getElem_of_mem hy
        rw [List.length_take] at hj
        exact lead_dg t j _ (by omega) (by rw [List.getElem_take, ← List.getElem?_eq_getElem])
      rw [hc, hx]
      simp only [ht, true_and, if_true]
    · rw [if_neg (by rw [hx]; simp [hx46])]
      have hno : (cutL t).1.all dg = false := by
        rw [List.all_eq_false]
        refine ⟨x, ?_, by rw [hxd]; decide⟩
        rw [cutL]
        split
        · exact List.mem_of_getElem? hx
        · rename_i h
          obtain ⟨h0, h1⟩ := indexByte_lt t 46 h
          obtain ⟨o, ho⟩ : ∃ o : Nat, Lib.indexByte t 46 = o := ⟨_, (Int.toNat_of_nonneg h0).symm⟩
          obtain ⟨h2, h3⟩ := Lib.indexByte_some ho
          rw [ho]
          have h5 : lead t < o := by
            rcases Nat.lt_trichotomy o (lead t) with h4 | h4 | h4
            · have := lead_dg t o 46 h4 h2; rw [h46] at this; cases this
            · rw [h4, hx] at h2; cases h2; exact absurd rfl hx46
            · exact h4
          refine List.mem_of_getElem? (i := lead t) ?_
          show (t.take o)[lead t]? = _
          rw [List.getElem?_take, if_pos h5, hx]
      rw [hno]; simp
end Go.Proofs.Ytkdnlmnjhlogmaa
