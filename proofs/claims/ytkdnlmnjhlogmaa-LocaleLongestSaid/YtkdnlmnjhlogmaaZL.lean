/- Plain laws: groups and joined digits, read back. -/
import Derived.Test.YtkdnlmnjhlogmaaZK
namespace Go.Proofs.Ytkdnlmnjhlogmaa
open Go.RowKit Go.Shelf
set_option linter.unusedSimpArgs false
set_option linter.unusedVariables false

theorem leadz (l : List UInt8) : lead l = 0 ↔ dgAt l 0 = false := by
  cases l with
  | nil => simp [lead, dgAt]
  | cons a l =>
    simp only [lead, List.takeWhile_cons, dgAt, List.getElem?_cons_zero]
    cases h : dg a <;> simp
/-- The groups behind the first one. -/
def tj (sep : List UInt8) : List Int → List UInt8 → List UInt8
  | [], _ => []
  | x :: xs, d => sep ++ (d.take x.toNat ++ tj sep xs (d.drop x.toNat))
theorem fold_tj (sep : List UInt8) : ∀ (xs : List Int) (acc d : List UInt8), (xs.foldl (gstep sep) (acc, d, false)).1 = acc ++ tj sep xs d
  | [], acc, d => by simp [tj]
  | x :: xs, acc, d => by
    rw [List.foldl_cons]
    show (xs.foldl (gstep sep) (acc ++ (sep ++ d.take x.toNat), d.drop x.toNat, false)).1 = _
    rw [fold_tj sep xs]; simp [tj]
theorem joined_cons (sep : List UInt8) (x : Int) (xs : List Int) (d : List UInt8) : joined sep (x :: xs) d = d.take x.toNat ++ tj sep xs (d.drop x.toNat) := by
  rw [joined, List.foldl_cons]
  show (xs.foldl (gstep sep) ([] ++ ([] ++ d.take x.toNat), d.drop x.toNat, false)).1 = _
  rw [fold_tj]; simp
theorem tj_snoc (sep : List UInt8) : ∀ (xs : List Int) (x : Int) (d d' : List UInt8), (∀ y ∈ xs, (1 : Int) ≤ y) → isum xs = d.length → x = d'.length → tj sep (xs ++ [x]) (d ++ d') = tj sep xs d ++ (sep ++ d')
  | [], x, d, d', _, h1, h2 => by
    have : d = [] := List.eq_nil_of_length_eq_zero (by rw [isum_nil] at h1; omega)
    subst this h2
    simp [tj]
  | y :: xs, x, d, d', hp, h1, h2 => by
    have hy := hp y (by simp)
    rw [isum_cons] at h1
    have hn := isum_nonneg xs (fun z hz => hp z (by simp [hz]))
    have hle : y.toNat ≤ d.length := by omega
    rw [List.cons_append, tj, tj, List.take_append_of_le_length hle, List.drop_append_of_le_length hle, tj_snoc sep xs x (d.drop y.toNat) d' (fun z hz => hp z (by simp [hz])) (by rw [List.length_drop]; omega) h2]
    simp
theorem joined_snoc (sep : List UInt8) (xs : List Int) (x : Int) (d d' : List UInt8) (hp : ∀ y ∈ xs, (1 : Int) ≤ y) (h1 : isum xs = d.length) (h2 : x = d'.length) (hne : xs ≠ []) :
    joined sep (xs ++ [x]) (d ++ d') = joined sep xs d ++ (sep ++ d') := by
  cases xs with
  | nil => exact absurd rfl hne
  | cons y xs =>
    have hy := hp y (by simp)
    rw [isum_cons] at h1
    have hn := isum_nonneg xs (fun z hz => hp z (by simp [hz]))
    have hle : y.toNat ≤ d.length := by omega
    rw [List.cons_append, joined_cons, joined_cons, List.take_append_of_le_length hle, List.drop_append_of_le_length hle, tj_snoc sep xs x (d.drop y.toNat) d' (fun z hz => hp z (by simp [hz])) (by rw [List.length_drop]; omega) h2]
    simp
theorem joined_one (sep : List UInt8) (x : Int) (d : List UInt8) (h : x = d.length) : joined sep [x] d = d := by
  subst h; rw [joined_cons]; simp [tj]
/-- Runs of digits in front of what begins with none. -/
theorem lead_append (a b : List UInt8) (ha : a.all dg = true) (hb : dgAt b 0 = false) : lead (a ++ b) = a.length := by
  refine lead_at _ _ (fun j x hj hx => ?_) (by simp) (fun x hx => ?_)
  · rw [List.getElem?_append_left hj] at hx
    exact List.all_eq_true.1 ha x (List.mem_of_getElem? hx)
  · rw [List.getElem?_append_right (Nat.le_refl _), Nat.sub_self] at hx
    rw [dgAt, hx] at hb; exact hb
theorem pre_append (sep r : List UInt8) : pre sep (sep ++ r) = true := by
  unfold pre; rw [List.isPrefixOf_iff_prefix]; exact List.prefix_append _ _
/-- A tail that goes on with neither a digit nor a separator. -/
def stops (sep tail : List UInt8) : Prop := dgAt tail 0 = false ∧ pre sep tail = false
theorem tj_dg (sep : List UInt8) (hs : sep.isEmpty = false) (hsd : dgAt sep 0 = false) (xs : List Int) (d tail : List UInt8) (ht : dgAt tail 0 = false) : dgAt (tj sep xs d ++ tail) 0 = false := by
  cases xs with
  | nil => simpa [tj] using ht
  | cons x xs =>
    cases sep with
    | nil => cases hs
    | cons a sep => simpa [tj, dgAt] using hsd
theorem runs_tj (sep : List UInt8) (hs : sep.isEmpty = false) (hsd : dgAt sep 0 = false) (tail : List UInt8) (ht : dgAt tail 0 = false) (ht2 : pre sep tail = false ∨ dgAt (tail.drop sep.length) 0 = false) :
    ∀ (xs : List Int) (F : Nat) (d : List UInt8), (∀ y ∈ xs, (1 : Int) ≤ y) → isum xs = d.length → d.all dg = true → (tj sep xs d ++ tail).length ≤ F → runsF sep F (tj sep xs d ++ tail) = xs
  | [], F, d, _, _, _, _ => by
    rw [tj, List.nil_append]
    rcases ht2 with h | h
    · exact runsF_end _ _ _ (.inr (.inl h))
    · exact runsF_end _ _ _ (.inr (.inr ((leadz _).2 h)))
  | x :: xs, F, d, hp, h1, hd, hF => by
    have hx := hp x (by simp)
    rw [isum_cons] at h1
    have hn := isum_nonneg xs (fun z hz => hp z (by simp [hz]))
    have e1 : tj sep (x :: xs) d ++ tail = sep ++ (d.take x.toNat ++ (tj sep xs (d.drop x.toNat) ++ tail)) := by simp [tj]
    rw [e1] at hF ⊢
    have hl : lead (d.take x.toNat ++ (tj sep xs (d.drop x.toNat) ++ tail)) = x.toNat := by
      rw [lead_append _ _ ?_ (tj_dg sep hs hsd xs _ tail ht), List.length_take]
      · omega
      · rw [List.all_eq_true] at hd ⊢; exact fun y hy => hd y (List.mem_of_mem_take hy)
    have hdr : (sep ++ (d.take x.toNat ++ (tj sep xs (d.drop x.toNat) ++ tail))).drop sep.length = d.take x.toNat ++ (tj sep xs (d.drop x.toNat) ++ tail) := by simp
    rw [runsF_go _ _ _ hF hs (pre_append _ _) (by rw [hdr, hl]; omega), hdr, hl]
    have hdr2 : (d.take x.toNat ++ (tj sep xs (d.drop x.toNat) ++ tail)).drop x.toNat = tj sep xs (d.drop x.toNat) ++ tail := by
      have : (d.take x.toNat).length = x.toNat := by rw [List.length_take]; omega
      rw [List.drop_append_of_le_length (by omega), List.drop_of_length_le (by omega), List.nil_append]
    rw [hdr2, runs_tj sep hs hsd tail ht ht2 xs (F - 1) (d.drop x.toNat) (fun z hz => hp z (by simp [hz])) (by rw [List.length_drop]; omega) ?_ ?_]
    · rw [Int.toNat_of_nonneg (by omega)]
    · rw [List.all_eq_true] at hd ⊢; exact fun y hy => hd y (List.mem_of_mem_drop hy)
    · simp only [List.length_append] at hF ⊢; have : (d.take x.toNat).length = x.toNat := by rw [List.length_take]; omega
      omega
/-- What is joined is read as its groups. -/
theorem runs_joined (sep : List UInt8) (hs : sep.isEmpty = false) (hsd : dgAt sep 0 = false) (tail : List UInt8) (ht : dgAt tail 0 = false) (ht2 : pre sep tail = false ∨ dgAt (tail.drop sep.length) 0 = false)
    (x : Int) (xs : List Int) (d : List UInt8) (hp : ∀ y ∈ x :: xs, (1 : Int) ≤ y) (h1 : isum (x :: xs) = d.length) (hd : d.all dg = true) : runsL sep (joined sep (x :: xs) d ++ tail) = x :: xs := by
  have hx := hp x (by simp)
  rw [isum_cons] at h1
  have hn := isum_nonneg xs (fun z hz => hp z (by simp [hz]))
  rw [joined_cons, List.append_assoc]
  have hl : lead (d.take x.toNat ++ (tj sep xs (d.drop x.toNat) ++ tail)) = x.toNat := by
    rw [lead_append _ _ ?_ (tj_dg sep hs hsd xs _ tail ht), List.length_take]
    · omega
    · rw [List.all_eq_true] at hd ⊢; exact fun y hy => hd y (List.mem_of_mem_take hy)
  have hdr2 : (d.take x.toNat ++ (tj sep xs (d.drop x.toNat) ++ tail)).drop x.toNat = tj sep xs (d.drop x.toNat) ++ tail := by
    have : (d.take x.toNat).length = x.toNat := by rw [List.length_take]; omega
    rw [List.drop_append_of_le_length (by omega), List.drop_of_length_le (by omega), List.nil_append]
  rw [runsL, hl, hdr2, runs_tj sep hs hsd tail ht ht2 xs _ (d.drop x.toNat) (fun z hz => hp z (by simp [hz])) (by rw [List.length_drop]; omega) ?_ ?_]
  · rw [Int.toNat_of_nonneg (by omega)]
  · rw [List.all_eq_true] at hd ⊢; exact fun y hy => hd y (List.mem_of_mem_drop hy)
  · simp only [List.length_append]; omega
end Go.Proofs.Ytkdnlmnjhlogmaa
