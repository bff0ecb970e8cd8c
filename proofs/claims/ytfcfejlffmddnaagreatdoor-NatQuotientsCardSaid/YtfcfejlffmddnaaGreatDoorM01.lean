/- Package nat, its reference and its laws' helpers, part 1 (NA NB ND NC NE NF NG). -/
import Derived.KernelRfl
import Derived.Test.YtfcfejlffmddnaaGreatDoorProg
import Derived.WalkKit
import Derived.WalkLawsBesides
import Derived.IntWalk
import Derived.Lib.Hide
import Derived.Laws.EntriesVeiled
import Derived.Laws.BitsAllLaws
import Derived.Below
import Derived.Deep.OwnRows
import Derived.Deep.QuietTactic
import Derived.BigQuiet
import Derived.Deep.DeepCutAuto
import Derived.Deep.CutBlock
import Derived.RangeFuncRecord
import Derived.Lib.Builder
section
/- Plain laws: numbers to the base 2^32, as lists of their digits. -/
namespace Go.Proofs.YtfcfejlffmddnaaGreatDoor
set_option linter.unusedSimpArgs false
set_option linter.unusedVariables false

/-- The value of a list of digits, the least one first. -/
def vl : List Int → Int
  | [] => 0
  | x :: l => x + 4294967296 * vl l
def dgs (l : List Int) : Prop := ∀ x ∈ l, 0 ≤ x ∧ x < 4294967296
def BB (k : Nat) : Int := 4294967296 ^ k
theorem BB_zero : BB 0 = 1 := rfl
theorem BB_succ (k : Nat) : BB (k + 1) = 4294967296 * BB k := by unfold BB; rw [Int.pow_succ, Int.mul_comm]
theorem BB_pos (k : Nat) : 0 < BB k := by
  induction k with
  | zero => rw [BB_zero]; decide
  | succ k ih => rw [BB_succ]; omega
theorem BB_add (j k : Nat) : BB (j + k) = BB j * BB k := by unfold BB; rw [Int.pow_add]
theorem BB_nat (k : Nat) : BB k = ((4294967296 ^ k : Nat) : Int) := by unfold BB; rw [Int.natCast_pow]; rfl
theorem BB_le {j k : Nat} (h : j ≤ k) : BB j ≤ BB k := by
  obtain ⟨i, rfl⟩ := Nat.exists_eq_add_of_le h
  induction i with
  | zero => exact Int.le_refl _
  | succ i ih =>
    have := ih (by omega)
    have h2 := BB_pos (j + i)
    rw [← Nat.add_assoc, BB_succ]; omega
theorem vl_nil : vl [] = 0 := rfl
theorem vl_cons (x : Int) (l : List Int) : vl (x :: l) = x + 4294967296 * vl l := rfl
theorem dgs_nil : dgs [] := by intro x hx; cases hx
theorem dgs_cons {x : Int} {l : List Int} : dgs (x :: l) ↔ (0 ≤ x ∧ x < 4294967296) ∧ dgs l := by
  unfold dgs; simp
theorem dgs_append {a b : List Int} : dgs (a ++ b) ↔ dgs a ∧ dgs b := by
  unfold dgs
  constructor
  · intro h; exact ⟨fun x hx => h x (List.mem_append_left _ hx), fun x hx => h x (List.mem_append_right _ hx)⟩
  · rintro ⟨h1, h2⟩ x hx
    rcases List.mem_append.1 hx with hx | hx
    · exact h1 x hx
    · exact h2 x hx
theorem dgs_snoc {a : List Int} {x : Int} (h : dgs a) (h0 : 0 ≤ x) (h1 : x < 4294967296) : dgs (a ++ [x]) :=
  dgs_append.2 ⟨h, dgs_cons.2 ⟨⟨h0, h1⟩, dgs_nil⟩⟩
theorem dgs_take {l : List Int} (h : dgs l) (k : Nat) : dgs (l.take k) := fun x hx => h x (List.mem_of_mem_take hx)
theorem dgs_drop {l : List Int} (h : dgs l) (k : Nat) : dgs (l.drop k) := fun x hx => h x (List.mem_of_mem_drop hx)
theorem dgs_at {l : List Int} (h : dgs l) {k : Nat} {x : Int} (hx : l[k]? = some x) : 0 ≤ x ∧ x < 4294967296 := h x (List.mem_of_getElem? hx)
theorem dgs_getD {l : List Int} (h : dgs l) (k : Nat) : 0 ≤ l.getD k 0 ∧ l.getD k 0 < 4294967296 := by
  rw [List.getD_eq_getElem?_getD]
  cases hx : l[k]? with
  | none => simp
  | some x => exact dgs_at h hx
theorem dgs_zeros (n : Nat) : dgs (List.replicate n 0) := by
  intro x hx; rw [(List.mem_replicate.1 hx).2]; omega
theorem dgs_set {l : List Int} (h : dgs l) (k : Nat) {x : Int} (h0 : 0 ≤ x) (h1 : x < 4294967296) : dgs (l.set k x) := by
  intro y hy
  rcases List.mem_or_eq_of_mem_set hy with hy | hy
  · exact h y hy
  · rw [hy]; exact ⟨h0, h1⟩
theorem vl_nonneg {l : List Int} (h : dgs l) : 0 ≤ vl l := by
  induction l with
  | nil => exact Int.le_refl _
  | cons x l ih =>
    obtain ⟨h1, h2⟩ := dgs_cons.1 h
    have := ih h2
    rw [vl_cons]; omega
theorem vl_lt {l : List Int} (h : dgs l) : vl l < BB l.length := by
  induction l with
  | nil => rw [vl_nil]; decide
  | cons x l ih =>
    obtain ⟨h1, h2⟩ := dgs_cons.1 h
    have := ih h2
    rw [vl_cons, List.length_cons, BB_succ]; omega
theorem vl_append (a b : List Int) : vl (a ++ b) = vl a + BB a.length * vl b := by
  induction a with
  | nil => rw [List.nil_append, List.length_nil, BB_zero, vl_nil]; omega
  | cons x a ih =>
    rw [List.cons_append, vl_cons, ih, List.length_cons, BB_succ, vl_cons, Int.mul_add, Int.mul_assoc]; omega
theorem vl_snoc (a : List Int) (x : Int) : vl (a ++ [x]) = vl a + BB a.length * x := by
  rw [vl_append, vl_cons, vl_nil]; simp
theorem vl_zeros (n : Nat) : vl (List.replicate n 0) = 0 := by
  induction n with
  | zero => rfl
  | succ n ih => rw [List.replicate_succ, vl_cons, ih]; rfl
theorem vl_take_drop (l : List Int) (k : Nat) : vl l = vl (l.take k) + BB k * vl (l.drop k) := by
  conv => lhs; rw [← List.take_append_drop k l, vl_append]
  rcases Nat.le_total k l.length with h | h
  · rw [List.length_take, Nat.min_eq_left h]
  · rw [List.drop_of_length_le h, vl_nil]; simp
theorem vl_take_succ (l : List Int) (k : Nat) : vl (l.take (k + 1)) = vl (l.take k) + BB k * l.getD k 0 := by
  rw [List.take_add_one, vl_append, List.getD_eq_getElem?_getD]
  cases hx : l[k]? with
  | none => simp [vl_nil]
  | some x =>
    have hk := (List.getElem?_eq_some_iff.1 hx).1
    rw [List.length_take, Nat.min_eq_left (by omega)]
    simp [vl_cons, vl_nil]
theorem vl_take_all (l : List Int) (k : Nat) (h : l.length ≤ k) : vl (l.take k) = vl l := by rw [List.take_of_length_le h]
theorem vl_drop_at (l : List Int) (k : Nat) (x : Int) (h : l[k]? = some x) : vl (l.drop k) = x + 4294967296 * vl (l.drop (k + 1)) := by
  rw [← vl_cons]; congr 1
  have hk := (List.getElem?_eq_some_iff.1 h)
  rw [List.drop_eq_getElem_cons hk.1, hk.2]
theorem vl_set (l : List Int) (k : Nat) (x y : Int) (h : l[k]? = some y) : vl (l.set k x) = vl l + BB k * (x - y) := by
  induction l generalizing k with
  | nil => simp at h
  | cons a l ih =>
    cases k with
    | zero =>
      simp at h; subst h
      rw [List.set_cons_zero, vl_cons, vl_cons, BB_zero]; omega
    | succ k =>
      rw [List.set_cons_succ, vl_cons, vl_cons, ih k (by simpa using h), BB_succ, Int.mul_add, Int.mul_assoc]; omega

/-! ### The digits of a number -/
def dg (n : Nat) : List Int := if h : n = 0 then [] else ((n % 4294967296 : Nat) : Int) :: dg (n / 4294967296)
termination_by n
decreasing_by omega
theorem dg_zero : dg 0 = [] := by rw [dg]; rfl
theorem dg_pos {n : Nat} (h : n ≠ 0) : dg n = ((n % 4294967296 : Nat) : Int) :: dg (n / 4294967296) := by rw [dg, dif_neg h]
theorem dg_ok (n : Nat) : vl (dg n) = n ∧ dgs (dg n) ∧ (dg n).getLast? ≠ some 0 := by
  induction n using Nat.strongRecOn with
  | ind n ih =>
    by_cases h : n = 0
    · subst h; rw [dg_zero]; exact ⟨rfl, dgs_nil, by simp⟩
    · obtain ⟨h1, h2, h3⟩ := ih (n / 4294967296) (by omega)
      rw [dg_pos h]
      refine ⟨by rw [vl_cons, h1]; omega, dgs_cons.2 ⟨by omega, h2⟩, ?_⟩
      by_cases h4 : n / 4294967296 = 0
      · rw [h4, dg_zero]
        simp only [List.getLast?_singleton, ne_eq, Option.some.injEq]
        omega
      · rw [dg_pos h4] at h3 ⊢
        rw [List.getLast?_cons_cons]; exact h3
theorem vl_dg (n : Nat) : vl (dg n) = n := (dg_ok n).1
theorem dgs_dg (n : Nat) : dgs (dg n) := (dg_ok n).2.1
theorem last_dg (n : Nat) : (dg n).getLast? ≠ some 0 := (dg_ok n).2.2
theorem dg_vl (l : List Int) (h : dgs l) (hl : l.getLast? ≠ some 0) : dg (vl l).toNat = l := by
  induction l with
  | nil => exact dg_zero
  | cons x l ih =>
    obtain ⟨h1, h2⟩ := dgs_cons.1 h
    have h3 := vl_nonneg h2
    have hl2 : l.getLast? ≠ some 0 := by
      cases l with
      | nil => simp
      | cons y l => rwa [List.getLast?_cons_cons] at hl
    have hne : (vl (x :: l)).toNat ≠ 0 := by
      rw [vl_cons]
      intro h0
      have hx : x = 0 ∧ vl l = 0 := by omega
      have := ih h2 hl2
      rw [hx.2] at this
      have hnil : l = [] := by rw [← this]; exact dg_zero
      subst hnil
      rw [hx.1] at hl
      simp at hl
    rw [dg_pos hne, vl_cons]
    have e1 : (x + 4294967296 * vl l).toNat % 4294967296 = x.toNat := by omega
    have e2 : (x + 4294967296 * vl l).toNat / 4294967296 = (vl l).toNat := by omega
    rw [e1, e2, ih h2 hl2, Int.toNat_of_nonneg h1.1]
theorem dg_of {l : List Int} {n : Nat} (h : dgs l) (hl : l.getLast? ≠ some 0) (hv : vl l = n) : l = dg n := by
  rw [← dg_vl l h hl, hv, Int.toNat_natCast]
theorem dg_inj {a b : Nat} (h : dg a = dg b) : a = b := by
  have h1 := vl_dg a
  have h2 := vl_dg b
  rw [h, h2] at h1
  omega
/-- What is left of a list behind its zeros at the end. -/
theorem trim_end (l : List Int) (h : dgs l) (m : Nat) (hm : m ≤ l.length) (hz : ∀ j x, m ≤ j → l[j]? = some x → x = 0) (he : ∀ x, 0 < m → l[m - 1]? = some x → x ≠ 0) (n : Nat) (hn : vl l = n) : l.take m = dg n := by
  refine dg_of (dgs_take h m) ?_ ?_
  · rw [List.getLast?_eq_getElem?, List.length_take, Nat.min_eq_left hm]
    intro h0
    rcases Nat.eq_zero_or_pos m with h1 | h1
    · subst h1; simp at h0
    · rw [List.getElem?_take, if_pos (by omega)] at h0
      exact he 0 h1 h0 rfl
  · have hd : vl (l.drop m) = 0 := by
      have : l.drop m = List.replicate (l.drop m).length 0 := by
        rw [List.eq_replicate_iff]
        refine ⟨rfl, fun x hx => ?_⟩
        obtain ⟨j, hj, rfl⟩ := List.getElem_of_mem hx
        rw [List.getElem_drop]
        exact hz (m + j) _ (by omega) (List.getElem?_eq_getElem _)
      rw [this, vl_zeros]
    have := vl_take_drop l m
    rw [hd, hn] at this
    omega
theorem dg_len_le (n k : Nat) : (dg n).length ≤ k ↔ (n : Int) < BB k := by
  constructor
  · intro h
    have := vl_lt (dgs_dg n)
    rw [vl_dg] at this
    exact Int.lt_of_lt_of_le this (BB_le h)
  · intro h
    induction k generalizing n with
    | zero =>
      rw [BB_zero] at h
      have : n = 0 := by omega
      subst this; rw [dg_zero]; exact Nat.le_refl _
    | succ k ih =>
      by_cases h0 : n = 0
      · subst h0; rw [dg_zero]; simp
      · rw [dg_pos h0, List.length_cons]
        rw [BB_succ] at h
        have := ih (n / 4294967296) (by omega)
        omega
theorem dg_len_lt (n k : Nat) : k < (dg n).length ↔ BB k ≤ (n : Int) := by
  have := dg_len_le n k
  omega
theorem vl_inj (a b : List Int) (ha : dgs a) (hb : dgs b) (hl : a.length = b.length) (h : vl a = vl b) : a = b := by
  induction a generalizing b with
  | nil => cases b with
    | nil => rfl
    | cons y b => simp at hl
  | cons x a ih =>
    cases b with
    | nil => simp at hl
    | cons y b =>
      obtain ⟨a1, a2⟩ := dgs_cons.1 ha
      obtain ⟨b1, b2⟩ := dgs_cons.1 hb
      rw [vl_cons, vl_cons] at h
      have : x = y := by omega
      subst this
      rw [ih b a2 b2 (by simpa using hl) (by omega)]
/-- The digits stand at the beginning of any list that has the value. -/
theorem take_dg (l : List Int) (n : Nat) (hd : dgs l) (hv : vl l = n) : (dg n).length ≤ l.length ∧ l.take (dg n).length = dg n := by
  have h1 : (dg n).length ≤ l.length := by
    rw [dg_len_le, ← hv]; exact vl_lt hd
  refine ⟨h1, vl_inj _ _ (dgs_take hd _) (dgs_dg n) (by rw [List.length_take, Nat.min_eq_left h1]) ?_⟩
  have h2 := vl_take_drop l (dg n).length
  have h3 := (dg_len_le n _).1 (Nat.le_refl _)
  have h4 := vl_nonneg (dgs_drop hd (dg n).length)
  have h5 := vl_nonneg (dgs_take hd (dg n).length)
  have h6 := BB_pos (dg n).length
  rw [vl_dg]
  rcases Int.lt_or_le 0 (vl (l.drop (dg n).length)) with h | h
  · have : BB (dg n).length * 1 ≤ BB (dg n).length * vl (l.drop (dg n).length) := Int.mul_le_mul_of_nonneg_left (by omega) (by omega)
    omega
  · have h0 : vl (l.drop (dg n).length) = 0 := by omega
    rw [h0] at h2; omega
theorem dg_nil_iff (n : Nat) : (dg n).length = 0 ↔ n = 0 := by
  constructor
  · intro h
    by_cases h0 : n = 0
    · exact h0
    · rw [dg_pos h0] at h; simp at h
  · rintro rfl; rw [dg_zero]; rfl
/-- A digit of a number. -/
theorem dg_getD (n k : Nat) : (dg n).getD k 0 = ((n / 4294967296 ^ k % 4294967296 : Nat) : Int) := by
  induction k generalizing n with
  | zero =>
    by_cases h : n = 0
    · subst h; rw [dg_zero]; rfl
    · rw [dg_pos h]; simp
  | succ k ih =>
    by_cases h : n = 0
    · subst h; rw [dg_zero]; simp
    · rw [dg_pos h, List.getD_cons_succ, ih, Nat.div_div_eq_div_mul, Nat.pow_succ, Nat.mul_comm (4294967296 ^ k)]
theorem vl_of_digits (l : List Int) (m : Nat) (h : ∀ k x, l[k]? = some x → x = ((m / 4294967296 ^ k % 4294967296 : Nat) : Int)) : vl l = ((m % 4294967296 ^ l.length : Nat) : Int) := by
  induction l generalizing m with
  | nil => simp [vl_nil, Nat.mod_one]
  | cons x l ih =>
    have hx := h 0 x rfl
    rw [Nat.pow_zero, Nat.div_one] at hx
    have ih := ih (m / 4294967296) (fun k y hy => by
      have := h (k + 1) y (by simpa using hy)
      rw [this, Nat.div_div_eq_div_mul, Nat.pow_succ, Nat.mul_comm (4294967296 ^ k)])
    rw [vl_cons, ih, hx, List.length_cons, Nat.pow_succ, Nat.mul_comm (4294967296 ^ l.length), Nat.mod_mul]
    omega
end Go.Proofs.YtfcfejlffmddnaaGreatDoor
end
section
/- Plain laws: sums, differences, comparisons, products, as loops over digits. -/
namespace Go.Proofs.YtfcfejlffmddnaaGreatDoor
set_option linter.unusedSimpArgs false
set_option linter.unusedVariables false

theorem split_mul (t s : Int) : t * (s % 4294967296) + (4294967296 * t) * (s / 4294967296) = t * s := by
  have h : s % 4294967296 + 4294967296 * (s / 4294967296) = s := Int.emod_add_mul_ediv s 4294967296
  conv => rhs; rw [← h, Int.mul_add]
  rw [Int.mul_comm 4294967296 t, Int.mul_assoc]
/-- The state of a list that is filled from its beginning. -/
def fill (res : List Int) (k : Nat) : List Int := res ++ List.replicate k 0
theorem fill_length (res : List Int) (k : Nat) : (fill res k).length = res.length + k := by simp [fill]
theorem fill_set (res : List Int) (k : Nat) (x : Int) : (fill res (k + 1)).set res.length x = fill (res ++ [x]) k := by
  unfold fill
  rw [List.replicate_succ, List.set_append_right _ _ (Nat.le_refl _), Nat.sub_self, List.set_cons_zero, List.append_assoc]; rfl
theorem fill_get (res : List Int) (k : Nat) : (fill res (k + 1))[res.length]? = some 0 := by
  unfold fill
  rw [List.getElem?_append_right (Nat.le_refl _), Nat.sub_self, List.replicate_succ]; rfl
theorem fill_zero (res : List Int) : fill res 0 = res := by simp [fill]
theorem fill_nil (k : Nat) : fill [] k = List.replicate k 0 := rfl

/-! ### Sums -/
structure AddInv (a b : List Int) (i : Nat) (res : List Int) (c : Int) : Prop where
  len : res.length = i
  ok : dgs res
  c0 : 0 ≤ c
  c1 : c ≤ 1
  eq : vl res + BB i * c = vl (a.take i) + vl (b.take i)
theorem AddInv.start (a b : List Int) : AddInv a b 0 [] 0 := ⟨rfl, dgs_nil, by omega, by omega, by simp [vl_nil]⟩
theorem AddInv.step {a b : List Int} {i : Nat} {res : List Int} {c : Int} (ha : dgs a) (hb : dgs b) (h : AddInv a b i res c) (s : Int) (hs : s = c + (a.getD i 0 + b.getD i 0)) : AddInv a b (i + 1) (res ++ [s % 4294967296]) (s / 4294967296) := by
  obtain ⟨a0, a1⟩ := dgs_getD ha i
  obtain ⟨b0, b1⟩ := dgs_getD hb i
  obtain ⟨h1, h2, h3, h4, h5⟩ := h
  refine ⟨by simp [h1], dgs_snoc h2 (by omega) (by omega), by omega, by omega, ?_⟩
  rw [vl_snoc, h1, BB_succ, vl_take_succ, vl_take_succ, Int.add_assoc, split_mul, hs, Int.mul_add, Int.mul_add]
  omega
theorem AddInv.fin {x y : Nat} {N : Nat} {res : List Int} {c : Int} (h : AddInv (dg x) (dg y) N res c) (h1 : (dg x).length < N) (h2 : (dg y).length < N) : vl res = ((x + y : Nat) : Int) := by
  obtain ⟨e1, e2, e3, e4, e5⟩ := h
  rw [vl_take_all _ _ (by omega), vl_take_all _ _ (by omega), vl_dg, vl_dg] at e5
  obtain ⟨M, rfl⟩ : ∃ M, N = M + 1 := ⟨N - 1, by omega⟩
  have hx := (dg_len_le x M).1 (by omega)
  have hy := (dg_len_le y M).1 (by omega)
  have hp := BB_pos M
  have hv := vl_nonneg e2
  have hc : c = 0 := by
    rcases Int.lt_or_le 0 c with h | h
    · have hc1 : c = 1 := by omega
      rw [hc1, BB_succ] at e5; omega
    · omega
  rw [hc] at e5; omega

/-! ### Differences -/
structure SubInv (a b : List Int) (i : Nat) (res : List Int) (c : Int) : Prop where
  len : res.length = i
  ok : dgs res
  c0 : 0 ≤ c
  c1 : c ≤ 1
  eq : vl res - BB i * c = vl (a.take i) - vl (b.take i)
theorem SubInv.start (a b : List Int) : SubInv a b 0 [] 0 := ⟨rfl, dgs_nil, by omega, by omega, by simp [vl_nil]⟩
theorem SubInv.step {a b : List Int} {i : Nat} {res : List Int} {c : Int} (ha : dgs a) (hb : dgs b) (h : SubInv a b i res c) (s : Int) (hs : s = a.getD i 0 - b.getD i 0 - c) : SubInv a b (i + 1) (res ++ [s % 4294967296]) (if s < 0 then 1 else 0) := by
  obtain ⟨a0, a1⟩ := dgs_getD ha i
  obtain ⟨b0, b1⟩ := dgs_getD hb i
  obtain ⟨h1, h2, h3, h4, h5⟩ := h
  have hd : (if s < 0 then (1 : Int) else 0) = -(s / 4294967296) := by split <;> omega
  refine ⟨by simp [h1], dgs_snoc h2 (by omega) (by omega), by split <;> omega, by split <;> omega, ?_⟩
  have hm := split_mul (BB i) s
  rw [vl_snoc, h1, BB_succ, vl_take_succ, vl_take_succ, hd, Int.mul_neg]
  have : BB i * s = BB i * a.getD i 0 - BB i * b.getD i 0 - BB i * c := by rw [hs, Int.mul_sub, Int.mul_sub]
  omega
theorem SubInv.fin {x y : Nat} {res : List Int} {c : Int} (hxy : y ≤ x) (h : SubInv (dg x) (dg y) (dg x).length res c) : vl res = ((x - y : Nat) : Int) := by
  obtain ⟨e1, e2, e3, e4, e5⟩ := h
  have hl : (dg y).length ≤ (dg x).length := by
    rw [dg_len_le]
    have := (dg_len_le x _).1 (Nat.le_refl _)
    omega
  rw [vl_take_all _ _ (Nat.le_refl _), vl_take_all _ _ hl, vl_dg, vl_dg] at e5
  have hv := vl_lt e2
  rw [e1] at hv
  have hc : c = 0 := by
    rcases Int.lt_or_le 0 c with h | h
    · have hc1 : c = 1 := by omega
      rw [hc1] at e5; omega
    · omega
  rw [hc] at e5; omega

/-! ### Comparisons -/
theorem cmp_len {x y : Nat} (h : (dg x).length < (dg y).length) : x < y := by
  rcases Nat.lt_or_ge x y with h1 | h1
  · exact h1
  · have := (dg_len_le x _).1 (Nat.le_refl _)
    have h2 := (dg_len_lt y (dg x).length).1 h
    omega
theorem vl_cmp (a b : List Int) (ha : dgs a) (hb : dgs b) (i : Nat) (x y : Int) (hx : a[i]? = some x) (hy : b[i]? = some y) (hd : a.drop (i + 1) = b.drop (i + 1)) (h : x < y) : vl a < vl b := by
  rw [vl_take_drop a i, vl_take_drop b i, vl_drop_at a i x hx, vl_drop_at b i y hy, hd]
  have h1 := vl_lt (dgs_take ha i)
  have h2 := vl_nonneg (dgs_take hb i)
  have hi := (List.getElem?_eq_some_iff.1 hx).1
  rw [List.length_take, Nat.min_eq_left (by omega)] at h1
  rw [Int.mul_add, Int.mul_add]
  have h3 : BB i * (x + 1) ≤ BB i * y := Int.mul_le_mul_of_nonneg_left (by omega) (Int.le_of_lt (BB_pos i))
  rw [Int.mul_add, Int.mul_one] at h3
  omega

/-! ### Products, pair by pair -/
/-- The inner loop: out, behind k digits of b times x, added from digit i on. -/
structure MulInv (b out0 : List Int) (x : Int) (i k : Nat) (out : List Int) (c : Int) : Prop where
  len : out.length = out0.length
  ok : dgs out
  c0 : 0 ≤ c
  c1 : c < 4294967296
  eq : vl out + BB (i + k) * c = vl out0 + BB i * (x * vl (b.take k))
  rest : ∀ j, i + k ≤ j → out[j]? = out0[j]?
theorem MulInv.start {b out0 : List Int} {x : Int} {i : Nat} (h : dgs out0) : MulInv b out0 x i 0 out0 0 := ⟨rfl, h, by omega, by omega, by simp [vl_nil], fun _ _ => rfl⟩
theorem mul_lt_BB {x y : Int} (h0 : 0 ≤ x) (h1 : x < 4294967296) (h2 : 0 ≤ y) (h3 : y < 4294967296) : 0 ≤ x * y ∧ x * y ≤ 18446744065119617025 := by
  refine ⟨Int.mul_nonneg h0 h2, ?_⟩
  have h4 : x * y ≤ 4294967295 * 4294967295 := Int.mul_le_mul (by omega) (by omega) h2 (by omega)
  omega
theorem MulInv.step {b out0 : List Int} {x : Int} {i k : Nat} {out : List Int} {c : Int} (hb : dgs b) (hx0 : 0 ≤ x) (hx1 : x < 4294967296) (h : MulInv b out0 x i k out c) (y z : Int) (hy : b[k]? = some y) (hz : out[i + k]? = some z) (s : Int) (hs : s = c + (x * y + z)) :
    MulInv b out0 x i (k + 1) (out.set (i + k) (s % 4294967296)) (s / 4294967296) := by
  obtain ⟨h1, h2, h3, h4, h5, h6⟩ := h
  obtain ⟨y0, y1⟩ := dgs_at hb hy
  obtain ⟨z0, z1⟩ := dgs_at h2 hz
  obtain ⟨m0, m1⟩ := mul_lt_BB hx0 hx1 y0 y1
  refine ⟨by rw [List.length_set, h1], dgs_set h2 _ (by omega) (by omega), by omega, by omega, ?_, fun j hj => ?_⟩
  · have hm := split_mul (BB (i + k)) s
    rw [vl_set out _ _ z hz, ← Nat.add_assoc, BB_succ, vl_take_succ, List.getD_eq_getElem?_getD, hy, Option.getD_some, Int.mul_sub, Int.mul_add x, Int.mul_add (BB i)]
    have e1 : BB (i + k) * s = BB (i + k) * c + (BB i * (x * (BB k * y)) + BB (i + k) * z) := by
      rw [hs, Int.mul_add, Int.mul_add]
      have : BB (i + k) * (x * y) = BB i * (x * (BB k * y)) := by
        rw [BB_add, Int.mul_assoc, Int.mul_left_comm (BB k)]
      rw [this]
    omega
  · rw [List.getElem?_set_ne (by omega)]; exact h6 j (by omega)
/-- The outer loop. -/
structure MulOut (a b : List Int) (i : Nat) (out : List Int) : Prop where
  len : out.length = a.length + b.length
  ok : dgs out
  eq : vl out = vl (a.take i) * vl b
  rest : ∀ j, i + b.length ≤ j → j < a.length + b.length → out[j]? = some 0
theorem MulOut.start (a b : List Int) : MulOut a b 0 (List.replicate (a.length + b.length) 0) := by
  refine ⟨by simp, dgs_zeros _, by rw [vl_zeros]; simp [vl_nil], fun j h1 h2 => ?_⟩
  rw [List.getElem?_replicate, if_pos h2]
theorem MulOut.step {a b out0 : List Int} {i : Nat} {x : Int} (hx : a[i]? = some x) (h0 : MulOut a b i out0) {out : List Int} {c : Int} (h : MulInv b out0 x i b.length out c) : MulOut a b (i + 1) (out.set (i + b.length) c) := by
  obtain ⟨g1, g2, g3, g4⟩ := h0
  obtain ⟨h1, h2, h3, h4, h5, h6⟩ := h
  have hi := (List.getElem?_eq_some_iff.1 hx).1
  have hz : out[i + b.length]? = some 0 := by rw [h6 _ (Nat.le_refl _)]; exact g4 _ (Nat.le_refl _) (by omega)
  refine ⟨by rw [List.length_set, h1, g1], dgs_set h2 _ h3 h4, ?_, fun j hj hj2 => ?_⟩
  · rw [vl_set out _ _ 0 hz, Int.sub_zero, h5, g3, vl_take_all b _ (Nat.le_refl _), vl_take_succ, List.getD_eq_getElem?_getD, hx, Option.getD_some, Int.add_mul, Int.mul_assoc]
  · rw [List.getElem?_set_ne (by omega), h6 j (by omega)]; exact g4 j (by omega) hj2
theorem MulOut.fin {x y : Nat} {out : List Int} (h : MulOut (dg x) (dg y) (dg x).length out) : vl out = ((x * y : Nat) : Int) := by
  rw [h.eq, vl_take_all _ _ (Nat.le_refl _), vl_dg, vl_dg, Int.natCast_mul]

/-! ### Shifts -/
theorem pow2_pos (s : Nat) : (0 : Int) < 2 ^ s := Int.pow_pos (by decide)
structure ShlInv (a : List Int) (q s i : Nat) (res : List Int) (c : Int) : Prop where
  len : res.length = q + i
  ok : dgs res
  c0 : 0 ≤ c
  c1 : c < 2 ^ s
  eq : vl res + BB (q + i) * c = BB q * (vl (a.take i) * 2 ^ s)
theorem ShlInv.start (a : List Int) (q s : Nat) : ShlInv a q s 0 (List.replicate q 0) 0 := ⟨by simp, dgs_zeros _, by omega, pow2_pos s, by rw [vl_zeros]; simp [vl_nil]⟩
theorem ShlInv.step {a : List Int} {q s i : Nat} {res : List Int} {c : Int} (ha : dgs a) (h : ShlInv a q s i res c) (x : Int) (hx : a[i]? = some x) (z : Int) (hz : z = c + x * 2 ^ s) : ShlInv a q s (i + 1) (res ++ [z % 4294967296]) (z / 4294967296) := by
  obtain ⟨h1, h2, h3, h4, h5⟩ := h
  obtain ⟨x0, x1⟩ := dgs_at ha hx
  have hp := pow2_pos s
  have hb : x * 2 ^ s ≤ 4294967295 * 2 ^ s := Int.mul_le_mul_of_nonneg_right (by omega) (by omega)
  have hn : 0 ≤ x * 2 ^ s := Int.mul_nonneg x0 (by omega)
  refine ⟨by simp [h1]; omega, dgs_snoc h2 (by omega) (by omega), by omega, by omega, ?_⟩
  have hm := split_mul (BB (q + i)) z
  rw [vl_snoc, h1, ← Nat.add_assoc, BB_succ, vl_take_succ, List.getD_eq_getElem?_getD, hx, Option.getD_some, Int.add_mul, Int.mul_add (BB q)]
  have e1 : BB (q + i) * z = BB (q + i) * c + BB q * (BB i * x * 2 ^ s) := by
    rw [hz, Int.mul_add, BB_add, Int.mul_assoc (BB q) (BB i) (x * 2 ^ s), ← Int.mul_assoc (BB i) x]
  omega
theorem ShlInv.fin {x q s : Nat} {res : List Int} {c : Int} (h : ShlInv (dg x) q s (dg x).length res c) : vl (res ++ [c]) = ((x * 2 ^ (32 * q + s) : Nat) : Int) := by
  obtain ⟨h1, h2, h3, h4, h5⟩ := h
  rw [vl_snoc, h1, h5, vl_take_all _ _ (Nat.le_refl _), vl_dg, BB_nat, Nat.pow_add, Nat.pow_mul]
  have : (2 ^ 32 : Nat) = 4294967296 := by decide
  rw [this, Int.natCast_mul, Int.natCast_mul, Int.natCast_pow 2 s, Int.mul_left_comm]; rfl
/-- The digits of a quotient by a power of 2. -/
theorem shr_digit (x q s i : Nat) (hs : s < 32) : (x / 2 ^ (32 * q + s)) / 4294967296 ^ i % 4294967296 = ((x / 4294967296 ^ (i + q) % 4294967296 + 4294967296 * (x / 4294967296 ^ (i + q + 1) % 4294967296)) / 2 ^ s) % 4294967296 := by
  have e32 : (4294967296 : Nat) = 2 ^ 32 := by decide
  have e1 : x / 4294967296 ^ (i + q) % 4294967296 + 4294967296 * (x / 4294967296 ^ (i + q + 1) % 4294967296) = (x / 4294967296 ^ (i + q)) % (4294967296 * 4294967296) := by
    rw [Nat.mod_mul, Nat.pow_succ, ← Nat.div_div_eq_div_mul]
  rw [e1]
  have e2 : x / 2 ^ (32 * q + s) / 4294967296 ^ i = x / 4294967296 ^ (i + q) / 2 ^ s := by
    rw [Nat.div_div_eq_div_mul, Nat.div_div_eq_div_mul, Nat.pow_add 2, Nat.pow_mul, ← e32, Nat.pow_add 4294967296, Nat.mul_comm (4294967296 ^ q * 2 ^ s), Nat.mul_assoc]
  rw [e2]
  generalize x / 4294967296 ^ (i + q) = m
  have e3 : (4294967296 * 4294967296 : Nat) = 2 ^ s * 2 ^ (64 - s) := by rw [← Nat.pow_add, show s + (64 - s) = 64 by omega]
  rw [e3, Nat.mod_mul_right_div_self, show 64 - s = 32 + (32 - s) by omega, Nat.pow_add, ← e32, Nat.mod_mul_right_mod]
end Go.Proofs.YtfcfejlffmddnaaGreatDoor
end
section
/- Plain laws: quotients, element by element and by blocks; powers; roots. -/
namespace Go.Proofs.YtfcfejlffmddnaaGreatDoor
set_option linter.unusedSimpArgs false
set_option linter.unusedVariables false

/-! ### One digit of a quotient -/
/-- What is known of numbers that are cut behind m digits: R and d, of which T and D are the beginnings. -/
theorem est_low {R d T D W t : Int} (hW : 0 < W) (hd : D * W ≤ d) (hR : R < (T + 1) * W) (ht : 0 ≤ t) (h : t * d ≤ R) : t * D ≤ T := by
  have h1 : t * (D * W) ≤ t * d := Int.mul_le_mul_of_nonneg_left hd ht
  have h2 : t * D * W < (T + 1) * W := by rw [Int.mul_assoc]; omega
  have := Int.lt_of_mul_lt_mul_right h2 (Int.le_of_lt hW)
  omega
theorem est_high {R d T D W q : Int} (hW : 0 < W) (hd : d < (D + 1) * W) (hR : T * W ≤ R) (hq : 1 ≤ q) (h : q * D ≤ T) (hD : q ≤ D) : (q - 1) * d ≤ R := by
  have h1 : (q - 1) * d ≤ (q - 1) * ((D + 1) * W) := Int.mul_le_mul_of_nonneg_left (by omega) (by omega)
  have h2 : (q - 1) * (D + 1) ≤ T := by
    have : (q - 1) * (D + 1) = q * D - D + q - 1 := by rw [Int.sub_mul, Int.mul_add]; omega
    omega
  have h3 : (q - 1) * (D + 1) * W ≤ T * W := Int.mul_le_mul_of_nonneg_right h2 (by omega)
  rw [Int.mul_assoc] at h3
  omega
theorem quo_unique {a d q r : Int} (hd : 0 < d) (h : a = q * d + r) (h0 : 0 ≤ r) (h1 : r < d) : q = a / d ∧ r = a % d := by
  have h2 : a / d = q := by
    rw [h, Int.add_comm, Int.add_mul_ediv_right _ _ (by omega), Int.ediv_eq_zero_of_lt h0 h1]; omega
  have h3 : a % d = r := by
    rw [h, Int.add_comm, Int.add_mul_emod_self_right, Int.emod_eq_of_lt h0 h1]
  exact ⟨h2.symm, h3.symm⟩
theorem nat_quo {a d q r : Nat} (hd : 0 < d) (h : a = q * d + r) (h1 : r < d) : q = a / d ∧ r = a % d := by
  constructor
  · rw [h, Nat.add_comm, Nat.add_mul_div_right _ _ hd, Nat.div_eq_of_lt h1]; omega
  · rw [h, Nat.add_comm, Nat.add_mul_mod_self_right, Nat.mod_eq_of_lt h1]

/-! ### Three halves by two -/
/-- The remainder is found by adding d, as often as it is below 0. -/
theorem thrice_start {a d h1 lo fi se top q r H : Nat} (hd : d = fi * H + se) (ha : a = top * H + lo) (hq : top = q * fi + r) : a + q * se = q * d + (r * H + lo) := by
  subst hd ha hq
  rw [Nat.add_mul, Nat.mul_add, Nat.mul_assoc]; omega

/-! ### Powers -/
theorem pow_step (a n k : Nat) : a ^ (n / 2 ^ k) = (a ^ (n / 2 ^ (k + 1))) * (a ^ (n / 2 ^ (k + 1))) * (if n / 2 ^ k % 2 = 1 then a else 1) := by
  have h : n / 2 ^ k = 2 * (n / 2 ^ (k + 1)) + n / 2 ^ k % 2 := by
    rw [Nat.pow_succ, ← Nat.div_div_eq_div_mul]; omega
  conv => lhs; rw [h]
  rw [Nat.pow_add, Nat.two_mul, Nat.pow_add]
  have : n / 2 ^ k % 2 = 0 ∨ n / 2 ^ k % 2 = 1 := by omega
  rcases this with h | h <;> rw [h] <;> simp

/-! ### Roots -/
/-- Between the means of powers: r^n + (n-1) x^n is at least n r x^(n-1). -/
theorem mean_pow (r x : Int) (hr : 0 ≤ r) (hx : 0 ≤ x) (n : Nat) : ((n + 1 : Nat) : Int) * (r * x ^ n) ≤ r ^ (n + 1) + n * x ^ (n + 1) := by
  induction n with
  | zero =>
    have : r ^ 1 = r := by rw [Int.pow_succ, Int.pow_zero, Int.one_mul]
    simp [this]
  | succ n ih =>
    have h1 : 0 ≤ (n + 1 : Nat) * (x ^ n * ((r - x) * (r - x))) := by
      refine Int.mul_nonneg (by omega) (Int.mul_nonneg (Int.pow_nonneg hx) ?_)
      rcases Int.le_total r x with h | h
      · have : (r - x) * (r - x) = (x - r) * (x - r) := by rw [← Int.neg_sub x r, Int.neg_mul_neg]
        rw [this]; exact Int.mul_nonneg (by omega) (by omega)
      · exact Int.mul_nonneg (by omega) (by omega)
    have h2 : r * (((n + 1 : Nat) : Int) * (r * x ^ n)) ≤ r * (r ^ (n + 1) + n * x ^ (n + 1)) := Int.mul_le_mul_of_nonneg_left ih hr
    have e1 : x ^ (n + 1 + 1) = x ^ n * x * x := by rw [Int.pow_succ, Int.pow_succ]
    have e2 : x ^ (n + 1) = x ^ n * x := Int.pow_succ _ _
    have e3 : r ^ (n + 1 + 1) = r ^ (n + 1) * r := Int.pow_succ _ _
    rw [e2] at h2
    rw [e1, e2, e3]
    generalize x ^ n = X at *
    generalize r ^ (n + 1) = Y at *
    have hc : ((n + 1 + 1 : Nat) : Int) = (n : Int) + 2 := by omega
    have hc1 : ((n + 1 : Nat) : Int) = (n : Int) + 1 := by omega
    rw [hc1] at h1 h2 ⊢
    rw [hc]
    generalize (n : Int) = N at *
    grind
end Go.Proofs.YtfcfejlffmddnaaGreatDoor
end
section
/- Words: lists of digits and numbers in memory. -/
namespace Go.Proofs.YtfcfejlffmddnaaGreatDoor
open Go.RowKit
set_option linter.unusedSimpArgs false
set_option linter.unusedVariables false

/-- The length of a slice: for a loop's measure. -/
def lenOf : Value → Nat | .slice _ m _ => m | _ => 0
abbrev FN (k : Nat) : Value := .func (.func k) #[] #[]
theorem ret_int {k : IntKind} {a b : Int} (h : a = b) : Ending.returned (.int k a) = .returned (.int k b) := by rw [h]
theorem ret_bool {a b : Bool} (h : a = b) : Ending.returned (.bool a) = .returned (.bool b) := by rw [h]

/-- The digits of a slice that is read. -/
def Rd (k : IntKind) (w : World) (A : Option Addr) (g : List Int) : Prop := g ≠ [] → ∃ b o, A = some ⟨b, o, none⟩ ∧ ∀ j x, g[j]? = some x → w.cell? ⟨b, o + j, none⟩ = some (.int k x)
theorem Rd.nil {k : IntKind} {w : World} {A : Option Addr} : Rd k w A [] := fun h => absurd rfl h
theorem Rd.below {k : IntKind} {w w' : World} {A : Option Addr} {g : List Int} (h : Rd k w A g) (hb : Below w.heap.size w w') : Rd k w' A g := fun hn => by
  obtain ⟨b, o, e, hc⟩ := h hn
  refine ⟨b, o, e, fun j x hx => ?_⟩
  have h1 := hc j x hx
  rw [hb.cell (p := ⟨b, o + j, none⟩) (World.block_lt_of_cell? w _ h1)]
  exact h1
theorem Rd.drewN {k : IntKind} {w : World} {A : Option Addr} {l : List Int} (h : Rd k w A l) (n : Nat) : Rd k (w.drewN n) A l := fun hn => by
  obtain ⟨b, o, e, hc⟩ := h hn
  exact ⟨b, o, e, fun j y hy => by rw [World.cell?_drewN]; exact hc j y hy⟩
theorem Rd.at {k : IntKind} {w : World} {b o : Nat} {l : List Int} (h : Rd k w (some ⟨b, o, none⟩) l) (j : Nat) (y : Int) (hy : l[j]? = some y) : w.cell? ⟨b, o + j, none⟩ = some (.int k y) := by
  obtain ⟨b', o', e, hc⟩ := h (by rintro rfl; simp at hy)
  injection e with e; injection e with e1 e2
  subst e1 e2
  exact hc j y hy
theorem Rd.take {k : IntKind} {w : World} {A : Option Addr} {l : List Int} (h : Rd k w A l) (m : Nat) : Rd k w A (l.take m) := fun hn => by
  obtain ⟨b, o, e, hc⟩ := h (by rintro rfl; simp at hn)
  refine ⟨b, o, e, fun j y hy => ?_⟩
  rw [List.getElem?_take] at hy
  split at hy
  · exact hc j y hy
  · cases hy
theorem Rd.drop {k : IntKind} {w : World} {b o : Nat} {l : List Int} (h : Rd k w (some ⟨b, o, none⟩) l) (m : Nat) : Rd k w (some ⟨b, o + m, none⟩) (l.drop m) := fun _ => by
  refine ⟨b, o + m, rfl, fun j y hy => ?_⟩
  rw [List.getElem?_drop] at hy
  rw [Nat.add_assoc]; exact h.at (m + j) y hy

/-- Cells that hold digits and may be written. -/
def Wr (w : World) (g o : Nat) (l : List Int) : Prop := ∀ j x, l[j]? = some x → w.cell? ⟨g, o + j, none⟩ = some (.int .u32 x) ∧ w.frozen? ⟨g, o + j, none⟩ = false
theorem Wr.rd {w : World} {g o : Nat} {l : List Int} (h : Wr w g o l) : Rd .u32 w (some ⟨g, o, none⟩) l := fun _ => ⟨g, o, rfl, fun j x hx => (h j x hx).1⟩
theorem Wr.set {w : World} {g o : Nat} {l : List Int} (h : Wr w g o l) (j : Nat) (x : Int) : Wr (w.setCell ⟨g, o + j, none⟩ (.int .u32 x)) g o (l.set j x) := by
  intro i y hy
  by_cases e : i = j
  · subst e
    have hi : i < l.length := by have := (List.getElem?_eq_some_iff.1 hy).1; simpa using this
    rw [List.getElem?_set_self hi] at hy
    injection hy with hy; subst hy
    obtain ⟨h1, h2⟩ := h i _ (List.getElem?_eq_getElem hi)
    exact ⟨World.cell?_setCell_same _ _ _ h1, by rw [World.frozen?_setCell]; exact h2⟩
  · rw [List.getElem?_set_ne (fun h => e h.symm)] at hy
    obtain ⟨h1, h2⟩ := h i y hy
    exact ⟨by rw [World.cell?_setCell_other _ _ _ _ (by intro h2; injection h2 with _ h3; omega)]; exact h1, by rw [World.frozen?_setCell]; exact h2⟩
theorem Wr.below {w w' : World} {g o B : Nat} {l : List Int} (h : Wr w g o l) (hb : Below B w w') (hg : g < B) : Wr w' g o l := by
  intro i y hy
  obtain ⟨h1, h2⟩ := h i y hy
  exact ⟨by rw [hb.cell (p := ⟨g, o + i, none⟩) hg]; exact h1, by rw [hb.frozen (p := ⟨g, o + i, none⟩) hg]; exact h2⟩
theorem Wr.drewN {w : World} {g o : Nat} {l : List Int} (h : Wr w g o l) (n : Nat) : Wr (w.drewN n) g o l := by
  intro i y hy
  obtain ⟨h1, h2⟩ := h i y hy
  exact ⟨by rw [World.cell?_drewN]; exact h1, by rw [World.frozen?_drewN]; exact h2⟩
theorem Wr.drop {w : World} {g o : Nat} {l : List Int} (h : Wr w g o l) (m : Nat) : Wr w g (o + m) (l.drop m) := by
  intro i y hy
  rw [List.getElem?_drop] at hy
  rw [Nat.add_assoc]; exact h _ _ hy
theorem Wr.take {w : World} {g o : Nat} {l : List Int} (h : Wr w g o l) (m : Nat) : Wr w g o (l.take m) := by
  intro i y hy
  rw [List.getElem?_take] at hy
  split at hy
  · exact h _ _ hy
  · cases hy
theorem Wr.lt {w : World} {g o : Nat} {l : List Int} (h : Wr w g o l) (h0 : l ≠ []) : g < w.heap.size := by
  cases l with
  | nil => exact absurd rfl h0
  | cons x l => exact World.block_lt_of_cell? w _ (h 0 x rfl).1
theorem below_drewN {B : Nat} {w W : World} (h : Below B w W) (n : Nat) : Below B w (W.drewN n) := ⟨h.os, h.tape, h.output, h.size, h.block⟩
/-- A row of zeros that has just been made. -/
theorem Wr.made (w : World) (n e : Nat) : Wr (w.alloc (.cells (madeCells #[.int .u32 0] n) e)) w.heap.size 0 (List.replicate n 0) := by
  have hh := World.alloc_heap_new w (.cells (madeCells #[.int .u32 0] n) e)
  intro i y hy
  rw [List.getElem?_replicate] at hy
  split at hy
  · rename_i hi
    injection hy with hy; subst hy
    refine ⟨?_, Lib.frozen_of_heap hh _⟩
    rw [Lib.cell_of_heap hh, Nat.zero_add]
    simp [madeCells, hi, Array.getElem?_range, Nat.mod_one]
  · cases hy

/-- A value that holds a number. -/
def Num (w : World) (v : Value) (n : Nat) : Prop := ∃ A c, v = .slice A (dg n).length c ∧ Rd .u32 w A (dg n) ∧ (dg n).length ≤ c ∧ c ≤ 9223372036854775807
theorem Num.of_rd {w : World} {A : Option Addr} {l : List Int} {n c : Nat} (hR : Rd .u32 w A l) (hd : dgs l) (hv : vl l = n) (hc : l.length ≤ c) (hcm : c ≤ 9223372036854775807) : Num w (.slice A (dg n).length c) n := by
  obtain ⟨h1, h2⟩ := take_dg l n hd hv
  exact ⟨A, c, rfl, by rw [← h2]; exact hR.take _, by omega, hcm⟩
theorem Num.below {w w' : World} {v : Value} {n : Nat} (h : Num w v n) (hb : Below w.heap.size w w') : Num w' v n := by
  obtain ⟨A, c, rfl, hr, h1, h2⟩ := h
  exact ⟨A, c, rfl, hr.below hb, h1, h2⟩
theorem Num.drewN {w : World} {v : Value} {n : Nat} (h : Num w v n) (k : Nat) : Num (w.drewN k) v n := by
  obtain ⟨A, c, rfl, hr, h1, h2⟩ := h
  exact ⟨A, c, rfl, hr.drewN k, h1, h2⟩

/-- Only digits of one row have turned. -/
structure Only (w w' : World) (g o n : Nat) : Prop where
  os : w'.os = w.os
  tape : w'.tape = w.tape
  output : w'.output = w.output
  size : w.heap.size ≤ w'.heap.size
  block : ∀ k, k < w.heap.size → k ≠ g → w'.heap[k]? = w.heap[k]?
  cell : ∀ j, (j < o ∨ o + n ≤ j) → w'.cell? ⟨g, j, none⟩ = w.cell? ⟨g, j, none⟩
  frozen : ∀ j, w'.frozen? ⟨g, j, none⟩ = w.frozen? ⟨g, j, none⟩
theorem Only.refl (w : World) (g o n : Nat) : Only w w g o n := ⟨rfl, rfl, rfl, Nat.le_refl _, fun _ _ _ => rfl, fun _ _ => rfl, fun _ => rfl⟩
theorem Only.set {w w' : World} {g o n : Nat} (h : Only w w' g o n) (j : Nat) (hj : j < n) (v : Value) : Only w (w'.setCell ⟨g, o + j, none⟩ v) g o n := by
  refine ⟨h.os, h.tape, h.output, by rw [World.size_setCell]; exact h.size, fun k hk hne => (Below.heap_setCell _ _ _ _ hne).trans (h.block k hk hne), fun i hi => ?_, fun i => by rw [World.frozen?_setCell]; exact h.frozen i⟩
  rw [World.cell?_setCell_other _ _ _ _ (by intro h2; injection h2 with _ h3; omega)]
  exact h.cell i hi
theorem Only.drewN {w w' : World} {g o n : Nat} (h : Only w w' g o n) (k : Nat) : Only w (w'.drewN k) g o n :=
  ⟨h.os, h.tape, h.output, h.size, h.block, fun j hj => by rw [World.cell?_drewN]; exact h.cell j hj, fun j => by rw [World.frozen?_drewN]; exact h.frozen j⟩
theorem Only.below {w w' : World} {g o n B : Nat} (h : Only w w' g o n) (hB : B ≤ g) (hB2 : B ≤ w.heap.size) : Below B w w' :=
  ⟨h.os, h.tape, h.output, h.size, fun k hk => h.block k (by omega) (by omega)⟩
theorem Only.trans {a b c : World} {g o n : Nat} (h : Only a b g o n) (k : Only b c g o n) : Only a c g o n :=
  ⟨k.os.trans h.os, k.tape.trans h.tape, k.output.trans h.output, Nat.le_trans h.size k.size, fun i hi hne => (k.block i (Nat.lt_of_lt_of_le hi h.size) hne).trans (h.block i hi hne), fun j hj => (k.cell j hj).trans (h.cell j hj), fun j => (k.frozen j).trans (h.frozen j)⟩

/-- What is read of another block stays. -/
theorem Only.rd {w w' : World} {g o n : Nat} (h : Only w w' g o n) {k : IntKind} {A : Option Addr} {l : List Int} (hR : Rd k w A l) (hg : ∀ a, A = some a → a.block ≠ g) : Rd k w' A l := fun hn => by
  obtain ⟨b, p, e, hc⟩ := hR hn
  refine ⟨b, p, e, fun j x hx => ?_⟩
  have h1 := hc j x hx
  have hb : b ≠ g := hg _ e
  have h2 := h.block b (World.block_lt_of_cell? w _ h1) hb
  rw [World.cell?_of_block (w := w) (a := ⟨b, p + j, none⟩) h2]; exact h1

/-! ### Bits -/
theorem u32_of (n : Int) : IntKind.u32.wrap n = n % 4294967296 := IntKind.wrap_u32' n
theorem or_join (a b : Int) (i : Nat) (ha : 0 ≤ a) (hb : 0 ≤ b) (h1 : a % 2 ^ i = 0) (h2 : b < 2 ^ i) : ((a.toNat ||| b.toNat : Nat) : Int) = a + b := by
  obtain ⟨A, rfl⟩ := Int.eq_ofNat_of_zero_le ha
  obtain ⟨B, rfl⟩ := Int.eq_ofNat_of_zero_le hb
  simp only [Int.toNat_natCast]
  have e : ((2 : Int) ^ i) = ((2 ^ i : Nat) : Int) := by rw [Int.natCast_pow]; rfl
  rw [e] at h1 h2
  rw [nat_join i A B (by exact_mod_cast h1) (by exact_mod_cast h2)]; omega
theorem sub_wrap (x y c : Int) (x0 : 0 ≤ x) (x1 : x < 4294967296) (y0 : 0 ≤ y) (y1 : y < 4294967296) (c0 : 0 ≤ c) (c1 : c ≤ 1) (r1 r2 : Int) (h1 : IntKind.u64.wrap (x - y) = r1) (h2 : IntKind.u64.wrap (r1 - c) = r2) :
    r2 % 4294967296 = (x - y - c) % 4294967296 ∧ r2 / 9223372036854775808 = if x - y - c < 0 then 1 else 0 := by
  have w1 : ∀ n, IntKind.u64.wrap n = n % 18446744073709551616 := fun n => by simp [IntKind.wrap, IntKind.bits, IntKind.signed]
  rw [w1] at h1 h2
  subst h1 h2
  refine ⟨by omega, ?_⟩
  split <;> omega
theorem pow2_32 {r : Nat} (h : r ≤ 32) : (2 : Int) ^ r ≤ 4294967296 := by
  have h1 : (2 : Nat) ^ r ≤ 2 ^ 32 := Nat.pow_le_pow_right (by decide) h
  have h2 : (2 : Int) ^ r = ((2 ^ r : Nat) : Int) := by rw [Int.natCast_pow]; rfl
  rw [h2]; have : (2 : Nat) ^ 32 = 4294967296 := by decide
  omega
theorem shl_or (cy x : Int) (r : Nat) (hr : r ≤ 32) (c0 : 0 ≤ cy) (c1 : cy < 2 ^ r) (x0 : 0 ≤ x) (x1 : x < 4294967296) : bits .or .u64 cy (IntKind.u64.wrap (x * 2 ^ r)) = cy + x * 2 ^ r := by
  have hp := pow2_32 hr
  have hp0 : (0 : Int) < 2 ^ r := Int.pow_pos (by decide)
  have hm : x * 2 ^ r ≤ 4294967295 * 4294967296 := Int.mul_le_mul (by omega) hp (by omega) (by omega)
  have hn : 0 ≤ x * 2 ^ r := Int.mul_nonneg x0 (by omega)
  rw [IntKind.wrap_u64, Int.emod_eq_of_lt hn (by omega), u64_or cy _ c0 (by omega) hn (by omega), Nat.or_comm]
  rw [or_join (x * 2 ^ r) cy r hn c0 (Int.mul_emod_left _ _) c1]; omega
end Go.Proofs.YtfcfejlffmddnaaGreatDoor
end
section
/- Contracts: trim, at, of. -/
namespace Go.Proofs.YtfcfejlffmddnaaGreatDoor
open Go.RowKit
set_option linter.unusedSimpArgs false
set_option linter.unusedVariables false

set_option maxHeartbeats 400000 in
theorem trim_calls (A : Option Addr) (c k : Nat) (l : List Int) (n : Nat) (w : World) (hk : l.length = k) (hc : k ≤ c) (hcm : c ≤ 9223372036854775807) (hd : dgs l) (hv : vl l = n) (hR : Rd .u32 w A l) :
    Calls Tryz.prog 119 #[.slice A k c] w fun e w' => e = .returned (.slice A (dg n).length c) ∧ w = w' := by
  subst hk
  have hfin : ∀ m, m ≤ l.length → (∀ j x, m ≤ j → l[j]? = some x → x = 0) → (∀ x, 0 < m → l[m - 1]? = some x → x ≠ 0) → m = (dg n).length := fun m h1 h2 h3 => by
    have := congrArg List.length (trim_end l hd m h1 h2 h3 n hv)
    rwa [List.length_take, Nat.min_eq_left h1] at this
  have HF := Lib.hid hfin
  clear hfin hd hv
  obtain ⟨len, hlen⟩ : ∃ len, l.length = len := ⟨_, rfl⟩
  rw [hlen] at hc ⊢
  have HL := Lib.hid hlen
  clear hlen
  go_enter Tryz.func119, Tryz.ntmps119
  go_wp2
  go_loop [0] (fun v => ∃ m : Nat, m ≤ len ∧ v = .slice A m c ∧ Hid (∀ j x, m ≤ j → l[j]? = some x → x = 0)) (fun v => lenOf v)
  case atStart => exact ⟨len, Nat.le_refl _, rfl, Lib.hid (fun j x hj hx => by
    have := (List.getElem?_eq_some_iff.1 hx).1
    rw [HL.out] at this; omega)⟩
  case round =>
    obtain ⟨m, hm, rfl, hz⟩ := hrel
    cases m with
    | zero =>
      have hfin := Lib.hid (HF.out 0 (Nat.zero_le _) hz.out (fun x h => absurd h (by omega)))
      go_wp2
      go_ret
      exact ⟨by rw [← hfin.out]; rfl, rfl⟩
    | succ m =>
      obtain ⟨x, hx⟩ : ∃ x, l[m]? = some x := ⟨_, List.getElem?_eq_getElem (by rw [HL.out]; omega)⟩
      obtain ⟨b, o, rfl, hcc⟩ := hR (by rintro rfl; simp at hx)
      have hcell := hcc m x hx
      clear hcc
      by_cases hx0 : x = 0
      · have Hx : Hid (l[m]? = some 0) := by rw [hx0] at hx; exact Lib.hid hx
        have hxb : (x == 0) = true := beq_iff_eq.2 hx0
        clear hx hx0
        go_wp2
        go_round
        case rel => exact ⟨m, by omega, rfl, Lib.hid (fun j y hj hy => by
          by_cases e : j = m
          · subst e; rw [Hx.out] at hy; injection hy with hy; exact hy.symm
          · exact hz.out j y (by omega) hy)⟩
        case measure => simp [lenOf]
      · have hfin := Lib.hid (HF.out (m + 1) (by rw [HL.out]; exact hm) hz.out (fun y _ hy => by
          rw [Nat.add_sub_cancel, hx] at hy; injection hy with hy; rw [← hy]; exact hx0))
        have hxb : (x == 0) = false := beq_eq_false_iff_ne.2 hx0
        clear hx hx0
        go_wp2
        go_ret
        exact ⟨by rw [← hfin.out]; rfl, rfl⟩

set_option maxHeartbeats 400000 in
theorem at_calls (A : Option Addr) (c k : Nat) (l : List Int) (i : Nat) (w : World) (hk : l.length = k) (hl : k ≤ 9223372036854775807) (hi : i ≤ 9223372036854775807) (hR : Rd .u32 w A l) (hd : dgs l) :
    Calls Tryz.prog 102 #[.slice A k c, .int .i64 i] w fun e w' => e = .returned (.int .u64 (l.getD i 0)) ∧ w = w' := by
  subst hk
  obtain ⟨d0, d1⟩ := dgs_getD hd i
  obtain ⟨r, hr⟩ : ∃ r, l.getD i 0 = r := ⟨_, rfl⟩
  rw [hr] at d0 d1 ⊢
  by_cases hlt : i < l.length
  · obtain ⟨x, hx⟩ : ∃ x, l[i]? = some x := ⟨_, List.getElem?_eq_getElem hlt⟩
    obtain ⟨b, o, rfl, hcc⟩ := hR (by rintro rfl; simp at hlt)
    have hcell := hcc i x hx
    obtain rfl : r = x := by rw [← hr, List.getD_eq_getElem?_getD, hx]; rfl
    clear hcc hx hr hR hd
    go_enter Tryz.func102, Tryz.ntmps102
    go_wp2
    go_ret
    exact ⟨rfl, rfl⟩
  · obtain rfl : r = 0 := by rw [← hr, List.getD_eq_getElem?_getD, List.getElem?_eq_none (by omega)]; rfl
    clear hr hR hd
    go_enter Tryz.func102, Tryz.ntmps102
    go_wp2
    go_ret
    exact ⟨rfl, rfl⟩
theorem at_num (A : Option Addr) (c k : Nat) (x i : Nat) (w : World) (xi : Int) (hk : Hid ((dg x).length = k)) (hl : k ≤ 9223372036854775807) (hi : i ≤ 9223372036854775807) (hR : Rd .u32 w A (dg x)) (h : Hid ((dg x).getD i 0 = xi)) :
    Calls Tryz.prog 102 #[.slice A k c, .int .i64 i] w fun e w' => e = .returned (.int .u64 xi) ∧ w = w' := by
  rw [← h.out]; exact at_calls A c k (dg x) i w hk.out hl hi hR (dgs_dg x)
theorem at_int (A : Option Addr) (c k : Nat) (x : Nat) (iv : Int) (w : World) (xi : Int) (hk : Hid ((dg x).length = k)) (hl : k ≤ 9223372036854775807) (h0 : 0 ≤ iv) (hi : iv ≤ 9223372036854775807) (hR : Rd .u32 w A (dg x)) (h : Hid ((dg x).getD iv.toNat 0 = xi)) :
    Calls Tryz.prog 102 #[.slice A k c, .int .i64 iv] w fun e w' => e = .returned (.int .u64 xi) ∧ w = w' := by
  obtain ⟨i, rfl⟩ := Int.eq_ofNat_of_zero_le h0
  exact at_num A c k x i w xi hk hl (by omega) hR (by rw [Int.toNat_natCast] at h; exact h)
end Go.Proofs.YtfcfejlffmddnaaGreatDoor
end
section
/- Contracts: of, add, sub. -/
namespace Go.Proofs.YtfcfejlffmddnaaGreatDoor
open Go.RowKit
set_option linter.unusedSimpArgs false
set_option linter.unusedVariables false

theorem u64_of_parts (x : Int) (h0 : 0 ≤ x) (h1 : x < 18446744073709551616) : dgs [x % 4294967296, x / 4294967296] ∧ vl [x % 4294967296, x / 4294967296] = (x.toNat : Int) := by
  refine ⟨dgs_cons.2 ⟨by omega, dgs_cons.2 ⟨by omega, dgs_nil⟩⟩, ?_⟩
  rw [vl_cons, vl_cons, vl_nil]; omega

set_option maxHeartbeats 400000 in
theorem of_calls (x : Int) (w : World) (h0 : 0 ≤ x) (h1 : x < 18446744073709551616) :
    Calls Tryz.prog 95 #[.int .u64 x] w fun e w' => ∃ v, e = .returned v ∧ Num w' v x.toNat ∧ Below w.heap.size w w' := by
  obtain ⟨k1, k2⟩ := u64_of_parts x h0 h1
  go_enter Tryz.func95, Tryz.ntmps95
  go_wp2_with fail
  refine (trim_calls _ 2 2 [x % 4294967296, x / 4294967296] x.toNat _ rfl (by omega) (by omega) k1 k2 ?_).mono ?_
  · intro _
    refine ⟨_, 0, rfl, fun j y hy => ?_⟩
    rw [Lib.cell_of_heap (World.alloc_heap_new w _)]
    match j, hy with
    | 0, hy => simp at hy; subst hy; rfl
    | 1, hy => simp at hy; subst hy; rfl
    | j + 2, hy => simp at hy
  · rintro e w' ⟨rfl, rfl⟩
    go_wp2_with fail
    go_ret
    refine ⟨_, rfl, Num.of_rd ?_ k1 k2 (by simp) (by omega), (Below.refl _ _).alloc (Nat.le_refl _) _⟩
    intro _
    refine ⟨_, 0, rfl, fun j y hy => ?_⟩
    rw [Lib.cell_of_heap (World.alloc_heap_new w _)]
    match j, hy with
    | 0, hy => simp at hy; subst hy; rfl
    | 1, hy => simp at hy; subst hy; rfl
    | j + 2, hy => simp at hy

theorem info57 : (Tryz.prog.info? 57).map (fun i => (i.zero, i.size, i.bytes)) = some (some (.int .u32 0), 1, 4) := by kernel_rfl
set_option maxRecDepth 10000 in
set_option maxHeartbeats 1000000 in
theorem add_calls (A1 A2 : Option Addr) (c1 c2 : Nat) (x y : Nat) (w : World) (hx : (dg x).length ≤ 1099511627776) (hy : (dg y).length ≤ 1099511627776) (h1 : Rd .u32 w A1 (dg x)) (h2 : Rd .u32 w A2 (dg y)) :
    Calls Tryz.prog 93 #[.slice A1 (dg x).length c1, .slice A2 (dg y).length c2] w fun e w' => ∃ v, e = .returned v ∧ Num w' v (x + y) ∧ Below w.heap.size w w' := by
  obtain ⟨k1, hk1⟩ : ∃ k, (dg x).length = k := ⟨_, rfl⟩
  obtain ⟨k2, hk2⟩ : ∃ k, (dg y).length = k := ⟨_, rfl⟩
  rw [hk1, hk2]
  rw [hk1] at hx
  rw [hk2] at hy
  have hmk := fun N (h : N ≤ 9223372036854775807) (h4 : 4 * N ≤ 281474976710656) => run_make_row' (P := Tryz.prog) 78 57 (.int .u32 0) 4 Tryz.underlying78 info57 rfl .i64 .i64 N h4 h
  have m1 := hmk (k1 + 1) (by omega) (by omega)
  have m2 := hmk (k2 + 1) (by omega) (by omega)
  rw [Int.natCast_add, Int.natCast_one] at m1 m2
  obtain ⟨N, hN⟩ : ∃ N : Nat, N = max k1 k2 + 1 := ⟨_, rfl⟩
  have hN1 : k1 < N := by omega
  have hN2 : k2 < N := by omega
  have hNb : N ≤ 1099511627777 := by omega
  have HN := Lib.hid hN
  have HK1 := Lib.hid hk1
  have HK2 := Lib.hid hk2
  have H1 := Lib.hid h1
  have H2 := Lib.hid h2
  clear hmk hN hk1 hk2 h1 h2
  go_enter Tryz.func93, Tryz.ntmps93
  go_upto_region 1 with fail
  go_cut [5] (fun v wc => v = .slice (some ⟨w.heap.size, 0, none⟩) N N ∧ Hid (Wr wc w.heap.size 0 (List.replicate N 0)) ∧ Hid (Below w.heap.size w wc))
  case first =>
    rcases Nat.lt_or_ge k1 k2 with h | h
    · have hz : (k1 : Int) < k2 := by omega
      have HN2 : Hid (N = k2 + 1) := Lib.hid (by rw [HN.out]; omega)
      go_wp2_with fail
      go_meet
      case rel => exact ⟨by rw [HN2.out], Lib.hid (by rw [HN2.out]; exact Wr.made _ _ _), Lib.hid ((Below.refl _ _).alloc (Nat.le_refl _) _)⟩
    · have hz : ¬ (k1 : Int) < k2 := by omega
      have HN2 : Hid (N = k1 + 1) := Lib.hid (by rw [HN.out]; omega)
      go_wp2_with fail
      go_meet
      case rel => exact ⟨by rw [HN2.out], Lib.hid (by rw [HN2.out]; exact Wr.made _ _ _), Lib.hid ((Below.refl _ _).alloc (Nat.le_refl _) _)⟩
  case rest =>
    obtain ⟨rfl, HW, HB⟩ := hcut
    clear m1 m2
    go_wp2_with fail
    go_loopw [6, 17] (fun v6 v17 wr => ∃ (i : Nat) (res : List Int) (cy : Int), i ≤ N ∧ v17 = .int .i64 i ∧ v6 = .int .u64 cy ∧ 0 ≤ cy ∧ cy ≤ 1 ∧ Hid (AddInv (dg x) (dg y) i res cy) ∧ Hid (Wr wr w.heap.size 0 (fill res (N - i))) ∧ Hid (Below w.heap.size w wr)) (fun v6 v17 wr => N - (intOf v17).toNat)
    case atStart => exact ⟨0, [], 0, Nat.zero_le _, rfl, rfl, by omega, by omega, Lib.hid (AddInv.start _ _), by rw [Nat.sub_zero]; exact HW, HB⟩
    case round =>
      obtain ⟨i, res, cy, hi, rfl, rfl, cy0, cy1, HA, HW2, HB2⟩ := hrel
      by_cases hlt : i < N
      · obtain ⟨xi, hxi⟩ : ∃ z, (dg x).getD i 0 = z := ⟨_, rfl⟩
        obtain ⟨yi, hyi⟩ : ∃ z, (dg y).getD i 0 = z := ⟨_, rfl⟩
        obtain ⟨x0, x1⟩ := dgs_getD (dgs_dg x) i
        obtain ⟨y0, y1⟩ := dgs_getD (dgs_dg y) i
        rw [hxi] at x0 x1
        rw [hyi] at y0 y1
        obtain ⟨M, hM⟩ : ∃ M, N - i = M + 1 := ⟨N - i - 1, by omega⟩
        have hcell := HW2.out i 0 (by rw [hM, ← HA.out.len]; exact fill_get res M)
        rw [Nat.zero_add] at hcell
        obtain ⟨hc1, hc2⟩ := hcell
        have hA := AddInv.step (dgs_dg x) (dgs_dg y) HA.out (cy + (xi + yi)) (by rw [hxi, hyi])
        have hw : ∀ v, Wr (Go.World.setCell wr ⟨w.heap.size, i, none⟩ (.int .u32 v)) w.heap.size 0 (fill (res ++ [v]) (N - (i + 1))) := fun v => by
          have := HW2.out.set i v
          rw [Nat.zero_add, hM, ← HA.out.len, fill_set] at this
          rwa [show N - (i + 1) = M by omega, ← HA.out.len]
        have hb : ∀ v, Below w.heap.size w (Go.World.setCell wr ⟨w.heap.size, i, none⟩ v) := fun v => HB2.out.setCell (p := ⟨w.heap.size, i, none⟩) (Nat.le_refl _) v
        have HAS := Lib.hid hA
        have HWS := Lib.hid hw
        have HBS := Lib.hid hb
        have HX := Lib.hid hxi
        have HY := Lib.hid hyi
        have r1 := H1.out.below HB2.out
        have r2 := H2.out.below HB2.out
        have R1 := Lib.hid r1
        have R2 := Lib.hid r2
        clear hM hA hw hb hxi hyi r1 r2
        go_wp2_with fail
        refine (at_num A1 c1 k1 x i _ xi HK1 (by omega) (by omega) R1.out HX).mono ?_
        rintro e w' ⟨rfl, rfl⟩
        go_wp2_with fail
        refine (at_num A2 c2 k2 y i _ yi HK2 (by omega) (by omega) R2.out HY).mono ?_
        rintro e w' ⟨rfl, rfl⟩
        go_wp2_with fail
        go_roundw
        case rel => exact ⟨i + 1, _, _, by omega, by go_num, rfl, by omega, by omega, HAS, Lib.hid (HWS.out _), Lib.hid (HBS.out _)⟩
        case measure => simp [intOf]; omega
      · obtain rfl : i = N := by omega
        have hv := HA.out.fin (by rw [HK1.out]; exact hN1) (by rw [HK2.out]; exact hN2)
        have hw : Wr wr w.heap.size 0 res := by have := HW2.out; rwa [Nat.sub_self, fill_zero] at this
        have HV := Lib.hid hv
        have HW3 := Lib.hid hw
        clear hv hw
        go_wp2_with fail
        refine (trim_calls _ i i res (x + y) wr HA.out.len (Nat.le_refl _) (by omega) HA.out.ok HV.out HW3.out.rd).mono ?_
        rintro e w' ⟨rfl, rfl⟩
        go_wp2_with fail
        go_ret
        exact ⟨_, rfl, Num.of_rd HW3.out.rd HA.out.ok HV.out (Nat.le_of_eq HA.out.len) (by omega), HB2.out⟩
end Go.Proofs.YtfcfejlffmddnaaGreatDoor
end
section
/- Contracts: sub. -/
namespace Go.Proofs.YtfcfejlffmddnaaGreatDoor
open Go.RowKit
set_option linter.unusedSimpArgs false
set_option linter.unusedVariables false

set_option maxRecDepth 10000 in
set_option maxHeartbeats 1000000 in
theorem sub_calls (A1 A2 : Option Addr) (c1 c2 : Nat) (x y : Nat) (w : World) (hx : (dg x).length ≤ 1099511627776) (hy : (dg y).length ≤ 1099511627776) (hxy : y ≤ x) (h1 : Rd .u32 w A1 (dg x)) (h2 : Rd .u32 w A2 (dg y)) :
    Calls Tryz.prog 83 #[.slice A1 (dg x).length c1, .slice A2 (dg y).length c2] w fun e w' => ∃ v, e = .returned v ∧ Num w' v (x - y) ∧ Below w.heap.size w w' := by
  obtain ⟨k1, hk1⟩ : ∃ k, (dg x).length = k := ⟨_, rfl⟩
  obtain ⟨k2, hk2⟩ : ∃ k, (dg y).length = k := ⟨_, rfl⟩
  rw [hk1, hk2]
  rw [hk1] at hx
  rw [hk2] at hy
  have hmk := fun N (h : N ≤ 9223372036854775807) (h4 : 4 * N ≤ 281474976710656) => run_make_row' (P := Tryz.prog) 78 57 (.int .u32 0) 4 Tryz.underlying78 info57 rfl .i64 .i64 N h4 h
  have m1 := hmk k1 (by omega) (by omega)
  have HK1 := Lib.hid hk1
  have HK2 := Lib.hid hk2
  have H1 := Lib.hid h1
  have H2 := Lib.hid h2
  have HXY := Lib.hid hxy
  clear hmk hk1 hk2 h1 h2 hxy
  go_enter Tryz.func83, Tryz.ntmps83
  go_upto_region 1 with fail
  go_cut [5] (fun v wc => v = .slice (some ⟨w.heap.size, 0, none⟩) k1 k1 ∧ Hid (Wr wc w.heap.size 0 (List.replicate k1 0)) ∧ Hid (Below w.heap.size w wc))
  case first =>
    go_wp2_with fail
    go_meet
    case rel => exact ⟨rfl, Lib.hid (Wr.made _ _ _), Lib.hid ((Below.refl _ _).alloc (Nat.le_refl _) _)⟩
  case rest =>
    obtain ⟨rfl, HW, HB⟩ := hcut
    clear m1
    go_wp2_with fail
    go_loopw [6, 14] (fun v6 v14 wr => ∃ (i : Nat) (res : List Int) (cy : Int), i ≤ k1 ∧ v14 = .int .i64 i ∧ v6 = .int .u64 cy ∧ 0 ≤ cy ∧ cy ≤ 1 ∧ Hid (SubInv (dg x) (dg y) i res cy) ∧ Hid (Wr wr w.heap.size 0 (fill res (k1 - i))) ∧ Hid (Below w.heap.size w wr)) (fun v6 v14 wr => k1 - (intOf v14).toNat)
    case atStart => exact ⟨0, [], 0, Nat.zero_le _, rfl, rfl, by omega, by omega, Lib.hid (SubInv.start _ _), by rw [Nat.sub_zero]; exact HW, HB⟩
    case round =>
      obtain ⟨i, res, cy, hi, rfl, rfl, cy0, cy1, HA, HW2, HB2⟩ := hrel
      by_cases hlt : i < k1
      · obtain ⟨xi, hxi⟩ : ∃ z, (dg x).getD i 0 = z := ⟨_, rfl⟩
        obtain ⟨yi, hyi⟩ : ∃ z, (dg y).getD i 0 = z := ⟨_, rfl⟩
        obtain ⟨x0, x1⟩ := dgs_getD (dgs_dg x) i
        obtain ⟨y0, y1⟩ := dgs_getD (dgs_dg y) i
        rw [hxi] at x0 x1
        rw [hyi] at y0 y1
        obtain ⟨M, hM⟩ : ∃ M, k1 - i = M + 1 := ⟨k1 - i - 1, by omega⟩
        have hcell := HW2.out i 0 (by rw [hM, ← HA.out.len]; exact fill_get res M)
        rw [Nat.zero_add] at hcell
        obtain ⟨hc1, hc2⟩ := hcell
        have hA := SubInv.step (dgs_dg x) (dgs_dg y) HA.out (xi - yi - cy) (by rw [hxi, hyi])
        obtain ⟨r1, hr1⟩ : ∃ r, IntKind.u64.wrap (xi - yi) = r := ⟨_, rfl⟩
        obtain ⟨r2, hr2⟩ : ∃ r, IntKind.u64.wrap (r1 - cy) = r := ⟨_, rfl⟩
        obtain ⟨e1, e2⟩ := sub_wrap xi yi cy x0 x1 y0 y1 cy0 cy1 r1 r2 hr1 hr2
        have E1 := Lib.hid e1
        have E2 := Lib.hid e2
        clear e1 e2
        have hw : ∀ v, Wr (Go.World.setCell wr ⟨w.heap.size, i, none⟩ (.int .u32 v)) w.heap.size 0 (fill (res ++ [v]) (k1 - (i + 1))) := fun v => by
          have := HW2.out.set i v
          rw [Nat.zero_add, hM, ← HA.out.len, fill_set] at this
          rwa [show k1 - (i + 1) = M by omega, ← HA.out.len]
        have hb : ∀ v, Below w.heap.size w (Go.World.setCell wr ⟨w.heap.size, i, none⟩ v) := fun v => HB2.out.setCell (p := ⟨w.heap.size, i, none⟩) (Nat.le_refl _) v
        have HAS := Lib.hid hA
        have HWS := Lib.hid hw
        have HBS := Lib.hid hb
        have HX := Lib.hid hxi
        have HY := Lib.hid hyi
        have q1 := H1.out.below HB2.out
        have q2 := H2.out.below HB2.out
        have R1 := Lib.hid q1
        have R2 := Lib.hid q2
        clear q1 q2
        clear hM hA hw hb hxi hyi
        go_wp2_with fail
        refine (at_num A1 c1 k1 x i _ xi HK1 (by omega) (by omega) R1.out HX).mono ?_
        rintro e w' ⟨rfl, rfl⟩
        go_wp2_with fail
        refine (at_num A2 c2 k2 y i _ yi HK2 (by omega) (by omega) R2.out HY).mono ?_
        rintro e w' ⟨rfl, rfl⟩
        go_wp2_with fail
        go_roundw
        case rel => exact ⟨i + 1, _, _, by omega, by go_num, rfl, by rw [E2.out]; split <;> omega, by rw [E2.out]; split <;> omega, by rw [E2.out]; exact HAS, by rw [E1.out]; exact Lib.hid (HWS.out _), Lib.hid (HBS.out _)⟩
        case measure => simp [intOf]; omega
      · obtain rfl : i = k1 := by omega
        have hv := SubInv.fin HXY.out (by rw [HK1.out]; exact HA.out)
        have hw : Wr wr w.heap.size 0 res := by have := HW2.out; rwa [Nat.sub_self, fill_zero] at this
        have HV := Lib.hid hv
        have HW3 := Lib.hid hw
        clear hv hw
        go_wp2_with fail
        refine (trim_calls _ i i res (x - y) wr HA.out.len (Nat.le_refl _) (by omega) HA.out.ok HV.out HW3.out.rd).mono ?_
        rintro e w' ⟨rfl, rfl⟩
        go_wp2_with fail
        go_ret
        exact ⟨_, rfl, Num.of_rd HW3.out.rd HA.out.ok HV.out (Nat.le_of_eq HA.out.len) (by omega), HB2.out⟩
end Go.Proofs.YtfcfejlffmddnaaGreatDoor
end
