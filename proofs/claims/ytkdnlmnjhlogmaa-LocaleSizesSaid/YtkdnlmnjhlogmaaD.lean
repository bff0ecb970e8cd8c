/- Contracts: prefixes, digits, and the like. -/
import Derived.Test.YtkdnlmnjhlogmaaC
import Derived.Lib.Strings
namespace Go.Proofs.Ytkdnlmnjhlogmaa
open Go.RowKit
set_option linter.unusedSimpArgs false
set_option linter.unusedVariables false

def pre (t s : List UInt8) : Bool := t.isPrefixOf s
theorem toList_L (s : ByteArray) : s.toList = L s := Lib.toList_data s
theorem L_append (a b : ByteArray) : L (a ++ b) = L a ++ L b := by simp [L]
theorem L_extract (s : ByteArray) (a b : Nat) : L (s.extract a b) = ((L s).take b).drop a := by
  simp [L, ByteArray.data_extract, Array.toList_extract, List.extract_eq_take_drop, List.drop_take]
theorem pre_take (t s : List UInt8) (h : t.length ≤ s.length) : (s.take t.length == t) = pre t s := by
  unfold pre
  rw [Bool.eq_iff_iff, beq_iff_eq, List.isPrefixOf_iff_prefix, List.prefix_iff_eq_take]
  exact eq_comm
theorem pre_short (t s : List UInt8) (h : s.length < t.length) : pre t s = false := by
  unfold pre
  rw [Bool.eq_false_iff, ne_eq, List.isPrefixOf_iff_prefix]
  intro hp
  have := hp.length_le
  omega

theorem begins_law (s t : ByteArray) (w : World) (hs : s.size ≤ maxLen) (ht : t.size ≤ maxLen) : Calls Try.prog 19 #[.string s, .string t] w fun e w' => e = .returned (.bool (pre (L t) (L s))) ∧ w = w' := by
  unfold maxLen at hs ht
  by_cases h : t.size ≤ s.size
  · go_enter Try.func19, Try.ntmps19
    go_wp2
    go_ret
    exact ⟨ret_bool (by rw [toList_L, toList_L, L_extract, List.drop_zero, ← L_length t, pre_take _ _ (by rw [L_length, L_length]; exact h)]), rfl⟩
  · go_enter Try.func19, Try.ntmps19
    go_wp2
    go_ret
    exact ⟨ret_bool (by rw [pre_short _ _ (by rw [L_length, L_length]; omega)]), rfl⟩
theorem begins_ref (s t : ByteArray) (w : World) (hs : s.size ≤ maxLen) (ht : t.size ≤ maxLen) : Calls Try.prog 42 #[.string s, .string t] w fun e w' => e = .returned (.bool (pre (L t) (L s))) ∧ w = w' := by
  unfold maxLen at hs ht
  by_cases h : t.size ≤ s.size
  · go_enter Try.func42, Try.ntmps42
    go_wp2
    go_ret
    exact ⟨ret_bool (by rw [toList_L, toList_L, L_extract, List.drop_zero, ← L_length t, pre_take _ _ (by rw [L_length, L_length]; exact h)]), rfl⟩
  · go_enter Try.func42, Try.ntmps42
    go_wp2
    go_ret
    exact ⟨ret_bool (by rw [pre_short _ _ (by rw [L_length, L_length]; omega)]), rfl⟩
theorem hasPrefix_lite (s t : ByteArray) (w : World) (hs : s.size ≤ maxLen) (ht : t.size ≤ maxLen) : Calls Try.prog 63 #[.string s, .string t] w fun e w' => e = .returned (.bool (pre (L t) (L s))) ∧ w = w' := by
  unfold maxLen at hs ht
  by_cases h : t.size ≤ s.size
  · go_enter Try.func63, Try.ntmps63
    go_wp2
    go_ret
    exact ⟨ret_bool (by rw [toList_L, toList_L, L_extract, List.drop_zero, ← L_length t, pre_take _ _ (by rw [L_length, L_length]; exact h)]), rfl⟩
  · go_enter Try.func63, Try.ntmps63
    go_wp2
    go_ret
    exact ⟨ret_bool (by rw [pre_short _ _ (by rw [L_length, L_length]; omega)]), rfl⟩
theorem hasPrefix (s t : ByteArray) (w : World) (hs : s.size ≤ maxLen) (ht : t.size ≤ maxLen) : Calls Try.prog 49 #[.string s, .string t] w fun e w' => e = .returned (.bool (pre (L t) (L s))) ∧ w = w' := by
  go_enter Try.func49, Try.ntmps49
  go_wp2_with (go_at_call 63; refine (hasPrefix_lite _ _ _ hs ht).mono ?_; rintro e w' ⟨rfl, rfl⟩)
  go_ret
  exact ⟨rfl, rfl⟩

/-! ### Runs of digits -/
def lead (l : List UInt8) : Nat := (l.takeWhile dg).length
theorem lead_le (l : List UInt8) : lead l ≤ l.length := (List.takeWhile_prefix dg).length_le
theorem lead_at (l : List UInt8) (k : Nat) (h : ∀ j x, j < k → l[j]? = some x → dg x = true) (hk : k ≤ l.length) (he : ∀ x, l[k]? = some x → dg x = false) : lead l = k := by
  induction l generalizing k with
  | nil => simp at hk; subst hk; rfl
  | cons a l ih =>
    cases k with
    | zero =>
      have := he a rfl
      simp [lead, List.takeWhile_cons, this]
    | succ k =>
      have h0 := h 0 a (by omega) rfl
      have := ih k (fun j x hj hx => h (j + 1) x (by omega) (by simpa using hx)) (by simpa using hk) (fun x hx => he x (by simpa using hx))
      simp only [lead, List.takeWhile_cons, h0, if_true, List.length_cons]
      simp only [lead] at this
      omega
set_option maxHeartbeats 400000 in
theorem run_calls (s : ByteArray) (w : World) (hs : s.size ≤ maxLen) : Calls Try.prog 44 #[.string s] w fun e w' => e = .returned (.int .i64 (lead (L s))) ∧ w = w' := by
  unfold maxLen at hs
  go_enter Try.func44, Try.ntmps44
  go_wp2
  go_loop [3] (fun i => ∃ k : Nat, k ≤ s.size ∧ i = .int .i64 k ∧ Hid (∀ j x, j < k → (L s)[j]? = some x → dg x = true)) (fun i => s.size - (intOf i).toNat)
  case atStart => exact ⟨0, Nat.zero_le _, rfl, fun j x hj => by omega⟩
  case round =>
    obtain ⟨k, hk, rfl, hd⟩ := hrel
    by_cases hlt : k < s.size
    · cases hp : digB s[k].toNat
      · have Hp := Lib.hid hp
        go_wp2_with (go_at_call 34; refine (digit_calls _ _).mono ?_; rintro e w' ⟨rfl, rfl⟩)
        go_ret
        refine ⟨ret_int ?_, rfl⟩
        rw [lead_at (L s) k hd.out (by rw [L_length]; exact hk) (fun x hx => by rw [L_get s k hlt] at hx; injection hx with hx; subst hx; exact Hp.out)]
      · have Hp := Lib.hid hp
        go_wp2_with (go_at_call 34; refine (digit_calls _ _).mono ?_; rintro e w' ⟨rfl, rfl⟩)
        go_round
        case rel =>
          refine ⟨k + 1, by omega, by go_num, fun j y hj hy => ?_⟩
          by_cases e : j = k
          · subst e; rw [L_get s j hlt] at hy; injection hy with hy; subst hy; exact Hp.out
          · exact hd.out j y (by omega) hy
        case measure => simp [intOf]; omega
    · go_wp2
      go_ret
      refine ⟨ret_int ?_, rfl⟩
      rw [lead_at (L s) k hd.out (by rw [L_length]; exact hk) (fun x hx => absurd (List.getElem?_eq_some_iff.1 hx).1 (by rw [L_length]; omega))]
set_option maxHeartbeats 400000 in
theorem allDigits_calls (s : ByteArray) (w : World) (hs : s.size ≤ maxLen) : Calls Try.prog 37 #[.string s] w fun e w' => e = .returned (.bool ((L s).all dg)) ∧ w = w' := by
  unfold maxLen at hs
  go_enter Try.func37, Try.ntmps37
  go_wp2
  go_loop [3] (fun i => ∃ k : Nat, k ≤ s.size ∧ i = .int .i64 k ∧ Hid (∀ j x, j < k → (L s)[j]? = some x → dg x = true)) (fun i => s.size - (intOf i).toNat)
  case atStart => exact ⟨0, Nat.zero_le _, rfl, fun j x hj => by omega⟩
  case round =>
    obtain ⟨k, hk, rfl, hd⟩ := hrel
    by_cases hlt : k < s.size
    · cases hp : digB s[k].toNat
      · have Hp := Lib.hid hp
        go_wp2_with (go_at_call 41; refine (IsDigit_calls _ _).mono ?_; rintro e w' ⟨rfl, rfl⟩)
        go_ret
        refine ⟨ret_bool ?_, rfl⟩
        rw [eq_comm, List.all_eq_false]
        exact ⟨s[k], List.mem_of_getElem? (L_get s k hlt), by simp [dg, Hp.out]⟩
      · have Hp := Lib.hid hp
        go_wp2_with (go_at_call 41; refine (IsDigit_calls _ _).mono ?_; rintro e w' ⟨rfl, rfl⟩)
        go_round
        case rel =>
          refine ⟨k + 1, by omega, by go_num, fun j y hj hy => ?_⟩
          by_cases e : j = k
          · subst e; rw [L_get s j hlt] at hy; injection hy with hy; subst hy; exact Hp.out
          · exact hd.out j y (by omega) hy
        case measure => simp [intOf]; omega
    · go_wp2
      go_ret
      refine ⟨ret_bool ?_, rfl⟩
      rw [eq_comm, List.all_eq_true]
      intro x hx
      obtain ⟨j, hj, rfl⟩ := List.getElem_of_mem hx
      exact hd.out j _ (by rw [L_length] at hj; omega) (List.getElem?_eq_getElem hj)
end Go.Proofs.Ytkdnlmnjhlogmaa
