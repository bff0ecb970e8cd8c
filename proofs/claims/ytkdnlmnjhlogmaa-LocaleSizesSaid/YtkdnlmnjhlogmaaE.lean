/- Contracts: the reference's marks; the digits of a text; two lists held against each other. -/
import Derived.Test.YtkdnlmnjhlogmaaD
import Derived.Deep.QuietTactic
import Derived.BigQuiet
namespace Go.Proofs.Ytkdnlmnjhlogmaa
open Go.RowKit
set_option linter.unusedSimpArgs false
set_option linter.unusedVariables false

theorem badB_true {c : UInt8} (h : (48 ≤ (c.toNat : Int) ∧ (c.toNat : Int) ≤ 57) ∨ (97 ≤ (c.toNat : Int) ∧ (c.toNat : Int) ≤ 122) ∨ (65 ≤ (c.toNat : Int) ∧ (c.toNat : Int) ≤ 90) ∨ (c.toNat : Int) = 43 ∨ (c.toNat : Int) = 45 ∨ (c.toNat : Int) ≤ 32) : badB c = true := by
  simp only [badB, digB, letB, sgnB, ctlB, Bool.or_eq_true, decide_eq_true_eq]; omega
theorem badB_false {c : UInt8} (h1 : ¬(48 ≤ (c.toNat : Int) ∧ (c.toNat : Int) ≤ 57)) (h2 : ¬(97 ≤ (c.toNat : Int) ∧ (c.toNat : Int) ≤ 122)) (h3 : ¬(65 ≤ (c.toNat : Int) ∧ (c.toNat : Int) ≤ 90)) (h4 : (c.toNat : Int) ≠ 43) (h5 : (c.toNat : Int) ≠ 45) (h6 : ¬ (c.toNat : Int) ≤ 32) : badB c = false := by
  simp only [badB, digB, letB, sgnB, ctlB, Bool.or_eq_false_iff, decide_eq_false_iff_not]; omega

set_option maxHeartbeats 4000000 in
theorem isMark_calls (s : ByteArray) (w : World) (hs : s.size ≤ maxLen) : Calls Try.prog 65 #[.string s] w fun e w' => e = .returned (.bool (markB (L s))) ∧ w = w' := by
  unfold maxLen at hs
  go_enter Try.func65, Try.ntmps65
  go_wp2
  go_loop [3] (fun i => ∃ k : Nat, k ≤ s.size ∧ i = .int .i64 k ∧ Hid (∀ j x, j < k → (L s)[j]? = some x → badB x = false)) (fun i => s.size - (intOf i).toNat)
  case atStart => exact ⟨0, Nat.zero_le _, rfl, fun j x hj => by omega⟩
  case round =>
    obtain ⟨k, hk, rfl, hd⟩ := hrel
    by_cases hlt : k < s.size
    · obtain ⟨c, hc⟩ : ∃ c : UInt8, c = s[k] := ⟨_, rfl⟩
      have hx : (L s)[k]? = some c := by rw [L_get s k hlt, hc]
      have Hx := Lib.hid hx
      clear hx
      have hc' : (s[k].toNat : Int) = c.toNat := by rw [hc]
      have HC := Lib.hid hc
      clear hc
      cases hb : badB c
      · have Hb := Lib.hid hb
        clear hb
        have hn := Hb.out
        simp only [badB, digB, letB, sgnB, ctlB, Bool.or_eq_false_iff, decide_eq_false_iff_not] at hn
        have hdg : digB (c.toNat : Int) = false := by simp only [digB, decide_eq_false_iff_not]; omega
        go_wp2_with (go_at_call 41; refine (IsDigit_calls _ _).mono ?_; rintro e w' ⟨rfl, rfl⟩)
        all_goals first
          | (exfalso; simp only [beq_iff_eq, beq_eq_false_iff_ne, ne_eq] at *; omega)
          | (refine ⟨⟨k + 1, by omega, by go_num, fun j y hj hy => ?_⟩, by simp [intOf]; omega⟩
             by_cases e : j = k
             · subst e; rw [Hx.out] at hy; injection hy with hy; subst hy; exact Hb.out
             · exact hd.out j y (by omega) hy)
      · have Hb := Lib.hid hb
        clear hb
        have hn := Hb.out
        simp only [badB, digB, letB, sgnB, ctlB, Bool.or_eq_true, decide_eq_true_eq] at hn
        have hq : digB (c.toNat : Int) = true ∨ (digB (c.toNat : Int) = false ∧ ((97 ≤ (c.toNat : Int) ∧ (c.toNat : Int) ≤ 122) ∨ (65 ≤ (c.toNat : Int) ∧ (c.toNat : Int) ≤ 90) ∨ (c.toNat : Int) = 43 ∨ (c.toNat : Int) = 45 ∨ (c.toNat : Int) ≤ 32)) := by
          simp only [digB, decide_eq_true_eq, decide_eq_false_iff_not]; omega
        clear hn
        rcases hq with hdg | ⟨hdg, hn⟩
        all_goals go_wp2_with (go_at_call 41; refine (IsDigit_calls _ _).mono ?_; rintro e w' ⟨rfl, rfl⟩)
        all_goals first
          | (go_ret
             refine ⟨ret_bool ?_, rfl⟩
             have ha : (L s).any badB = true := List.any_eq_true.2 ⟨c, List.mem_of_getElem? Hx.out, Hb.out⟩
             rw [markB, ha]; rfl)
          | (exfalso; simp only [beq_iff_eq, beq_eq_false_iff_ne, ne_eq] at *; omega)
    · go_wp2
      all_goals
        go_ret
        refine ⟨ret_bool ?_, rfl⟩
        have ha : (L s).any badB = false := by
          rw [List.any_eq_false]
          intro x hx
          obtain ⟨j, hj, rfl⟩ := List.getElem_of_mem hx
          simp [hd.out j _ (by rw [L_length] at hj; omega) (List.getElem?_eq_getElem hj)]
        rw [markB, ha, L_length, Bool.eq_iff_iff]
        simp only [decide_eq_true_eq, Bool.false_eq_true, Bool.not_false, Bool.and_true, Bool.and_self, Bool.true_and, Bool.and_eq_true, true_and, false_iff, not_and]
        first | done | omega

theorem take_snoc_L (s : ByteArray) (k : Nat) (h : k < s.size) : (L s).take (k + 1) = (L s).take k ++ [s[k]] := by
  rw [List.take_add_one, L_get s k h]; rfl
theorem L_extract1 (s : ByteArray) (k : Nat) (h : k < s.size) : L (s.extract k (k + 1)) = [s[k]] := by
  rw [L_extract, take_snoc_L s k h, List.drop_append, List.drop_of_length_le (by simp; omega)]
  simp [L_length, Nat.le_of_lt h]
set_option maxHeartbeats 400000 in
theorem only_calls (s : ByteArray) (w : World) (hs : s.size ≤ maxLen) : Calls Try.prog 17 #[.string s] w fun e w' => e = .returned (.string (S ((L s).filter dg))) ∧ w = w' := by
  unfold maxLen at hs
  go_enter Try.func17, Try.ntmps17
  go_wp2
  go_loop [3, 4] (fun o i => ∃ k : Nat, ∃ b : ByteArray, k ≤ s.size ∧ i = .int .i64 k ∧ o = .string b ∧ b.size ≤ k ∧ Hid (L b = ((L s).take k).filter dg)) (fun _ i => s.size - (intOf i).toNat)
  case atStart => exact ⟨0, ⟨#[]⟩, Nat.zero_le _, rfl, rfl, Nat.le_refl _, rfl⟩
  case round =>
    obtain ⟨k, b, hk, rfl, rfl, hb, hd⟩ := hrel
    by_cases hlt : k < s.size
    · have hz : (k : Int) + 1 ≤ s.size := by omega
      have hz1 : (k : Int) ≤ k + 1 := by omega
      have hz2 : b.size + 1 ≤ 9223372036854775807 := by omega
      cases hp : digB s[k].toNat
      · have Hp := Lib.hid hp
        go_wp2_with (go_at_call 18; refine (isDigit_calls _ _).mono ?_; rintro e w' ⟨rfl, rfl⟩)
        go_round
        case rel =>
          refine ⟨k + 1, b, by omega, by go_num, rfl, by omega, ?_⟩
          show L b = _
          rw [take_snoc_L s k hlt, List.filter_append, hd.out]
          simp [dg, Hp.out]
        case measure => simp [intOf]; omega
      · have Hp := Lib.hid hp
        go_wp2_with (go_at_call 18; refine (isDigit_calls _ _).mono ?_; rintro e w' ⟨rfl, rfl⟩)
        go_round
        case rel =>
          refine ⟨k + 1, _, by omega, by go_num, rfl, ?_, ?_⟩
          · simp; omega
          · show L (b ++ s.extract k (k + 1)) = _
            rw [take_snoc_L s k hlt, List.filter_append, L_append, hd.out, L_extract1 s k hlt]
            simp [dg, Hp.out]
        case measure => simp [intOf]; omega
    · go_wp2
      go_ret
      refine ⟨ret_str ?_, rfl⟩
      rw [hd.out, List.take_of_length_le (by rw [L_length]; omega)]
end Go.Proofs.Ytkdnlmnjhlogmaa
