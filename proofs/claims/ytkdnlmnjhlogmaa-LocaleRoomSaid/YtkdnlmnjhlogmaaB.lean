/- Contracts of the functions of package locale, of its reference and of its laws that look through strings and lists. -/
import Derived.Test.YtkdnlmnjhlogmaaA
namespace Go.Proofs.Ytkdnlmnjhlogmaa
open Go.RowKit
set_option linter.unusedSimpArgs false
set_option linter.unusedVariables false

/-- What is known of a function that is handed on: of a byte (an int) it says p. -/
def Says (k : IntKind) (f : Nat) (p : Int → Bool) : Prop := ∀ c w, Calls Try.prog f #[.int k c] w fun e w' => e = .returned (.bool (p c)) ∧ w = w'
theorem says_digit : Says .u8 34 digB := digit_calls
theorem says_letter : Says .u8 68 letB := letter_calls
theorem says_sign : Says .u8 69 sgnB := sign_calls
theorem says_ctl : Says .u8 70 ctlB := ctl_calls
theorem says_notdigit : Says .u8 33 (fun c => !digB c) := notdigit_calls
theorem says_size : Says .i64 51 grpB := size_calls

/-- The numbers of a slice that is read. -/
def Rd (k : IntKind) (w : World) (A : Option Addr) (g : List Int) : Prop := g ≠ [] → ∃ b o, A = some ⟨b, o, none⟩ ∧ ∀ j x, g[j]? = some x → w.cell? ⟨b, o + j, none⟩ = some (.int k x)

set_option maxHeartbeats 1000000 in
theorem index_bytes (f : Nat) (p : Int → Bool) (hf : Says .u8 f p) (hcf : ∀ args w, (callFunc f args).run Try.prog w = .ok (.enter f args) w) (A : Option Addr) (c : Nat) (l : List Int) (w : World) (hl : l.length ≤ maxLen) (hR : Rd .u8 w A l) :
    Calls Try.prog 53 #[.slice A l.length c, FN f] w fun e w' => ∃ i : Int, e = .returned (.int .i64 i) ∧ decide (0 ≤ i) = l.any p ∧ w = w' := by
  unfold maxLen at hl
  by_cases hn : l = []
  · subst hn
    go_enter Try.func53, Try.ntmps53
    go_wp2
    go_loop [8] (fun i => i = .int .i64 0) (fun _ => 0)
    case atStart => rfl
    case round =>
      subst hrel
      go_wp2
      go_ret
      exact ⟨_, rfl, by simp, rfl⟩
  · obtain ⟨b, o, rfl, hc⟩ := hR hn
    clear hR hn
    go_enter Try.func53, Try.ntmps53
    go_wp2
    go_loop [8] (fun i => ∃ k : Nat, k ≤ l.length ∧ i = .int .i64 k ∧ Hid (∀ j x, j < k → l[j]? = some x → p x = false)) (fun i => l.length - (intOf i).toNat)
    case atStart => exact ⟨0, Nat.zero_le _, rfl, fun j x hj => by omega⟩
    case round =>
      obtain ⟨k, hk, rfl, hd⟩ := hrel
      by_cases hlt : k < l.length
      · obtain ⟨x, hx⟩ : ∃ x, l[k]? = some x := ⟨l[k], List.getElem?_eq_getElem hlt⟩
        have hck := hc k x hx
        clear hc
        have Hx := Lib.hid hx
        clear hx
        cases hp : p x
        · go_wp2_with (refine (hf _ _).mono ?_; rintro e w' ⟨rfl, rfl⟩)
          go_round
          case rel =>
            refine ⟨k + 1, by omega, by go_num, fun j y hj hy => ?_⟩
            by_cases e : j = k
            · subst e; rw [Hx.out] at hy; injection hy with hy; subst hy; exact hp
            · exact hd.out j y (by omega) hy
          case measure => simp [intOf]; omega
        · go_wp2_with (refine (hf _ _).mono ?_; rintro e w' ⟨rfl, rfl⟩)
          go_ret
          refine ⟨_, rfl, ?_, rfl⟩
          rw [decide_eq_true (Int.natCast_nonneg k), eq_comm, List.any_eq_true]
          exact ⟨x, List.mem_of_getElem? Hx.out, hp⟩
      · go_wp2
        go_ret
        refine ⟨_, rfl, ?_, rfl⟩
        rw [decide_eq_false (by omega), eq_comm, List.any_eq_false]
        intro x hx
        obtain ⟨j, hj, rfl⟩ := List.getElem_of_mem hx
        have := hd.out j l[j] (by omega) (List.getElem?_eq_getElem hj)
        simp [this]
theorem contains_bytes (f : Nat) (p : Int → Bool) (hf : Says .u8 f p) (hcf : ∀ args w, (callFunc f args).run Try.prog w = .ok (.enter f args) w) (A : Option Addr) (c : Nat) (l : List Int) (w : World) (hl : l.length ≤ maxLen) (hR : Rd .u8 w A l) :
    Calls Try.prog 32 #[.slice A l.length c, FN f] w fun e w' => e = .returned (.bool (l.any p)) ∧ w = w' := by
  go_enter Try.func32, Try.ntmps32
  go_wp2_with (go_at_call 53; refine (index_bytes f p hf hcf A c l _ hl hR).mono ?_; rintro e w' ⟨i, rfl, hi, rfl⟩)
  go_ret
  exact ⟨rfl, rfl⟩
set_option maxHeartbeats 1000000 in
theorem index_ints (f : Nat) (p : Int → Bool) (hf : Says .i64 f p) (hcf : ∀ args w, (callFunc f args).run Try.prog w = .ok (.enter f args) w) (A : Option Addr) (c : Nat) (l : List Int) (w : World) (hl : l.length ≤ maxLen) (hR : Rd .i64 w A l) :
    Calls Try.prog 64 #[.slice A l.length c, FN f] w fun e w' => ∃ i : Int, e = .returned (.int .i64 i) ∧ decide (0 ≤ i) = l.any p ∧ w = w' := by
  unfold maxLen at hl
  by_cases hn : l = []
  · subst hn
    go_enter Try.func64, Try.ntmps64
    go_wp2
    go_loop [8] (fun i => i = .int .i64 0) (fun _ => 0)
    case atStart => rfl
    case round =>
      subst hrel
      go_wp2
      go_ret
      exact ⟨_, rfl, by simp, rfl⟩
  · obtain ⟨b, o, rfl, hc⟩ := hR hn
    clear hR hn
    go_enter Try.func64, Try.ntmps64
    go_wp2
    go_loop [8] (fun i => ∃ k : Nat, k ≤ l.length ∧ i = .int .i64 k ∧ Hid (∀ j x, j < k → l[j]? = some x → p x = false)) (fun i => l.length - (intOf i).toNat)
    case atStart => exact ⟨0, Nat.zero_le _, rfl, fun j x hj => by omega⟩
    case round =>
      obtain ⟨k, hk, rfl, hd⟩ := hrel
      by_cases hlt : k < l.length
      · obtain ⟨x, hx⟩ : ∃ x, l[k]? = some x := ⟨l[k], List.getElem?_eq_getElem hlt⟩
        have hck := hc k x hx
        clear hc
        have Hx := Lib.hid hx
        clear hx
        cases hp : p x
        · go_wp2_with (refine (hf _ _).mono ?_; rintro e w' ⟨rfl, rfl⟩)
          go_round
          case rel =>
            refine ⟨k + 1, by omega, by go_num, fun j y hj hy => ?_⟩
            by_cases e : j = k
            · subst e; rw [Hx.out] at hy; injection hy with hy; subst hy; exact hp
            · exact hd.out j y (by omega) hy
          case measure => simp [intOf]; omega
        · go_wp2_with (refine (hf _ _).mono ?_; rintro e w' ⟨rfl, rfl⟩)
          go_ret
          refine ⟨_, rfl, ?_, rfl⟩
          rw [decide_eq_true (Int.natCast_nonneg k), eq_comm, List.any_eq_true]
          exact ⟨x, List.mem_of_getElem? Hx.out, hp⟩
      · go_wp2
        go_ret
        refine ⟨_, rfl, ?_, rfl⟩
        rw [decide_eq_false (by omega), eq_comm, List.any_eq_false]
        intro x hx
        obtain ⟨j, hj, rfl⟩ := List.getElem_of_mem hx
        have := hd.out j l[j] (by omega) (List.getElem?_eq_getElem hj)
        simp [this]
theorem contains_ints (f : Nat) (p : Int → Bool) (hf : Says .i64 f p) (hcf : ∀ args w, (callFunc f args).run Try.prog w = .ok (.enter f args) w) (A : Option Addr) (c : Nat) (l : List Int) (w : World) (hl : l.length ≤ maxLen) (hR : Rd .i64 w A l) :
    Calls Try.prog 50 #[.slice A l.length c, FN f] w fun e w' => e = .returned (.bool (l.any p)) ∧ w = w' := by
  go_enter Try.func50, Try.ntmps50
  go_wp2_with (go_at_call 64; refine (index_ints f p hf hcf A c l _ hl hR).mono ?_; rintro e w' ⟨i, rfl, hi, rfl⟩)
  go_ret
  exact ⟨rfl, rfl⟩


end Go.Proofs.Ytkdnlmnjhlogmaa
