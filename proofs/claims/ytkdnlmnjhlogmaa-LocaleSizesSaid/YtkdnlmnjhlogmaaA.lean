/- Contracts of the smallest functions of package locale, of its reference and of its laws: bytes, marks, failures. -/
import Derived.Test.YtkdnlmnjhlogmaaProg
import Derived.WalkKit
import Derived.WalkLawsBesides
import Derived.KernelRfl
import Derived.Lib.Hide
import Derived.Lib.ConvBytes
import Derived.Laws.EntriesVeiled
namespace Go.Proofs.Ytkdnlmnjhlogmaa
open Go.RowKit
set_option linter.unusedSimpArgs false
set_option linter.unusedVariables false

/-! ### Words -/
abbrev FN (k : Nat) : Value := .func (.func k) #[] #[]
def S (l : List UInt8) : ByteArray := ⟨l.toArray⟩
def L (s : ByteArray) : List UInt8 := s.data.toList
theorem S_L (s : ByteArray) : S (L s) = s := rfl
theorem L_S (l : List UInt8) : L (S l) = l := by simp [L, S]
theorem L_length (s : ByteArray) : (L s).length = s.size := Array.length_toList
theorem S_size (l : List UInt8) : (S l).size = l.length := rfl
theorem S_of {b : ByteArray} {l : List UInt8} (h : L b = l) : b = S l := by rw [← h]; rfl
theorem ret_str {b : ByteArray} {l : List UInt8} (h : L b = l) : Ending.returned (.string b) = .returned (.string (S l)) := by rw [S_of h]
theorem ret_int {k : IntKind} {a b : Int} (h : a = b) : Ending.returned (.int k a) = .returned (.int k b) := by rw [h]
theorem ret_bool {a b : Bool} (h : a = b) : Ending.returned (.bool a) = .returned (.bool b) := by rw [h]
theorem boolI {p : Prop} [Decidable p] {a : Bool} (h : a = true ↔ p) : Ending.returned (.bool a) = .returned (.bool (decide p)) := by
  congr 2; rw [Bool.eq_iff_iff, h]; simp
theorem L_get (s : ByteArray) (k : Nat) (h : k < s.size) : (L s)[k]? = some s[k] := by
  have h' : k < s.data.toList.length := by simpa using h
  show s.data.toList[k]? = _
  rw [List.getElem?_eq_getElem h']; rfl

def digB (c : Int) : Bool := decide (48 ≤ c ∧ c ≤ 57)
def letB (c : Int) : Bool := decide ((97 ≤ c ∧ c ≤ 122) ∨ (65 ≤ c ∧ c ≤ 90))
def sgnB (c : Int) : Bool := decide (c = 43 ∨ c = 45)
def ctlB (c : Int) : Bool := decide (c ≤ 32)
def grpB (n : Int) : Bool := decide (n < 1 ∨ 127 < n)
def dg (c : UInt8) : Bool := digB c.toNat
def badB (c : UInt8) : Bool := digB c.toNat || letB c.toNat || sgnB c.toNat || ctlB c.toNat
def markB (l : List UInt8) : Bool := !l.any badB && decide (1 ≤ l.length ∧ l.length ≤ 4)

/-! ### Bytes -/
theorem digit_calls (c : Int) (w : World) : Calls Try.prog 34 #[.int .u8 c] w fun e w' => e = .returned (.bool (digB c)) ∧ w = w' := by
  go_enter Try.func34, Try.ntmps34
  go_wp2
  all_goals
    go_ret
    refine ⟨boolI ?_, rfl⟩
    (try simp only [decide_eq_true_eq, Bool.false_eq_true, beq_iff_eq, true_iff, false_iff, iff_true, iff_false, Bool.or_eq_true, Bool.and_eq_true])
    first | done | omega
theorem letter_calls (c : Int) (w : World) : Calls Try.prog 68 #[.int .u8 c] w fun e w' => e = .returned (.bool (letB c)) ∧ w = w' := by
  go_enter Try.func68, Try.ntmps68
  go_wp2
  all_goals
    go_ret
    refine ⟨boolI ?_, rfl⟩
    (try simp only [decide_eq_true_eq, Bool.false_eq_true, beq_iff_eq, true_iff, false_iff, iff_true, iff_false, Bool.or_eq_true, Bool.and_eq_true])
    first | done | omega
theorem sign_calls (c : Int) (w : World) : Calls Try.prog 69 #[.int .u8 c] w fun e w' => e = .returned (.bool (sgnB c)) ∧ w = w' := by
  go_enter Try.func69, Try.ntmps69
  go_wp2
  all_goals
    go_ret
    refine ⟨boolI ?_, rfl⟩
    (try simp only [decide_eq_true_eq, Bool.false_eq_true, beq_iff_eq, true_iff, false_iff, iff_true, iff_false, Bool.or_eq_true, Bool.and_eq_true])
    first | done | omega
theorem ctl_calls (c : Int) (w : World) : Calls Try.prog 70 #[.int .u8 c] w fun e w' => e = .returned (.bool (ctlB c)) ∧ w = w' := by
  go_enter Try.func70, Try.ntmps70
  go_wp2
  all_goals
    go_ret
    refine ⟨boolI ?_, rfl⟩
    (try simp only [decide_eq_true_eq, Bool.false_eq_true, beq_iff_eq, true_iff, false_iff, iff_true, iff_false, Bool.or_eq_true, Bool.and_eq_true])
    first | done | omega
theorem size_calls (c : Int) (w : World) : Calls Try.prog 51 #[.int .i64 c] w fun e w' => e = .returned (.bool (grpB c)) ∧ w = w' := by
  go_enter Try.func51, Try.ntmps51
  go_wp2
  all_goals
    go_ret
    refine ⟨boolI ?_, rfl⟩
    (try simp only [decide_eq_true_eq, Bool.false_eq_true, beq_iff_eq, true_iff, false_iff, iff_true, iff_false, Bool.or_eq_true, Bool.and_eq_true])
    first | done | omega
theorem notdigit_calls (c : Int) (w : World) : Calls Try.prog 33 #[.int .u8 c] w fun e w' => e = .returned (.bool (!digB c)) ∧ w = w' := by
  go_enter Try.func33, Try.ntmps33
  go_wp2_with (go_at_call 34; refine (digit_calls _ _).mono ?_; rintro e w' ⟨rfl, rfl⟩)
  go_ret
  exact ⟨rfl, rfl⟩
theorem isDigit_calls (c : Int) (w : World) : Calls Try.prog 18 #[.int .u8 c] w fun e w' => e = .returned (.bool (digB c)) ∧ w = w' := by
  go_enter Try.func18, Try.ntmps18
  go_wp2
  all_goals
    go_ret
    refine ⟨boolI ?_, rfl⟩
    (try simp only [decide_eq_true_eq, Bool.false_eq_true, beq_iff_eq, true_iff, false_iff, iff_true, iff_false, Bool.or_eq_true, Bool.and_eq_true])
    first | done | omega
theorem IsDigit_calls (c : Int) (w : World) : Calls Try.prog 41 #[.int .u8 c] w fun e w' => e = .returned (.bool (digB c)) ∧ w = w' := by
  go_enter Try.func41, Try.ntmps41
  go_wp2
  all_goals
    go_ret
    refine ⟨boolI ?_, rfl⟩
    (try simp only [decide_eq_true_eq, Bool.false_eq_true, beq_iff_eq, true_iff, false_iff, iff_true, iff_false, Bool.or_eq_true, Bool.and_eq_true])
    first | done | omega

/-! ### Failures -/
/-- What the program panics with. -/
def fail (e : Int) : Value := .iface 71 (.agg #[.int .i64 e])
theorem ta1 (e : Int) (w : World) : (Instr.typeAssert (.iface 71 (.agg #[.int .i64 e])) 20 71 true).run Try.prog w = .ok (.tuple #[.agg #[.int .i64 e], .bool true]) w := by kernel_rfl
theorem np (v : Value) (w : World) : (Instr.panic (.iface 71 v)).run Try.prog w = .halt (.panic (.iface 71 v)) w := by kernel_rfl
theorem eqn (v : Value) (w : World) : (binOp .eql 20 (.iface 71 v) .nilIface).run Try.prog w = .ok (.bool false) w := by kernel_rfl
attribute [local go_sem] ta1 np eqn
theorem need_ok (e : Int) (w : World) : Calls Try.prog 31 #[.bool true, .int .i64 e] w fun r w' => r = .returned (.tuple #[]) ∧ w = w' := by
  go_enter Try.func31, Try.ntmps31
  go_wp2
  go_end0
  exact ⟨rfl, rfl⟩
theorem need_no (e : Int) (w : World) : Calls Try.prog 31 #[.bool false, .int .i64 e] w fun r w' => r = .panicked [{ v := fail e, recovered := false }] ∧ w = w' := by
  go_enter Try.func31, Try.ntmps31
  go_wp2
  exact ⟨rfl, rfl, rfl⟩
theorem caught_idle (p : Addr) (w : World) :
    CallsD Try.prog 29 #[.pointer (some p)] .returning w fun e u' w' => e = .returned (.tuple #[]) ∧ u' = .returning ∧ w = w' := by
  refine callsD_of_wpS Try.func29 rfl fun c₀ cs hu => ?_
  simp only [Try.ntmps29, List.size_toArray, List.length_cons, List.length_nil, Nat.reduceAdd, Nat.reduceSub, Array.replicate_succ, Array.replicate_zero, List.push_toArray, List.append_toArray, List.nil_append, List.cons_append]
  apply wpS_seq
  apply wpS_region
  simp [wpOpsS, go_sem, recoverD, hu, Exit.thenS]
  refine wpS_of_wp ?_
  go_wp2
  cases c₀
  simp_all [bodyPostS, results, Try.results29]
theorem caught_fail (b : Nat) (e x : Int) (w : World) (hE : w.heap[b]? = some (.cells #[.int .i64 x] 26 (0, 0))) :
    CallsD Try.prog 29 #[.pointer (some ⟨b, 0, none⟩)] (.panicking [{ v := fail e, recovered := false }]) w fun r u' w' =>
      r = .returned (.tuple #[]) ∧ u' = .panicking [{ v := fail e, recovered := true }] ∧ (w.setCell ⟨b, 0, none⟩ (.int .i64 e)).alloc (.cells #[.int .i64 e] 71) = w' := by
  have hb := lt_of_block hE
  have hc := cell_of_one hE
  have hz := free_of_one hE
  clear hE
  refine callsD_of_wpS Try.func29 rfl fun c₀ cs hu => ?_
  simp only [Try.ntmps29, List.size_toArray, List.length_cons, List.length_nil, Nat.reduceAdd, Nat.reduceSub, Array.replicate_succ, Array.replicate_zero, List.push_toArray, List.append_toArray, List.nil_append, List.cons_append]
  apply wpS_seq
  apply wpS_region
  simp [wpOpsS, go_sem, recoverD, hu, Exit.thenS, fail]
  refine wpS_of_wp ?_
  go_wp2
  simp [bodyPostS, results, Try.results29]
end Go.Proofs.Ytkdnlmnjhlogmaa
