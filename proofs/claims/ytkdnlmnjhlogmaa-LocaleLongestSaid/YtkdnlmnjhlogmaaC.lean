/- Contracts: marks, prefixes, digits, and the like. -/
import Derived.Test.YtkdnlmnjhlogmaaB
namespace Go.Proofs.Ytkdnlmnjhlogmaa
open Go.RowKit
set_option linter.unusedSimpArgs false
set_option linter.unusedVariables false

def ints (l : List UInt8) : List Int := l.map fun c => (c.toNat : Int)
theorem ints_length (l : List UInt8) : (ints l).length = l.length := by simp [ints]
theorem ints_any (l : List UInt8) (p : Int → Bool) : (ints l).any p = l.any (fun c => p c.toNat) := by simp [ints, List.any_map, Function.comp_def]
theorem contains_bytes_at (f : Nat) (p : Int → Bool) (hf : Says .u8 f p) (hcf : ∀ args w, (callFunc f args).run Try.prog w = .ok (.enter f args) w) (A : Option Addr) (c n : Nat) (l : List Int) (w : World) (hn : l.length = n) (hl : n ≤ maxLen) (hR : Rd .u8 w A l) :
    Calls Try.prog 32 #[.slice A n c, FN f] w fun e w' => e = .returned (.bool (l.any p)) ∧ w = w' := by
  subst hn; exact contains_bytes f p hf hcf A c l w hl hR
theorem cf (f : Nat) (fn : Func) (h : Try.prog.funcs[f]? = some fn) (hb : (callFunc f #[]).run Try.prog default = .ok (.enter f #[]) default) : True := trivial

theorem conv_s (s : ByteArray) (w : World) : (convert 9 53 (.string s)).run Try.prog w = .ok (.slice (some ⟨w.heap.size, 0, none⟩) s.size (grownCap w s.size 0 5)) (Lib.bytesWorld w 5 s) :=
  Lib.run_convert_string_bytes w 9 53 5 s Try.underlying9 Try.underlying53 Try.underlying5
theorem rd_bytes (w : World) (s : ByteArray) : Rd .u8 (Lib.bytesWorld w 5 s) (some ⟨w.heap.size, 0, none⟩) (ints (L s)) := by
  intro hne
  refine ⟨_, 0, rfl, fun j x hx => ?_⟩
  have hj : j < s.size := by
    have := (List.getElem?_eq_some_iff.1 hx).1
    rw [ints_length, L_length] at this; exact this
  rw [Nat.zero_add, Lib.bytesWorld_cell w 5 s j hj]
  simp only [ints, List.getElem?_map, Option.map_eq_some_iff] at hx
  obtain ⟨c, hc, rfl⟩ := hx
  rw [List.getD_eq_getElem?_getD]
  show some (Value.int IntKind.u8 (((L s)[j]?.getD 0).toNat : Int)) = _
  rw [hc]; rfl
theorem below_bytes {B : Nat} {w0 w : World} (h : Below B w0 w) (hB : B ≤ w.heap.size) (e : TypeId) (s : ByteArray) : Below B w0 (Lib.bytesWorld w e s) :=
  h.trans ⟨rfl, rfl, rfl, by rw [Lib.bytesWorld_size]; omega, fun k hk => Lib.bytesWorld_at_old w e s k (by omega)⟩

theorem refused_calls (w : World) : Calls Try.prog 62 #[] w fun e w' => e = .returned (.agg #[FN 34, FN 68, FN 69, FN 70]) ∧ w.alloc (.cells #[FN 34, FN 68, FN 69, FN 70] 83) = w' := by
  go_enter Try.func62, Try.ntmps62
  go_wp2
  exact bodyPost_ret (v := .agg #[FN 34, FN 68, FN 69, FN 70]) (by simp [results, Try.results62, go_sem]) rfl ⟨rfl, rfl⟩
theorem ix0 (a b c d : Value) (w : World) : (Instr.index 83 (.agg #[a, b, c, d]) (.int .i64 0)).run Try.prog w = .ok a w := by kernel_rfl
theorem ix1 (a b c d : Value) (w : World) : (Instr.index 83 (.agg #[a, b, c, d]) (.int .i64 1)).run Try.prog w = .ok b w := by kernel_rfl
theorem ix2 (a b c d : Value) (w : World) : (Instr.index 83 (.agg #[a, b, c, d]) (.int .i64 2)).run Try.prog w = .ok c w := by kernel_rfl
theorem ix3 (a b c d : Value) (w : World) : (Instr.index 83 (.agg #[a, b, c, d]) (.int .i64 3)).run Try.prog w = .ok d w := by kernel_rfl
attribute [local go_sem] ix0 ix1 ix2 ix3

/-- The four tests of a mark's bytes, in their order. -/
def badAt (l : List UInt8) : Nat → Bool
  | 0 => (ints l).any digB
  | 1 => (ints l).any letB
  | 2 => (ints l).any sgnB
  | _ => (ints l).any ctlB
theorem markB_eq (l : List UInt8) : markB l = ((!badAt l 0 && !badAt l 1 && !badAt l 2 && !badAt l 3) && decide (1 ≤ l.length ∧ l.length ≤ 4)) := by
  have h : l.any badB = (badAt l 0 || badAt l 1 || badAt l 2 || badAt l 3) := by
    simp only [badAt, ints_any]
    induction l with
    | nil => rfl
    | cons a l ih =>
      simp only [List.any_cons, ih, badB]
      cases digB a.toNat <;> cases letB a.toNat <;> cases sgnB a.toNat <;> cases ctlB a.toNat <;> simp
  simp only [markB, h, Bool.not_or]

set_option maxHeartbeats 2000000 in
theorem mark_calls (s : ByteArray) (w : World) (hs : s.size ≤ maxLen) : Calls Try.prog 48 #[.string s] w fun e w' => e = .returned (.bool (markB (L s))) ∧ Below w.heap.size w w' := by
  have hl : (ints (L s)).length = s.size := by rw [ints_length, L_length]
  have Hl := Lib.hid hl
  clear hl
  have Hs := Lib.hid hs
  unfold maxLen at hs
  have cv := conv_s s
  go_enter Try.func48, Try.ntmps48
  go_wp2_with (go_at_call 62; refine (refused_calls _).mono ?_; rintro e w' ⟨rfl, rfl⟩)
  go_loopw [4, 6] (fun f i wr => ∃ k : Nat, k ≤ 4 ∧ i = .int .i64 k ∧ Hid (∀ j, j < k → badAt (L s) j = false) ∧ Below w.heap.size w wr) (fun f i wr => 4 - (intOf i).toNat)
  case atStart => exact ⟨0, by omega, rfl, fun j hj => by omega, (Below.refl _ _).alloc (Nat.le_refl _) _⟩
  case round =>
    obtain ⟨k, hk, rfl, hd, hb⟩ := hrel
    have hbs := hb.size
    match k, hk with
    | 0, _ =>
      cases hp : badAt (L s) 0
      · have Hp := Lib.hid hp
        simp only [badAt] at hp
        go_wp2_with (go_at_call 32; refine (contains_bytes_at 34 digB says_digit (fun _ _ => rfl) _ _ _ (ints (L s)) _ Hl.out Hs.out (rd_bytes _ _)).mono ?_; rintro e w' ⟨rfl, rfl⟩)
        go_roundw
        case rel => exact ⟨1, by omega, rfl, fun j hj => (Nat.lt_succ_iff_lt_or_eq.1 hj).elim (hd.out j) (fun e => e ▸ Hp.out), below_bytes hb hbs _ _⟩
        case measure => simp [intOf]
      · have Hp := Lib.hid hp
        simp only [badAt] at hp
        go_wp2_with (go_at_call 32; refine (contains_bytes_at 34 digB says_digit (fun _ _ => rfl) _ _ _ (ints (L s)) _ Hl.out Hs.out (rd_bytes _ _)).mono ?_; rintro e w' ⟨rfl, rfl⟩)
        go_ret
        exact ⟨ret_bool (by rw [markB_eq, Hp.out]; simp), below_bytes hb hbs _ _⟩
    | 1, _ =>
      cases hp : badAt (L s) 1
      · have Hp := Lib.hid hp
        simp only [badAt] at hp
        go_wp2_with (go_at_call 32; refine (contains_bytes_at 68 letB says_letter (fun _ _ => rfl) _ _ _ (ints (L s)) _ Hl.out Hs.out (rd_bytes _ _)).mono ?_; rintro e w' ⟨rfl, rfl⟩)
        go_roundw
        case rel => exact ⟨2, by omega, rfl, fun j hj => (Nat.lt_succ_iff_lt_or_eq.1 hj).elim (hd.out j) (fun e => e ▸ Hp.out), below_bytes hb hbs _ _⟩
        case measure => simp [intOf]
      · have Hp := Lib.hid hp
        simp only [badAt] at hp
        go_wp2_with (go_at_call 32; refine (contains_bytes_at 68 letB says_letter (fun _ _ => rfl) _ _ _ (ints (L s)) _ Hl.out Hs.out (rd_bytes _ _)).mono ?_; rintro e w' ⟨rfl, rfl⟩)
        go_ret
        exact ⟨ret_bool (by rw [markB_eq, Hp.out]; simp), below_bytes hb hbs _ _⟩
    | 2, _ =>
      cases hp : badAt (L s) 2
      · have Hp := Lib.hid hp
        simp only [badAt] at hp
        go_wp2_with (go_at_call 32; refine (contains_bytes_at 69 sgnB says_sign (fun _ _ => rfl) _ _ _ (ints (L s)) _ Hl.out Hs.out (rd_bytes _ _)).mono ?_; rintro e w' ⟨rfl, rfl⟩)
        go_roundw
        case rel => exact ⟨3, by omega, rfl, fun j hj => (Nat.lt_succ_iff_lt_or_eq.1 hj).elim (hd.out j) (fun e => e ▸ Hp.out), below_bytes hb hbs _ _⟩
        case measure => simp [intOf]
      · have Hp := Lib.hid hp
        simp only [badAt] at hp
        go_wp2_with (go_at_call 32; refine (contains_bytes_at 69 sgnB says_sign (fun _ _ => rfl) _ _ _ (ints (L s)) _ Hl.out Hs.out (rd_bytes _ _)).mono ?_; rintro e w' ⟨rfl, rfl⟩)
        go_ret
        exact ⟨ret_bool (by rw [markB_eq, Hp.out]; simp), below_bytes hb hbs _ _⟩
    | 3, _ =>
      cases hp : badAt (L s) 3
      · have Hp := Lib.hid hp
        simp only [badAt] at hp
        go_wp2_with (go_at_call 32; refine (contains_bytes_at 70 ctlB says_ctl (fun _ _ => rfl) _ _ _ (ints (L s)) _ Hl.out Hs.out (rd_bytes _ _)).mono ?_; rintro e w' ⟨rfl, rfl⟩)
        go_roundw
        case rel => exact ⟨4, by omega, rfl, fun j hj => (Nat.lt_succ_iff_lt_or_eq.1 hj).elim (hd.out j) (fun e => e ▸ Hp.out), below_bytes hb hbs _ _⟩
        case measure => simp [intOf]
      · have Hp := Lib.hid hp
        simp only [badAt] at hp
        go_wp2_with (go_at_call 32; refine (contains_bytes_at 70 ctlB says_ctl (fun _ _ => rfl) _ _ _ (ints (L s)) _ Hl.out Hs.out (rd_bytes _ _)).mono ?_; rintro e w' ⟨rfl, rfl⟩)
        go_ret
        exact ⟨ret_bool (by rw [markB_eq, Hp.out]; simp), below_bytes hb hbs _ _⟩
    | 4, _ =>
      go_wp2
      all_goals
        go_ret
        refine ⟨ret_bool ?_, hb⟩
        rw [markB_eq, hd.out 0 (by omega), hd.out 1 (by omega), hd.out 2 (by omega), hd.out 3 (by omega), L_length, Bool.eq_iff_iff]
        simp only [decide_eq_true_eq, Bool.false_eq_true, Bool.not_false, Bool.and_true, Bool.and_self, Bool.true_and, Bool.and_eq_true, true_and, false_iff, not_and]
        first | done | omega
end Go.Proofs.Ytkdnlmnjhlogmaa
