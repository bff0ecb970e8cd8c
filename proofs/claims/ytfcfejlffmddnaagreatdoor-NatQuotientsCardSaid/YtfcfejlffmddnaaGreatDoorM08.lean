/- Package nat, its reference and its laws' helpers, part 8 (NCK NCL). -/
import Derived.Test.YtfcfejlffmddnaaGreatDoorM07
section
/- Contracts: the exported shifts; the entries of the functions with one number. -/
namespace Go.Proofs.YtfcfejlffmddnaaGreatDoor
open Go.RowKit
set_option linter.unusedSimpArgs false
set_option linter.unusedVariables false

variable {w0 w : World} {l : List (Option Addr × Nat × Nat × Nat)}
/-- What a walk needs of the world at its entry: the cell of the error, the list of arguments. -/
structure Entry1 (w w3 : World) (A1 : Option Addr) (k1 c1 : Nat) (g1 : List Int) : Prop where
  below : Below w.heap.size w w3
  err : ECell w3 w.heap.size 0
  lists : Lists w3 (w.heap.size + 1) 1 [(A1, k1, c1, g1)]
  r1 : Rd .u32 w3 A1 g1
theorem Entry1.new (w : World) (A1 : Option Addr) (k1 c1 : Nat) (g1 : List Int) (r1 : Rd .u32 w A1 g1) (e1 : g1.length = k1) (b1 : k1 ≤ 9223372036854775807) :
    Entry1 w ((w.alloc (.cells #[.int .i64 0] 26)).alloc (.cells #[.slice A1 k1 c1] 23)) A1 k1 c1 g1 := by
  obtain ⟨wb, hwb⟩ : ∃ wb, w.alloc (.cells #[.int .i64 0] 26) = wb := ⟨_, rfl⟩
  have h2 : Below w.heap.size w wb := by rw [← hwb]; exact (Below.refl _ _).alloc (Nat.le_refl _) _
  have hsb : wb.heap.size = w.heap.size + 1 := by rw [← hwb, World.size_alloc]
  have heb : ECell wb w.heap.size 0 := by rw [← hwb]; exact ECell.new w 0
  rw [hwb]
  have hl := Lists.one wb A1 k1 c1 g1 (r1.below h2) e1 b1
  rw [hsb] at hl
  exact ⟨h2.alloc (by rw [hsb]; omega) _, heb.alloc _, hl, (r1.below h2).alloc _⟩
/-- The same for two arguments without a road. -/
structure EntryC (w w3 : World) (A1 : Option Addr) (k1 c1 : Nat) (g1 : List Int) (A2 : Option Addr) (k2 c2 : Nat) (g2 : List Int) : Prop where
  below : Below w.heap.size w w3
  err : ECell w3 w.heap.size 0
  lists : Lists w3 (w.heap.size + 1) 2 [(A1, k1, c1, g1), (A2, k2, c2, g2)]
  r1 : Rd .u32 w3 A1 g1
  r2 : Rd .u32 w3 A2 g2
theorem EntryC.new (w : World) (A1 : Option Addr) (k1 c1 : Nat) (g1 : List Int) (A2 : Option Addr) (k2 c2 : Nat) (g2 : List Int) (r1 : Rd .u32 w A1 g1) (r2 : Rd .u32 w A2 g2) (e1 : g1.length = k1) (e2 : g2.length = k2) (b1 : k1 ≤ 9223372036854775807) (b2 : k2 ≤ 9223372036854775807) :
    EntryC w ((w.alloc (.cells #[.int .i64 0] 26)).alloc (.cells #[.slice A1 k1 c1, .slice A2 k2 c2] 23)) A1 k1 c1 g1 A2 k2 c2 g2 := by
  obtain ⟨wb, hwb⟩ : ∃ wb, w.alloc (.cells #[.int .i64 0] 26) = wb := ⟨_, rfl⟩
  have h2 : Below w.heap.size w wb := by rw [← hwb]; exact (Below.refl _ _).alloc (Nat.le_refl _) _
  have hsb : wb.heap.size = w.heap.size + 1 := by rw [← hwb, World.size_alloc]
  have heb : ECell wb w.heap.size 0 := by rw [← hwb]; exact ECell.new w 0
  rw [hwb]
  have hl := Lists.two wb A1 k1 c1 g1 A2 k2 c2 g2 (r1.below h2) (r2.below h2) e1 e2 b1 b2
  rw [hsb] at hl
  exact ⟨h2.alloc (by rw [hsb]; omega) _, heb.alloc _, hl, (r1.below h2).alloc _, (r2.below h2).alloc _⟩
theorem Has.just (H : Has w0 w l) {A1 : Option Addr} {k1 c1 a : Nat} (h1 : (A1, k1, c1, a) ∈ l) : Has w w [(A1, k1, c1, a)] :=
  ⟨Below.refl _ _, fun p hp => H.r p (by
    obtain rfl := List.mem_singleton.1 hp; exact h1)⟩
theorem any_one_bad {A1 : Option Addr} {k1 c1 : Nat} {g1 : List Int} (h : validB g1 = false) : ([(A1, k1, c1, g1)].any fun p => !validB p.2.2.2) = true := by simp [h]
theorem any_one_good {A1 : Option Addr} {k1 c1 : Nat} {g1 : List Int} (h : validB g1 = true) : ([(A1, k1, c1, g1)].any fun p => !validB p.2.2.2) = false := by simp [h]
/-- What shifts to the left answer. -/
def shlO (a : Nat) (n : Int) : Int × Nat := if n < 0 then (1, 0) else giv (a * 2 ^ n.toNat)
def shrO (a : Nat) (n : Int) : Int × Nat := if n < 0 then (1, 0) else giv (a / 2 ^ n.toNat)
theorem pow32 (k : Nat) : (4294967296 : Nat) ^ k = 2 ^ (32 * k) := by rw [show (4294967296 : Nat) = 2 ^ 32 from rfl, ← Nat.pow_mul]
theorem len_great {n e : Nat} (he : 32768 ≤ e) (h : 2 ^ e ≤ n) : ¬ (dg n).length ≤ 1024 := by
  intro h2
  have h3 := lt_of_len h2
  obtain ⟨k, hk⟩ : ∃ k, k = 1024 := ⟨_, rfl⟩
  rw [← hk, pow32] at h3
  have h4 : 2 ^ (32 * k) ≤ 2 ^ e := Nat.pow_le_pow_right (by decide) (by omega)
  exact absurd h3 (Nat.not_lt.2 (Nat.le_trans h4 h))
theorem shl_great {a : Nat} {n : Int} (ha : 0 < a) (h : 32768 < n) : giv (a * 2 ^ n.toNat) = (2, 0) :=
  giv_no (len_great (e := n.toNat) (by omega) (Nat.le_mul_of_pos_left _ ha))
set_option maxRecDepth 10000 in
set_option maxHeartbeats 1000000 in
theorem Shl_bad (A1 : Option Addr) (k1 c1 : Nat) (g1 : List Int) (n : Int) (w : World) (r1 : Rd .u32 w A1 g1) (e1 : g1.length = k1) (b1 : k1 ≤ 9223372036854775807) (hv : Hid (validB g1 = false)) :
    Calls Tryz.prog 50 #[.slice A1 k1 c1, .int .i64 n] w (Gives w 1 0) := by
  have hE := Entry1.new w A1 k1 c1 g1 r1 e1 b1
  obtain ⟨w3, hw3⟩ : ∃ w3, ((w.alloc (.cells #[.int .i64 0] 26)).alloc (.cells #[.slice A1 k1 c1] 23)) = w3 := ⟨_, rfl⟩
  rw [hw3] at hE
  have HE := Lib.hid hE
  have hany := Lib.hid (any_one_bad (A1 := A1) (k1 := k1) (c1 := c1) hv.out)
  clear hE r1 e1 b1
  go_enter_defers Tryz.func50, Tryz.ntmps50
  go_wp2_with fail
  refine (taken_no _ _ _ _ w3 HE.out.lists (by omega) hany).mono ?_
  rintro r w1 ⟨rfl, rfl⟩
  refine leaves_cons (f := 66) (args := #[.pointer (some ⟨w.heap.size, 0, none⟩)]) (by simp) (by simp [go_sem]) ?_
  refine (caught_fail w.heap.size 1 0 _ HE.out.err).mono ?_
  rintro r u' w'' ⟨rfl, rfl, rfl⟩
  have hc := HE.out.err.setA 1 (.cells #[.int .i64 1] 122)
  have hb := below_setA HE.out.below (Nat.le_refl _) (.int .i64 1) (.cells #[.int .i64 1] 122)
  exact ⟨.tuple #[.slice none 0 0, .int .i64 1], by simp [results, Tryz.results50, go_sem, hc], Gives.nil 1 hb⟩
set_option maxRecDepth 10000 in
set_option maxHeartbeats 1000000 in
theorem Shr_bad (A1 : Option Addr) (k1 c1 : Nat) (g1 : List Int) (n : Int) (w : World) (r1 : Rd .u32 w A1 g1) (e1 : g1.length = k1) (b1 : k1 ≤ 9223372036854775807) (hv : Hid (validB g1 = false)) :
    Calls Tryz.prog 51 #[.slice A1 k1 c1, .int .i64 n] w (Gives w 1 0) := by
  have hE := Entry1.new w A1 k1 c1 g1 r1 e1 b1
  obtain ⟨w3, hw3⟩ : ∃ w3, ((w.alloc (.cells #[.int .i64 0] 26)).alloc (.cells #[.slice A1 k1 c1] 23)) = w3 := ⟨_, rfl⟩
  rw [hw3] at hE
  have HE := Lib.hid hE
  have hany := Lib.hid (any_one_bad (A1 := A1) (k1 := k1) (c1 := c1) hv.out)
  clear hE r1 e1 b1
  go_enter_defers Tryz.func51, Tryz.ntmps51
  go_wp2_with fail
  refine (taken_no _ _ _ _ w3 HE.out.lists (by omega) hany).mono ?_
  rintro r w1 ⟨rfl, rfl⟩
  refine leaves_cons (f := 66) (args := #[.pointer (some ⟨w.heap.size, 0, none⟩)]) (by simp) (by simp [go_sem]) ?_
  refine (caught_fail w.heap.size 1 0 _ HE.out.err).mono ?_
  rintro r u' w'' ⟨rfl, rfl, rfl⟩
  have hc := HE.out.err.setA 1 (.cells #[.int .i64 1] 122)
  have hb := below_setA HE.out.below (Nat.le_refl _) (.int .i64 1) (.cells #[.int .i64 1] 122)
  exact ⟨.tuple #[.slice none 0 0, .int .i64 1], by simp [results, Tryz.results51, go_sem, hc], Gives.nil 1 hb⟩
set_option maxRecDepth 10000 in
set_option maxHeartbeats 1000000 in
theorem Shl_neg (H : Has w0 w l) (A1 : Option Addr) (k1 c1 a : Nat) (n : Int) (h1 : (A1, k1, c1, a) ∈ l) (b1 : k1 ≤ 1024) (hn : n < 0) :
    Calls Tryz.prog 50 #[.slice A1 k1 c1, .int .i64 n] w (Gives w 1 0) := by
  obtain ⟨r1, e1, p1, q1⟩ := H.at h1
  have hE := Entry1.new w A1 k1 c1 (dg a) r1 e1 (by omega)
  obtain ⟨w3, hw3⟩ : ∃ w3, ((w.alloc (.cells #[.int .i64 0] 26)).alloc (.cells #[.slice A1 k1 c1] 23)) = w3 := ⟨_, rfl⟩
  rw [hw3] at hE
  have HE := Lib.hid hE
  have hany := Lib.hid (any_one_good (A1 := A1) (k1 := k1) (c1 := c1) (valid_dg a (by omega)))
  have HH3 := Lib.hid ((H.just h1).below hE.below)
  have hd : decide (0 ≤ n) = false := decide_eq_false (by omega)
  clear hE r1 e1 H h1
  go_enter_defers Tryz.func50, Tryz.ntmps50
  go_wp2_with fail
  refine (taken_yes _ _ _ _ w3 HE.out.lists (by omega) hany).mono ?_
  rintro r w1 ⟨rfl, rfl⟩
  go_wp2_with fail
  refine (need_no _ _).mono ?_
  rintro e w' ⟨rfl, rfl⟩
  refine leaves_cons (f := 66) (args := #[.pointer (some ⟨w.heap.size, 0, none⟩)]) (by simp) (by simp [go_sem]) ?_
  refine (caught_fail w.heap.size 1 0 _ HE.out.err).mono ?_
  rintro r u' w'' ⟨rfl, rfl, rfl⟩
  have hc := HE.out.err.setA 1 (.cells #[.int .i64 1] 122)
  have hb := below_setA HE.out.below (Nat.le_refl _) (.int .i64 1) (.cells #[.int .i64 1] 122)
  exact ⟨.tuple #[.slice none 0 0, .int .i64 1], by simp [results, Tryz.results50, go_sem, hc], Gives.nil 1 hb⟩
set_option maxRecDepth 10000 in
set_option maxHeartbeats 1000000 in
theorem Shr_neg (H : Has w0 w l) (A1 : Option Addr) (k1 c1 a : Nat) (n : Int) (h1 : (A1, k1, c1, a) ∈ l) (b1 : k1 ≤ 1024) (hn : n < 0) :
    Calls Tryz.prog 51 #[.slice A1 k1 c1, .int .i64 n] w (Gives w 1 0) := by
  obtain ⟨r1, e1, p1, q1⟩ := H.at h1
  have hE := Entry1.new w A1 k1 c1 (dg a) r1 e1 (by omega)
  obtain ⟨w3, hw3⟩ : ∃ w3, ((w.alloc (.cells #[.int .i64 0] 26)).alloc (.cells #[.slice A1 k1 c1] 23)) = w3 := ⟨_, rfl⟩
  rw [hw3] at hE
  have HE := Lib.hid hE
  have hany := Lib.hid (any_one_good (A1 := A1) (k1 := k1) (c1 := c1) (valid_dg a (by omega)))
  have HH3 := Lib.hid ((H.just h1).below hE.below)
  have hd : decide (0 ≤ n) = false := decide_eq_false (by omega)
  clear hE r1 e1 H h1
  go_enter_defers Tryz.func51, Tryz.ntmps51
  go_wp2_with fail
  refine (taken_yes _ _ _ _ w3 HE.out.lists (by omega) hany).mono ?_
  rintro r w1 ⟨rfl, rfl⟩
  go_wp2_with fail
  refine (need_no _ _).mono ?_
  rintro e w' ⟨rfl, rfl⟩
  refine leaves_cons (f := 66) (args := #[.pointer (some ⟨w.heap.size, 0, none⟩)]) (by simp) (by simp [go_sem]) ?_
  refine (caught_fail w.heap.size 1 0 _ HE.out.err).mono ?_
  rintro r u' w'' ⟨rfl, rfl, rfl⟩
  have hc := HE.out.err.setA 1 (.cells #[.int .i64 1] 122)
  have hb := below_setA HE.out.below (Nat.le_refl _) (.int .i64 1) (.cells #[.int .i64 1] 122)
  exact ⟨.tuple #[.slice none 0 0, .int .i64 1], by simp [results, Tryz.results51, go_sem, hc], Gives.nil 1 hb⟩
set_option maxRecDepth 10000 in
set_option maxHeartbeats 1000000 in
theorem Shl_zero (H : Has w0 w l) (A1 : Option Addr) (c1 : Nat) (n : Int) (h1 : (A1, 0, c1, 0) ∈ l) (hn : 0 ≤ n) :
    Calls Tryz.prog 50 #[.slice A1 0 c1, .int .i64 n] w (Gives w 0 0) := by
  obtain ⟨k1, hk1⟩ : ∃ k1, k1 = 0 := ⟨0, rfl⟩
  obtain ⟨a, ha⟩ : ∃ a, a = 0 := ⟨0, rfl⟩
  rw [show ((A1, 0, c1, 0) : Option Addr × Nat × Nat × Nat) = (A1, k1, c1, a) by rw [hk1, ha]] at h1
  obtain ⟨r1, e1, p1, q1⟩ := H.at h1
  have hE := Entry1.new w A1 k1 c1 (dg a) r1 e1 (by omega)
  obtain ⟨w3, hw3⟩ : ∃ w3, ((w.alloc (.cells #[.int .i64 0] 26)).alloc (.cells #[.slice A1 k1 c1] 23)) = w3 := ⟨_, rfl⟩
  rw [hw3] at hE
  have HE := Lib.hid hE
  have hany := Lib.hid (any_one_good (A1 := A1) (k1 := k1) (c1 := c1) (valid_dg a (by omega)))
  have HH3 := Lib.hid ((H.just h1).below hE.below)
  have hd : decide (0 ≤ n) = true := decide_eq_true hn
  subst hk1 ha
  clear hE r1 e1 H h1
  have c5' := cell_of_one HE.out.err
  have z5' := free_of_one HE.out.err
  have l5' := lt_of_block HE.out.err
  go_enter_defers Tryz.func50, Tryz.ntmps50
  go_wp2_with fail
  refine (taken_yes _ _ _ _ w3 HE.out.lists (by omega) hany).mono ?_
  rintro r w1 ⟨rfl, rfl⟩
  go_wp2_with fail
  refine (need_ok _ _).mono ?_
  rintro e w' ⟨rfl, rfl⟩
  go_wp2_with fail
  refine leaves_cons (f := 66) (args := #[.pointer (some ⟨w.heap.size, 0, none⟩)]) (by simp) (by simp [go_sem]) ?_
  refine (caught_idle _ _).mono ?_
  rintro r u' w'' ⟨rfl, rfl, rfl⟩
  have hc := HE.out.err.set 0
  have hb := below_set HE.out.below (Nat.le_refl _) (.int .i64 0)
  exact ⟨.tuple #[.slice none 0 0, .int .i64 0], by simp [results, Tryz.results50, go_sem, hc], Gives.nil 0 hb⟩
set_option maxRecDepth 10000 in
set_option maxHeartbeats 1000000 in
theorem Shl_big (H : Has w0 w l) (A1 : Option Addr) (k1 c1 a : Nat) (n : Int) (h1 : (A1, k1, c1, a) ∈ l) (b1 : k1 ≤ 1024) (b0 : 0 < k1) (hn : 32768 < n) :
    Calls Tryz.prog 50 #[.slice A1 k1 c1, .int .i64 n] w (Gives w 2 0) := by
  obtain ⟨r1, e1, p1, q1⟩ := H.at h1
  have hE := Entry1.new w A1 k1 c1 (dg a) r1 e1 (by omega)
  obtain ⟨w3, hw3⟩ : ∃ w3, ((w.alloc (.cells #[.int .i64 0] 26)).alloc (.cells #[.slice A1 k1 c1] 23)) = w3 := ⟨_, rfl⟩
  rw [hw3] at hE
  have HE := Lib.hid hE
  have hany := Lib.hid (any_one_good (A1 := A1) (k1 := k1) (c1 := c1) (valid_dg a (by omega)))
  have HH3 := Lib.hid ((H.just h1).below hE.below)
  have hd : decide (0 ≤ n) = true := decide_eq_true (by omega)
  have hd2 : ((k1 : Int) == 0) = false := by simp; omega
  have hd3 : decide (n ≤ 32768) = false := decide_eq_false (by omega)
  clear hE r1 e1 H h1
  go_enter_defers Tryz.func50, Tryz.ntmps50
  go_wp2_with fail
  refine (taken_yes _ _ _ _ w3 HE.out.lists (by omega) hany).mono ?_
  rintro r w1 ⟨rfl, rfl⟩
  go_wp2_with fail
  refine (need_ok _ _).mono ?_
  rintro e w' ⟨rfl, rfl⟩
  go_wp2_with fail
  refine (need_no _ _).mono ?_
  rintro e w' ⟨rfl, rfl⟩
  refine leaves_cons (f := 66) (args := #[.pointer (some ⟨w.heap.size, 0, none⟩)]) (by simp) (by simp [go_sem]) ?_
  refine (caught_fail w.heap.size 2 0 _ HE.out.err).mono ?_
  rintro r u' w'' ⟨rfl, rfl, rfl⟩
  have hc := HE.out.err.setA 2 (.cells #[.int .i64 2] 122)
  have hb := below_setA HE.out.below (Nat.le_refl _) (.int .i64 2) (.cells #[.int .i64 2] 122)
  exact ⟨.tuple #[.slice none 0 0, .int .i64 2], by simp [results, Tryz.results50, go_sem, hc], Gives.nil 2 hb⟩
set_option maxRecDepth 10000 in
set_option maxHeartbeats 1000000 in
theorem Shl_some (H : Has w0 w l) (A1 : Option Addr) (k1 c1 a : Nat) (n : Int) (h1 : (A1, k1, c1, a) ∈ l) (b1 : k1 ≤ 1024) (b0 : 0 < k1) (hn0 : 0 ≤ n) (hn : n ≤ 32768) (x : Int) (m : Nat) (hx : giv (a * 2 ^ n.toNat) = (x, m)) :
    Calls Tryz.prog 50 #[.slice A1 k1 c1, .int .i64 n] w (Gives w x m) := by
  obtain ⟨r1, e1, p1, q1⟩ := H.at h1
  have hE := Entry1.new w A1 k1 c1 (dg a) r1 e1 (by omega)
  obtain ⟨w3, hw3⟩ : ∃ w3, ((w.alloc (.cells #[.int .i64 0] 26)).alloc (.cells #[.slice A1 k1 c1] 23)) = w3 := ⟨_, rfl⟩
  rw [hw3] at hE
  have HE := Lib.hid hE
  have hany := Lib.hid (any_one_good (A1 := A1) (k1 := k1) (c1 := c1) (valid_dg a (by omega)))
  have HH3 := Lib.hid ((H.just h1).below hE.below)
  have hd : decide (0 ≤ n) = true := decide_eq_true (by omega)
  have hd2 : ((k1 : Int) == 0) = false := by simp; omega
  have hd3 : decide (n ≤ 32768) = true := decide_eq_true (by omega)
  have HX := Lib.hid hx
  clear hE r1 e1 H h1 hx
  go_enter_defers Tryz.func50, Tryz.ntmps50
  go_wp2_with fail
  refine (taken_yes _ _ _ _ w3 HE.out.lists (by omega) hany).mono ?_
  rintro r w1 ⟨rfl, rfl⟩
  go_wp2_with fail
  refine (need_ok _ _).mono ?_
  rintro e w' ⟨rfl, rfl⟩
  go_wp2_with fail
  refine (need_ok _ _).mono ?_
  rintro e w' ⟨rfl, rfl⟩
  go_wp2_with fail
  refine (shl_h HH3.out.rebase A1 k1 c1 a n (by simp) (by omega) hn0 (by omega)).mono ?_
  rintro e w4 ⟨A4, k4, c4, n4, rfl, hn4, b4, H4⟩
  have HX2 := HX.out
  rw [← hn4.out] at HX2
  have hl4 := H4.len (A := A4) (k := k4) (c := c4) (n := n4) (by simp)
  by_cases hk : k4 ≤ 1024
  · rw [giv_ok (by omega)] at HX2
    injection HX2 with hx hm
    subst hx hm
    clear hl4
    go_wp2_with fail
    refine (given_ok H4 A4 k4 c4 n4 (by simp) hk).mono ?_
    rintro r w5 ⟨A5, k5, c5, n5, rfl, hn5, b5, H5⟩
    obtain rfl : n5 = n4 := hn5.out
    have hb5 := H5.b
    have hE5 : ECell w5 w.heap.size 0 := HE.out.err.below hb5
    have c5' := cell_of_one hE5
    have z5' := free_of_one hE5
    have l5' := lt_of_block hE5
    have HE5 := Lib.hid hE5
    have HH5 := Lib.hid H5
    clear hE5 H5 hb5
    go_wp2_with fail
    refine leaves_cons (f := 66) (args := #[.pointer (some ⟨w.heap.size, 0, none⟩)]) (by simp) (by simp [go_sem]) ?_
    refine (caught_idle _ _).mono ?_
    rintro r u' w'' ⟨rfl, rfl, rfl⟩
    have hc := HE5.out.set 0
    have hh : Has w w5 [(A5, k5, c5, n5)] := ⟨HE.out.below.trans (HH5.out.b.mono HE.out.below.size), fun p hp => HH5.out.r p (by
      obtain rfl := List.mem_singleton.1 hp; simp)⟩
    exact ⟨.tuple #[.slice A5 k5 c5, .int .i64 0], by simp [results, Tryz.results50, go_sem, hc], A5, k5, c5, rfl, b5, hh.setE HE5.out (Nat.le_refl _) _⟩
  · rw [giv_no (by omega)] at HX2
    injection HX2 with hx hm
    subst hx hm
    have HE3 := Lib.hid (HE.out.err.below H4.b)
    have HB3 := Lib.hid (HE.out.below.trans (H4.b.mono HE.out.below.size))
    clear hl4
    go_wp2_with fail
    refine (given_no A4 k4 c4 w4 (by omega) (by omega)).mono ?_
    rintro r w5 ⟨rfl, rfl⟩
    refine leaves_cons (f := 66) (args := #[.pointer (some ⟨w.heap.size, 0, none⟩)]) (by simp) (by simp [go_sem]) ?_
    refine (caught_fail w.heap.size 2 0 _ HE3.out).mono ?_
    rintro r u' w'' ⟨rfl, rfl, rfl⟩
    have hc := HE3.out.setA 2 (.cells #[.int .i64 2] 122)
    have hb := below_setA HB3.out (Nat.le_refl _) (.int .i64 2) (.cells #[.int .i64 2] 122)
    exact ⟨.tuple #[.slice none 0 0, .int .i64 2], by simp [results, Tryz.results50, go_sem, hc], Gives.nil 2 hb⟩
set_option maxRecDepth 10000 in
set_option maxHeartbeats 1000000 in
theorem Shr_some (H : Has w0 w l) (A1 : Option Addr) (k1 c1 a : Nat) (n : Int) (h1 : (A1, k1, c1, a) ∈ l) (b1 : k1 ≤ 1024) (hn0 : 0 ≤ n) :
    Calls Tryz.prog 51 #[.slice A1 k1 c1, .int .i64 n] w (Gives w 0 (a / 2 ^ n.toNat)) := by
  obtain ⟨r1, e1, p1, q1⟩ := H.at h1
  have hE := Entry1.new w A1 k1 c1 (dg a) r1 e1 (by omega)
  obtain ⟨w3, hw3⟩ : ∃ w3, ((w.alloc (.cells #[.int .i64 0] 26)).alloc (.cells #[.slice A1 k1 c1] 23)) = w3 := ⟨_, rfl⟩
  rw [hw3] at hE
  have HE := Lib.hid hE
  have hany := Lib.hid (any_one_good (A1 := A1) (k1 := k1) (c1 := c1) (valid_dg a (by omega)))
  have HH3 := Lib.hid ((H.just h1).below hE.below)
  have hd : decide (0 ≤ n) = true := decide_eq_true (by omega)
  clear hE r1 e1 H h1
  go_enter_defers Tryz.func51, Tryz.ntmps51
  go_wp2_with fail
  refine (taken_yes _ _ _ _ w3 HE.out.lists (by omega) hany).mono ?_
  rintro r w1 ⟨rfl, rfl⟩
  go_wp2_with fail
  refine (need_ok _ _).mono ?_
  rintro e w' ⟨rfl, rfl⟩
  go_wp2_with fail
  refine (shr_h HH3.out.rebase A1 k1 c1 a n (by simp) (by omega) hn0).mono ?_
  rintro e w4 ⟨A4, k4, c4, n4, rfl, hn4, b4, H4⟩
  go_wp2_with fail
  refine (given_ok H4 A4 k4 c4 n4 (by simp) (by omega)).mono ?_
  rintro r w5 ⟨A5, k5, c5, n5, rfl, hn5, b5, H5⟩
  obtain rfl : n5 = n4 := hn5.out
  have hb5 := H5.b
  have hE5 : ECell w5 w.heap.size 0 := HE.out.err.below hb5
  have c5' := cell_of_one hE5
  have z5' := free_of_one hE5
  have l5' := lt_of_block hE5
  have HE5 := Lib.hid hE5
  have HH5 := Lib.hid H5
  clear hE5 H5 hb5
  go_wp2_with fail
  refine leaves_cons (f := 66) (args := #[.pointer (some ⟨w.heap.size, 0, none⟩)]) (by simp) (by simp [go_sem]) ?_
  refine (caught_idle _ _).mono ?_
  rintro r u' w'' ⟨rfl, rfl, rfl⟩
  have hc := HE5.out.set 0
  have hh : Has w w5 [(A5, k5, c5, n5)] := ⟨HE.out.below.trans (HH5.out.b.mono HE.out.below.size), fun p hp => HH5.out.r p (by
    obtain rfl := List.mem_singleton.1 hp; simp)⟩
  rw [hn4.out] at hh
  exact ⟨.tuple #[.slice A5 k5 c5, .int .i64 0], by simp [results, Tryz.results51, go_sem, hc], A5, k5, c5, rfl, b5, hh.setE HE5.out (Nat.le_refl _) _⟩
theorem Shl_x (H : Has w0 w l) (A1 : Option Addr) (k1 c1 a : Nat) (n : Int) (h1 : (A1, k1, c1, a) ∈ l) (b1 : k1 ≤ 1024) (x : Int) (m : Nat) (hx : Hid (shlO a n = (x, m))) :
    Calls Tryz.prog 50 #[.slice A1 k1 c1, .int .i64 n] w (Gave w0 l x m) := by
  refine Calls.mono (R := Gives w x m) ?_ (fun e w' h => h.gave H)
  have hx := hx.out
  have e1 := H.len h1
  unfold shlO at hx
  by_cases hn : n < 0
  · rw [if_pos hn] at hx
    injection hx with hx hm
    subst hx hm
    exact Shl_neg H A1 k1 c1 a n h1 b1 hn
  · rw [if_neg hn] at hx
    rcases Nat.eq_zero_or_pos k1 with h0 | h0
    · subst h0
      have ha := (dg_nil_iff a).1 e1
      subst ha
      rw [Nat.zero_mul, giv_ok (by rw [dg_zero]; decide)] at hx
      injection hx with hx hm
      subst hx hm
      exact Shl_zero H A1 c1 n h1 (by omega)
    · by_cases hb : n ≤ 32768
      · exact Shl_some H A1 k1 c1 a n h1 b1 h0 (by omega) hb x m hx
      · rw [shl_great (pos_of_len e1 h0) (by omega)] at hx
        injection hx with hx hm
        subst hx hm
        exact Shl_big H A1 k1 c1 a n h1 b1 h0 (by omega)
theorem Shr_x (H : Has w0 w l) (A1 : Option Addr) (k1 c1 a : Nat) (n : Int) (h1 : (A1, k1, c1, a) ∈ l) (b1 : k1 ≤ 1024) (x : Int) (m : Nat) (hx : Hid (shrO a n = (x, m))) :
    Calls Tryz.prog 51 #[.slice A1 k1 c1, .int .i64 n] w (Gave w0 l x m) := by
  refine Calls.mono (R := Gives w x m) ?_ (fun e w' h => h.gave H)
  have hx := hx.out
  have e1 := H.len h1
  unfold shrO at hx
  by_cases hn : n < 0
  · rw [if_pos hn] at hx
    injection hx with hx hm
    subst hx hm
    exact Shr_neg H A1 k1 c1 a n h1 b1 hn
  · rw [if_neg hn, giv_ok (Nat.le_trans (len_div _ _) (by omega))] at hx
    injection hx with hx hm
    subst hx hm
    exact Shr_some H A1 k1 c1 a n h1 b1 (by omega)
end Go.Proofs.YtfcfejlffmddnaaGreatDoor
end
section
/- Contracts: the exported Pow. -/
namespace Go.Proofs.YtfcfejlffmddnaaGreatDoor
open Go.RowKit
set_option linter.unusedSimpArgs false
set_option linter.unusedVariables false

variable {w0 w : World} {l : List (Option Addr × Nat × Nat × Nat)}
/-- What Pow answers. -/
def powO (a : Nat) (n : Int) : Int × Nat := if n < 0 then (1, 0) else giv (a ^ n.toNat)
theorem pow_great {a z m : Nat} (ha : 2 ≤ a) (hz : bl a = z) (h : 32768 ≤ (z - 1) * m) : giv (a ^ m) = (2, 0) := by
  refine giv_no (len_great h ?_)
  have h1 := (bl_spec (n := a) (by omega)).2.1
  rw [hz] at h1
  have h2 := Nat.pow_le_pow_left h1 m
  rw [← Nat.pow_mul] at h2
  exact h2
theorem bl_two {a : Nat} (h : 2 ≤ a) : 2 ≤ bl a := by
  rcases Nat.lt_or_ge (bl a) 2 with h2 | h2
  · have := (bl_le (n := a) (k := 1)).1 (by omega)
    omega
  · exact h2
theorem pow_huge {a m : Nat} (ha : 2 ≤ a) (h : 32768 < m) : giv (a ^ m) = (2, 0) := by
  refine pow_great ha rfl ?_
  have h1 := bl_two ha
  have h2 : 1 * m ≤ (bl a - 1) * m := Nat.mul_le_mul_right _ (by omega)
  omega
theorem pow_small_len {a m : Nat} (h : (bl a - 1) * m < 32768) (hm : m ≤ 32768) : ∀ j, j ≤ m → (dg (a ^ j)).length ≤ 2048 := by
  intro j hj
  refine len_of_lt ?_
  obtain ⟨q, hq⟩ : ∃ q, q = 2048 := ⟨_, rfl⟩
  rw [← hq, pow32]
  have h1 : a ^ j ≤ (2 ^ bl a) ^ j := Nat.pow_le_pow_left (Nat.le_of_lt (bl_lt a)) j
  rw [← Nat.pow_mul] at h1
  have h2 : bl a * j ≤ bl a * m := Nat.mul_le_mul_left _ hj
  have h3 : bl a * m ≤ (bl a - 1) * m + m := by
    rcases Nat.eq_zero_or_pos (bl a) with h | h
    · rw [h]; omega
    · obtain ⟨t, ht⟩ : ∃ t, bl a = t + 1 := ⟨bl a - 1, by omega⟩
      rw [ht, Nat.add_sub_cancel, Nat.add_mul, Nat.one_mul]; exact Nat.le_refl _
  rcases Nat.lt_or_ge (bl a * j) (32 * q) with h4 | h4
  · exact Nat.lt_of_le_of_lt h1 (Nat.pow_lt_pow_right (by decide) h4)
  · omega
theorem pow_le_one {a : Nat} {m : Nat} (ha : a ≤ 1) (hm : 0 < m) : a ^ m = a := by
  rcases Nat.le_one_iff_eq_zero_or_eq_one.1 ha with h | h
  · subst h; exact Nat.zero_pow hm
  · subst h; exact Nat.one_pow m
set_option maxRecDepth 10000 in
set_option maxHeartbeats 1000000 in
theorem Pow_bad (A1 : Option Addr) (k1 c1 : Nat) (g1 : List Int) (n : Int) (w : World) (r1 : Rd .u32 w A1 g1) (e1 : g1.length = k1) (b1 : k1 ≤ 9223372036854775807) (hv : Hid (validB g1 = false)) :
    Calls Tryz.prog 22 #[.slice A1 k1 c1, .int .i64 n] w (Gives w 1 0) := by
  have hE := Entry1.new w A1 k1 c1 g1 r1 e1 b1
  obtain ⟨w3, hw3⟩ : ∃ w3, ((w.alloc (.cells #[.int .i64 0] 26)).alloc (.cells #[.slice A1 k1 c1] 23)) = w3 := ⟨_, rfl⟩
  rw [hw3] at hE
  have HE := Lib.hid hE
  have hany := Lib.hid (any_one_bad (A1 := A1) (k1 := k1) (c1 := c1) hv.out)
  clear hE r1 e1 b1
  go_enter_defers Tryz.func22, Tryz.ntmps22
  go_wp2_with fail
  refine (taken_no _ _ _ _ w3 HE.out.lists (by omega) hany).mono ?_
  rintro r w1 ⟨rfl, rfl⟩
  refine leaves_cons (f := 66) (args := #[.pointer (some ⟨w.heap.size, 0, none⟩)]) (by simp) (by simp [go_sem]) ?_
  refine (caught_fail w.heap.size 1 0 _ HE.out.err).mono ?_
  rintro r u' w'' ⟨rfl, rfl, rfl⟩
  have hc := (HE.out.err).setA 1 (.cells #[.int .i64 1] 122)
  have hb := below_setA (HE.out.below) (Nat.le_refl _) (.int .i64 1) (.cells #[.int .i64 1] 122)
  exact ⟨.tuple #[.slice none 0 0, .int .i64 1], by simp [results, Tryz.results22, go_sem, hc], Gives.nil 1 hb⟩
set_option maxRecDepth 10000 in
set_option maxHeartbeats 1000000 in
theorem Pow_neg (H : Has w0 w l) (A1 : Option Addr) (k1 c1 a : Nat) (n : Int) (h1 : (A1, k1, c1, a) ∈ l) (b1 : k1 ≤ 1024) (hn : n < 0) :
    Calls Tryz.prog 22 #[.slice A1 k1 c1, .int .i64 n] w (Gives w 1 0) := by
  obtain ⟨r1, e1, p1, q1⟩ := H.at h1
  have hE := Entry1.new w A1 k1 c1 (dg a) r1 e1 (by omega)
  obtain ⟨w3, hw3⟩ : ∃ w3, ((w.alloc (.cells #[.int .i64 0] 26)).alloc (.cells #[.slice A1 k1 c1] 23)) = w3 := ⟨_, rfl⟩
  rw [hw3] at hE
  have HE := Lib.hid hE
  have hany := Lib.hid (any_one_good (A1 := A1) (k1 := k1) (c1 := c1) (valid_dg a (by omega)))
  have HH3 := Lib.hid ((H.just h1).below hE.below)
  have hd : decide (0 ≤ n) = false := decide_eq_false (by omega)
  clear hE r1 e1 H h1
  go_enter_defers Tryz.func22, Tryz.ntmps22
  go_wp2_with fail
  refine (taken_yes _ _ _ _ w3 HE.out.lists (by omega) hany).mono ?_
  rintro r w1 ⟨rfl, rfl⟩
  go_wp2_with fail
  refine (need_no _ _).mono ?_
  rintro e w' ⟨rfl, rfl⟩
  refine leaves_cons (f := 66) (args := #[.pointer (some ⟨w.heap.size, 0, none⟩)]) (by simp) (by simp [go_sem]) ?_
  refine (caught_fail w.heap.size 1 0 _ HE.out.err).mono ?_
  rintro r u' w'' ⟨rfl, rfl, rfl⟩
  have hc := (HE.out.err).setA 1 (.cells #[.int .i64 1] 122)
  have hb := below_setA (HE.out.below) (Nat.le_refl _) (.int .i64 1) (.cells #[.int .i64 1] 122)
  exact ⟨.tuple #[.slice none 0 0, .int .i64 1], by simp [results, Tryz.results22, go_sem, hc], Gives.nil 1 hb⟩
set_option maxRecDepth 10000 in
set_option maxHeartbeats 1000000 in
theorem Pow_small (H : Has w0 w l) (A1 : Option Addr) (k1 c1 a : Nat) (n : Int) (h1 : (A1, k1, c1, a) ∈ l) (b1 : k1 ≤ 1024) (hn : 0 < n) (ha : a ≤ 1) :
    Calls Tryz.prog 22 #[.slice A1 k1 c1, .int .i64 n] w (Gives w 0 a) := by
  obtain ⟨r1, e1, p1, q1⟩ := H.at h1
  have hE := Entry1.new w A1 k1 c1 (dg a) r1 e1 (by omega)
  obtain ⟨w3, hw3⟩ : ∃ w3, ((w.alloc (.cells #[.int .i64 0] 26)).alloc (.cells #[.slice A1 k1 c1] 23)) = w3 := ⟨_, rfl⟩
  rw [hw3] at hE
  have HE := Lib.hid hE
  have hany := Lib.hid (any_one_good (A1 := A1) (k1 := k1) (c1 := c1) (valid_dg a (by omega)))
  have HH3 := Lib.hid ((H.just h1).below hE.below)
  have hd : decide (0 ≤ n) = true := decide_eq_true (by omega)
  have hd1 : decide (0 < n) = true := decide_eq_true (by omega)
  obtain ⟨r, hr⟩ : ∃ r, cmpI a 1 = r := ⟨_, rfl⟩
  have hrc : decide (r ≤ 0) = true := by
    rw [← hr]; unfold cmpI
    rcases Nat.le_one_iff_eq_zero_or_eq_one.1 ha with h | h <;> subst h <;> rfl
  have HR := Lib.hid hr
  have HO := Lib.hid (HH3.out.rebase.one 1 (by decide) (by decide))
  clear hE r1 e1 H h1 hr
  go_enter_defers Tryz.func22, Tryz.ntmps22
  go_wp2_with fail
  refine (taken_yes _ _ _ _ w3 HE.out.lists (by omega) hany).mono ?_
  rintro r w1 ⟨rfl, rfl⟩
  go_wp2_with fail
  refine (need_ok _ _).mono ?_
  rintro e w' ⟨rfl, rfl⟩
  go_wp2_with fail
  refine (cmp_h HO.out A1 k1 c1 a _ 1 1 1 (by simp) (by simp) (by omega) (by omega) _ HR).mono ?_
  rintro e w' ⟨rfl, H4⟩
  have HE4 := Lib.hid (HE.out.err.below H4.b)
  have HB4 := Lib.hid (HE.out.below.trans (H4.b.mono HE.out.below.size))
  have HH4 := Lib.hid H4.rebase
  clear H4
  go_wp2_with fail
  refine (given_ok HH4.out A1 k1 c1 a (by simp) b1).mono ?_
  rintro r w5 ⟨A5, k5, c5, n5, rfl, hn5, b5, H5⟩
  obtain rfl : n5 = a := hn5.out
  have hb5 := H5.b
  have hE5 : ECell w5 w.heap.size 0 := (HE4.out).below hb5
  have c5' := cell_of_one hE5
  have z5' := free_of_one hE5
  have l5' := lt_of_block hE5
  have HE5 := Lib.hid hE5
  have HH5 := Lib.hid H5
  clear hE5 H5 hb5
  go_wp2_with fail
  refine leaves_cons (f := 66) (args := #[.pointer (some ⟨w.heap.size, 0, none⟩)]) (by simp) (by simp [go_sem]) ?_
  refine (caught_idle _ _).mono ?_
  rintro r u' w'' ⟨rfl, rfl, rfl⟩
  have hc := HE5.out.set 0
  have hh : Has w w5 [(A5, k5, c5, n5)] := ⟨(HB4.out).trans (HH5.out.b.mono (HB4.out).size), fun p hp => HH5.out.r p (by
    obtain rfl := List.mem_singleton.1 hp; simp)⟩
  --HH
  exact ⟨.tuple #[.slice A5 k5 c5, .int .i64 0], by simp [results, Tryz.results22, go_sem, hc], A5, k5, c5, rfl, b5, hh.setE HE5.out (Nat.le_refl _) _⟩
set_option maxRecDepth 10000 in
set_option maxHeartbeats 1000000 in
theorem Pow_limit1 (H : Has w0 w l) (A1 : Option Addr) (k1 c1 a : Nat) (n : Int) (h1 : (A1, k1, c1, a) ∈ l) (b1 : k1 ≤ 1024) (hn : 32768 < n) (ha : 2 ≤ a) :
    Calls Tryz.prog 22 #[.slice A1 k1 c1, .int .i64 n] w (Gives w 2 0) := by
  obtain ⟨r1, e1, p1, q1⟩ := H.at h1
  have hE := Entry1.new w A1 k1 c1 (dg a) r1 e1 (by omega)
  obtain ⟨w3, hw3⟩ : ∃ w3, ((w.alloc (.cells #[.int .i64 0] 26)).alloc (.cells #[.slice A1 k1 c1] 23)) = w3 := ⟨_, rfl⟩
  rw [hw3] at hE
  have HE := Lib.hid hE
  have hany := Lib.hid (any_one_good (A1 := A1) (k1 := k1) (c1 := c1) (valid_dg a (by omega)))
  have HH3 := Lib.hid ((H.just h1).below hE.below)
  have hd : decide (0 ≤ n) = true := decide_eq_true (by omega)
  have hd1 : decide (0 < n) = true := decide_eq_true (by omega)
  obtain ⟨r, hr⟩ : ∃ r, cmpI a 1 = r := ⟨_, rfl⟩
  have hrc : decide (r ≤ 0) = false := by
    rw [← hr]; unfold cmpI
    rw [if_neg (by omega), if_pos (by omega)]; rfl
  have HR := Lib.hid hr
  have hd2 : decide (n ≤ 32768) = false := decide_eq_false (by omega)
  have HO := Lib.hid (HH3.out.rebase.one 1 (by decide) (by decide))
  clear hE r1 e1 H h1 hr
  go_enter_defers Tryz.func22, Tryz.ntmps22
  go_wp2_with fail
  refine (taken_yes _ _ _ _ w3 HE.out.lists (by omega) hany).mono ?_
  rintro r w1 ⟨rfl, rfl⟩
  go_wp2_with fail
  refine (need_ok _ _).mono ?_
  rintro e w' ⟨rfl, rfl⟩
  go_wp2_with fail
  refine (cmp_h HO.out A1 k1 c1 a _ 1 1 1 (by simp) (by simp) (by omega) (by omega) _ HR).mono ?_
  rintro e w' ⟨rfl, H4⟩
  have HE4 := Lib.hid (HE.out.err.below H4.b)
  have HB4 := Lib.hid (HE.out.below.trans (H4.b.mono HE.out.below.size))
  clear H4
  go_wp2_with fail
  refine (need_no _ _).mono ?_
  rintro e w' ⟨rfl, rfl⟩
  refine leaves_cons (f := 66) (args := #[.pointer (some ⟨w.heap.size, 0, none⟩)]) (by simp) (by simp [go_sem]) ?_
  refine (caught_fail w.heap.size 2 0 _ HE4.out).mono ?_
  rintro r u' w'' ⟨rfl, rfl, rfl⟩
  have hc := (HE4.out).setA 2 (.cells #[.int .i64 2] 122)
  have hb := below_setA (HB4.out) (Nat.le_refl _) (.int .i64 2) (.cells #[.int .i64 2] 122)
  exact ⟨.tuple #[.slice none 0 0, .int .i64 2], by simp [results, Tryz.results22, go_sem, hc], Gives.nil 2 hb⟩
set_option maxRecDepth 10000 in
set_option maxHeartbeats 1000000 in
theorem Pow_limit2 (H : Has w0 w l) (A1 : Option Addr) (k1 c1 a : Nat) (n : Int) (h1 : (A1, k1, c1, a) ∈ l) (b1 : k1 ≤ 1024) (hn0 : 0 < n) (hn : n ≤ 32768) (ha : 2 ≤ a) (t P : Int) (ht : (bl a : Int) - 1 = t) (hP : wrap64 (t * n) = P) (hlt : ¬ P < 32768) :
    Calls Tryz.prog 22 #[.slice A1 k1 c1, .int .i64 n] w (Gives w 2 0) := by
  obtain ⟨r1, e1, p1, q1⟩ := H.at h1
  have hE := Entry1.new w A1 k1 c1 (dg a) r1 e1 (by omega)
  obtain ⟨w3, hw3⟩ : ∃ w3, ((w.alloc (.cells #[.int .i64 0] 26)).alloc (.cells #[.slice A1 k1 c1] 23)) = w3 := ⟨_, rfl⟩
  rw [hw3] at hE
  have HE := Lib.hid hE
  have hany := Lib.hid (any_one_good (A1 := A1) (k1 := k1) (c1 := c1) (valid_dg a (by omega)))
  have HH3 := Lib.hid ((H.just h1).below hE.below)
  have hd : decide (0 ≤ n) = true := decide_eq_true (by omega)
  have hd1 : decide (0 < n) = true := decide_eq_true (by omega)
  obtain ⟨r, hr⟩ : ∃ r, cmpI a 1 = r := ⟨_, rfl⟩
  have hrc : decide (r ≤ 0) = false := by
    rw [← hr]; unfold cmpI
    rw [if_neg (by omega), if_pos (by omega)]; rfl
  have HR := Lib.hid hr
  have hd2 : decide (n ≤ 32768) = true := decide_eq_true (by omega)
  have hd3 : decide (P < 32768) = false := decide_eq_false hlt
  have HO := Lib.hid (HH3.out.rebase.one 1 (by decide) (by decide))
  have hbl : bl a ≤ 32768 := Nat.le_trans (bl_len a) (by omega)
  clear hE r1 e1 H h1 hr
  go_enter_defers Tryz.func22, Tryz.ntmps22
  go_wp2_with fail
  refine (taken_yes _ _ _ _ w3 HE.out.lists (by omega) hany).mono ?_
  rintro r w1 ⟨rfl, rfl⟩
  go_wp2_with fail
  refine (need_ok _ _).mono ?_
  rintro e w' ⟨rfl, rfl⟩
  go_wp2_with fail
  refine (cmp_h HO.out A1 k1 c1 a _ 1 1 1 (by simp) (by simp) (by omega) (by omega) _ HR).mono ?_
  rintro e w' ⟨rfl, H4⟩
  have HE4 := Lib.hid (HE.out.err.below H4.b)
  have HB4 := Lib.hid (HE.out.below.trans (H4.b.mono HE.out.below.size))
  have HH4 := Lib.hid H4.rebase
  clear H4
  go_wp2_with fail
  refine (size_h HH4.out A1 k1 c1 a (by simp) (by omega)).mono ?_
  rintro e w' ⟨rfl, rfl⟩
  go_wp2_with fail
  refine (need_no _ _).mono ?_
  rintro e w' ⟨rfl, rfl⟩
  refine leaves_cons (f := 66) (args := #[.pointer (some ⟨w.heap.size, 0, none⟩)]) (by simp) (by simp [go_sem]) ?_
  refine (caught_fail w.heap.size 2 0 _ HE4.out).mono ?_
  rintro r u' w'' ⟨rfl, rfl, rfl⟩
  have hc := (HE4.out).setA 2 (.cells #[.int .i64 2] 122)
  have hb := below_setA (HB4.out) (Nat.le_refl _) (.int .i64 2) (.cells #[.int .i64 2] 122)
  exact ⟨.tuple #[.slice none 0 0, .int .i64 2], by simp [results, Tryz.results22, go_sem, hc], Gives.nil 2 hb⟩
set_option maxRecDepth 10000 in
set_option maxHeartbeats 1000000 in
theorem Pow_zero (H : Has w0 w l) (A1 : Option Addr) (k1 c1 a : Nat) (h1 : (A1, k1, c1, a) ∈ l) (b1 : k1 ≤ 1024) (x : Int) (m : Nat) (hx : giv (a ^ 0) = (x, m)) :
    Calls Tryz.prog 22 #[.slice A1 k1 c1, .int .i64 0] w (Gives w x m) := by
  obtain ⟨r1, e1, p1, q1⟩ := H.at h1
  have hE := Entry1.new w A1 k1 c1 (dg a) r1 e1 (by omega)
  obtain ⟨w3, hw3⟩ : ∃ w3, ((w.alloc (.cells #[.int .i64 0] 26)).alloc (.cells #[.slice A1 k1 c1] 23)) = w3 := ⟨_, rfl⟩
  rw [hw3] at hE
  have HE := Lib.hid hE
  have hany := Lib.hid (any_one_good (A1 := A1) (k1 := k1) (c1 := c1) (valid_dg a (by omega)))
  have HH3 := Lib.hid ((H.just h1).below hE.below)
  have hsm : (bl a - 1) * 0 < 32768 := by rw [Nat.mul_zero]; decide
  have HX := Lib.hid hx
  have hpw := pow_small_len hsm (m := 0) (by omega)
  have HPW : Hid (∀ j, j ≤ 0 → (dg (a ^ j)).length ≤ 268435456) := Lib.hid (fun j hj => Nat.le_trans (hpw j hj) (by decide))
  obtain ⟨lp, hlp⟩ : ∃ lp, (dg (a ^ 0)).length = lp := ⟨_, rfl⟩
  have hlp2 : lp ≤ 2048 := by rw [← hlp]; exact hpw 0 (Nat.le_refl _)
  have HLP := Lib.hid hlp
  have hbl : bl a ≤ 32768 := Nat.le_trans (bl_len a) (by omega)
  have hP : wrap64 (((bl a : Int) - 1) * 0) = 0 := by simp [wrap64]
  have HE4 := Lib.hid HE.out.err
  have HB4 := Lib.hid HE.out.below
  have HH4 := Lib.hid HH3.out.rebase
  clear hE r1 e1 H h1 hx hpw hlp hsm
  go_enter_defers Tryz.func22, Tryz.ntmps22
  go_wp2_with fail
  refine (taken_yes _ _ _ _ w3 HE.out.lists (by omega) hany).mono ?_
  rintro r w1 ⟨rfl, rfl⟩
  go_wp2_with fail
  refine (need_ok _ _).mono ?_
  rintro e w' ⟨rfl, rfl⟩
  go_wp2_with fail
  refine (size_h HH4.out A1 k1 c1 a (by simp) (by omega)).mono ?_
  rintro e w' ⟨rfl, rfl⟩
  go_wp2_with fail
  refine (need_ok _ _).mono ?_
  rintro e w' ⟨rfl, rfl⟩
  go_wp2_with fail
  refine (pow_h HH4.out A1 k1 c1 a 0 (by simp) (by omega) (by omega) HPW.out).mono ?_
  rintro e w4 ⟨A4, k4, c4, n4, rfl, hn4, b4, H4⟩
  rw [HLP.out] at b4
  have HX2 := HX.out
  rw [← hn4.out] at HX2
  have hl4 := H4.len (A := A4) (k := k4) (c := c4) (n := n4) (by simp)
  have HE5 := Lib.hid (HE4.out.below H4.b)
  have HB5 := Lib.hid (HB4.out.trans (H4.b.mono HB4.out.size))
  have HH5 := Lib.hid H4.rebase
  by_cases hk : k4 ≤ 1024
  · rw [giv_ok (by omega)] at HX2
    injection HX2 with hx hm
    subst hx hm
    clear hl4 H4
    go_wp2_with fail
    refine (given_ok HH5.out A4 k4 c4 n4 (by simp) hk).mono ?_
    rintro r w5 ⟨A5, k5, c5, n5, rfl, hn5, b5, H5⟩
    obtain rfl : n5 = n4 := hn5.out
    have hb5 := H5.b
    have hE5 : ECell w5 w.heap.size 0 := (HE5.out).below hb5
    have c5' := cell_of_one hE5
    have z5' := free_of_one hE5
    have l5' := lt_of_block hE5
    have HE5 := Lib.hid hE5
    have HH5 := Lib.hid H5
    clear hE5 H5 hb5
    go_wp2_with fail
    refine leaves_cons (f := 66) (args := #[.pointer (some ⟨w.heap.size, 0, none⟩)]) (by simp) (by simp [go_sem]) ?_
    refine (caught_idle _ _).mono ?_
    rintro r u' w'' ⟨rfl, rfl, rfl⟩
    have hc := HE5.out.set 0
    have hh : Has w w5 [(A5, k5, c5, n5)] := ⟨(HB5.out).trans (HH5.out.b.mono (HB5.out).size), fun p hp => HH5.out.r p (by
      obtain rfl := List.mem_singleton.1 hp; simp)⟩
    --HH
    exact ⟨.tuple #[.slice A5 k5 c5, .int .i64 0], by simp [results, Tryz.results22, go_sem, hc], A5, k5, c5, rfl, b5, hh.setE HE5.out (Nat.le_refl _) _⟩
  · rw [giv_no (by omega)] at HX2
    injection HX2 with hx hm
    subst hx hm
    clear hl4 H4
    go_wp2_with fail
    refine (given_no A4 k4 c4 w4 (by omega) (by omega)).mono ?_
    rintro r w5 ⟨rfl, rfl⟩
    refine leaves_cons (f := 66) (args := #[.pointer (some ⟨w.heap.size, 0, none⟩)]) (by simp) (by simp [go_sem]) ?_
    refine (caught_fail w.heap.size 2 0 _ HE5.out).mono ?_
    rintro r u' w'' ⟨rfl, rfl, rfl⟩
    have hc := (HE5.out).setA 2 (.cells #[.int .i64 2] 122)
    have hb := below_setA (HB5.out) (Nat.le_refl _) (.int .i64 2) (.cells #[.int .i64 2] 122)
    exact ⟨.tuple #[.slice none 0 0, .int .i64 2], by simp [results, Tryz.results22, go_sem, hc], Gives.nil 2 hb⟩
set_option maxRecDepth 10000 in
set_option maxHeartbeats 1000000 in
theorem Pow_some (H : Has w0 w l) (A1 : Option Addr) (k1 c1 a : Nat) (n : Nat) (h1 : (A1, k1, c1, a) ∈ l) (b1 : k1 ≤ 1024) (hn0 : 0 < n) (hn : n ≤ 32768) (ha : 2 ≤ a) (hsm : (bl a - 1) * n < 32768) (x : Int) (m : Nat) (hx : giv (a ^ n) = (x, m)) :
    Calls Tryz.prog 22 #[.slice A1 k1 c1, .int .i64 n] w (Gives w x m) := by
  obtain ⟨r1, e1, p1, q1⟩ := H.at h1
  have hE := Entry1.new w A1 k1 c1 (dg a) r1 e1 (by omega)
  obtain ⟨w3, hw3⟩ : ∃ w3, ((w.alloc (.cells #[.int .i64 0] 26)).alloc (.cells #[.slice A1 k1 c1] 23)) = w3 := ⟨_, rfl⟩
  rw [hw3] at hE
  have HE := Lib.hid hE
  have hany := Lib.hid (any_one_good (A1 := A1) (k1 := k1) (c1 := c1) (valid_dg a (by omega)))
  have HH3 := Lib.hid ((H.just h1).below hE.below)
  have HX := Lib.hid hx
  have hpw := pow_small_len hsm (m := n) (by omega)
  have HPW : Hid (∀ j, j ≤ n → (dg (a ^ j)).length ≤ 268435456) := Lib.hid (fun j hj => Nat.le_trans (hpw j hj) (by decide))
  obtain ⟨lp, hlp⟩ : ∃ lp, (dg (a ^ n)).length = lp := ⟨_, rfl⟩
  have hlp2 : lp ≤ 2048 := by rw [← hlp]; exact hpw n (Nat.le_refl _)
  have HLP := Lib.hid hlp
  have hbl : bl a ≤ 32768 := Nat.le_trans (bl_len a) (by omega)
  have hd : decide (0 ≤ (n : Int)) = true := decide_eq_true (by omega)
  have hd1 : decide (0 < (n : Int)) = true := decide_eq_true (by omega)
  obtain ⟨r, hr⟩ : ∃ r, cmpI a 1 = r := ⟨_, rfl⟩
  have hrc : decide (r ≤ 0) = false := by
    rw [← hr]; unfold cmpI
    rw [if_neg (by omega), if_pos (by omega)]; rfl
  have HR := Lib.hid hr
  have hd2 : decide ((n : Int) ≤ 32768) = true := decide_eq_true (by omega)
  have hbl2 := bl_two ha
  obtain ⟨t, ht⟩ : ∃ t : Nat, (bl a : Int) - 1 = t := ⟨bl a - 1, by omega⟩
  obtain ⟨P, hPn⟩ : ∃ P : Nat, t * n = P := ⟨_, rfl⟩
  have hPlt : P < 32768 := by rw [← hPn, show t = bl a - 1 by omega]; exact hsm
  have hP : wrap64 ((t : Int) * n) = P := by rw [← Int.natCast_mul, hPn]; unfold wrap64; omega
  have hd3 : decide ((P : Int) < 32768) = true := decide_eq_true (Int.ofNat_lt.2 hPlt)
  have HO := Lib.hid (HH3.out.rebase.one 1 (by decide) (by decide))
  clear hE r1 e1 H h1 hx hpw hlp hsm hr hPn
  go_enter_defers Tryz.func22, Tryz.ntmps22
  go_wp2_with fail
  refine (taken_yes _ _ _ _ w3 HE.out.lists (by omega) hany).mono ?_
  rintro r w1 ⟨rfl, rfl⟩
  go_wp2_with fail
  refine (need_ok _ _).mono ?_
  rintro e w' ⟨rfl, rfl⟩
  go_wp2_with fail
  refine (cmp_h HO.out A1 k1 c1 a _ 1 1 1 (by simp) (by simp) (by omega) (by omega) _ HR).mono ?_
  rintro e w' ⟨rfl, H4⟩
  have HE4 := Lib.hid (HE.out.err.below H4.b)
  have HB4 := Lib.hid (HE.out.below.trans (H4.b.mono HE.out.below.size))
  have HH4 := Lib.hid H4.rebase
  clear H4
  go_wp2_with fail
  refine (size_h HH4.out A1 k1 c1 a (by simp) (by omega)).mono ?_
  rintro e w' ⟨rfl, rfl⟩
  go_wp2_with fail
  refine (need_ok _ _).mono ?_
  rintro e w' ⟨rfl, rfl⟩
  go_wp2_with fail
  refine (pow_h HH4.out A1 k1 c1 a n (by simp) (by omega) (by omega) HPW.out).mono ?_
  rintro e w4 ⟨A4, k4, c4, n4, rfl, hn4, b4, H4⟩
  rw [HLP.out] at b4
  have HX2 := HX.out
  rw [← hn4.out] at HX2
  have hl4 := H4.len (A := A4) (k := k4) (c := c4) (n := n4) (by simp)
  have HE5 := Lib.hid (HE4.out.below H4.b)
  have HB5 := Lib.hid (HB4.out.trans (H4.b.mono HB4.out.size))
  have HH5 := Lib.hid H4.rebase
  by_cases hk : k4 ≤ 1024
  · rw [giv_ok (by omega)] at HX2
    injection HX2 with hx hm
    subst hx hm
    clear hl4 H4
    go_wp2_with fail
    refine (given_ok HH5.out A4 k4 c4 n4 (by simp) hk).mono ?_
    rintro r w5 ⟨A5, k5, c5, n5, rfl, hn5, b5, H5⟩
    obtain rfl : n5 = n4 := hn5.out
    have hb5 := H5.b
    have hE5 : ECell w5 w.heap.size 0 := (HE5.out).below hb5
    have c5' := cell_of_one hE5
    have z5' := free_of_one hE5
    have l5' := lt_of_block hE5
    have HE5 := Lib.hid hE5
    have HH5 := Lib.hid H5
    clear hE5 H5 hb5
    go_wp2_with fail
    refine leaves_cons (f := 66) (args := #[.pointer (some ⟨w.heap.size, 0, none⟩)]) (by simp) (by simp [go_sem]) ?_
    refine (caught_idle _ _).mono ?_
    rintro r u' w'' ⟨rfl, rfl, rfl⟩
    have hc := HE5.out.set 0
    have hh : Has w w5 [(A5, k5, c5, n5)] := ⟨(HB5.out).trans (HH5.out.b.mono (HB5.out).size), fun p hp => HH5.out.r p (by
      obtain rfl := List.mem_singleton.1 hp; simp)⟩
    --HH
    exact ⟨.tuple #[.slice A5 k5 c5, .int .i64 0], by simp [results, Tryz.results22, go_sem, hc], A5, k5, c5, rfl, b5, hh.setE HE5.out (Nat.le_refl _) _⟩
  · rw [giv_no (by omega)] at HX2
    injection HX2 with hx hm
    subst hx hm
    clear hl4 H4
    go_wp2_with fail
    refine (given_no A4 k4 c4 w4 (by omega) (by omega)).mono ?_
    rintro r w5 ⟨rfl, rfl⟩
    refine leaves_cons (f := 66) (args := #[.pointer (some ⟨w.heap.size, 0, none⟩)]) (by simp) (by simp [go_sem]) ?_
    refine (caught_fail w.heap.size 2 0 _ HE5.out).mono ?_
    rintro r u' w'' ⟨rfl, rfl, rfl⟩
    have hc := (HE5.out).setA 2 (.cells #[.int .i64 2] 122)
    have hb := below_setA (HB5.out) (Nat.le_refl _) (.int .i64 2) (.cells #[.int .i64 2] 122)
    exact ⟨.tuple #[.slice none 0 0, .int .i64 2], by simp [results, Tryz.results22, go_sem, hc], Gives.nil 2 hb⟩
theorem Pow_x (H : Has w0 w l) (A1 : Option Addr) (k1 c1 a : Nat) (n : Int) (h1 : (A1, k1, c1, a) ∈ l) (b1 : k1 ≤ 1024) (x : Int) (m : Nat) (hx : Hid (powO a n = (x, m))) :
    Calls Tryz.prog 22 #[.slice A1 k1 c1, .int .i64 n] w (Gave w0 l x m) := by
  refine Calls.mono (R := Gives w x m) ?_ (fun e w' h => h.gave H)
  have hx := hx.out
  have e1 := H.len h1
  unfold powO at hx
  by_cases hn : n < 0
  · rw [if_pos hn] at hx
    injection hx with hx hm
    subst hx hm
    exact Pow_neg H A1 k1 c1 a n h1 b1 hn
  · rw [if_neg hn] at hx
    obtain ⟨N, rfl⟩ := Int.eq_ofNat_of_zero_le (show 0 ≤ n by omega)
    rw [Int.toNat_natCast] at hx
    by_cases hz : N = 0
    · subst hz
      exact Pow_zero H A1 k1 c1 a h1 b1 x m hx
    · by_cases ha : a ≤ 1
      · rw [pow_le_one ha (by omega), giv_ok (by omega)] at hx
        injection hx with hx hm
        subst hx hm
        exact Pow_small H A1 k1 c1 a N h1 b1 (by omega) ha
      · by_cases hN : N ≤ 32768
        · by_cases hs : (bl a - 1) * N < 32768
          · exact Pow_some H A1 k1 c1 a N h1 b1 (by omega) hN (by omega) hs x m hx
          · rw [pow_great (by omega) rfl (Nat.le_of_not_lt hs)] at hx
            injection hx with hx hm
            subst hx hm
            have h2 := bl_two (a := a) (by omega)
            have hbl : bl a ≤ 32768 := Nat.le_trans (bl_len a) (by omega)
            have hmul : (bl a - 1) * N ≤ 32768 * 32768 := Nat.mul_le_mul (by omega) hN
            obtain ⟨P, hP⟩ : ∃ P, (bl a - 1) * N = P := ⟨_, rfl⟩
            rw [hP] at hs hmul
            refine Pow_limit2 H A1 k1 c1 a N h1 b1 (by omega) (by omega) (by omega) ((bl a - 1 : Nat) : Int) P (by omega) ?_ (by omega)
            rw [← Int.natCast_mul, hP]; unfold wrap64; omega
        · rw [pow_huge (by omega) (by omega)] at hx
          injection hx with hx hm
          subst hx hm
          exact Pow_limit1 H A1 k1 c1 a N h1 b1 (by omega) (by omega)
end Go.Proofs.YtfcfejlffmddnaaGreatDoor
end
