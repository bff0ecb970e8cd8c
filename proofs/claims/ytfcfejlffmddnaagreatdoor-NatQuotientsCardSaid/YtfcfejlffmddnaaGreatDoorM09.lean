/- Package nat, its reference and its laws' helpers, part 9 (NCM NCN NCO). -/
import Derived.Shelf.Spec.TrailingZeros
import Derived.Lib.LaidTab
import Derived.Test.YtfcfejlffmddnaaGreatDoorM08
section
/- Contracts: the exported Root. -/
namespace Go.Proofs.YtfcfejlffmddnaaGreatDoor
open Go.RowKit
set_option linter.unusedSimpArgs false
set_option linter.unusedVariables false

variable {w0 w : World} {l : List (Option Addr × Nat × Nat × Nat)}
theorem root_unique {a n r s : Nat} (hr : r ^ n ≤ a ∧ a < (r + 1) ^ n) (hs : s ^ n ≤ a ∧ a < (s + 1) ^ n) : r = s := by
  have key : ∀ r s : Nat, r ^ n ≤ a → a < (s + 1) ^ n → r ≤ s := fun r s h1 h2 => by
    rcases Nat.lt_or_ge s r with h | h
    · have := Nat.pow_le_pow_left (show s + 1 ≤ r from h) n
      omega
    · exact h
  have h1 := key r s hr.1 hs.2
  have h2 := key s r hs.1 hr.2
  omega
theorem root_le {a n r : Nat} (hn : 1 ≤ n) (hr : r ^ n ≤ a) : r ≤ a := by
  rcases Nat.eq_zero_or_pos r with h | h
  · omega
  · exact Nat.le_trans (by have := Nat.pow_le_pow_right h hn; rwa [Nat.pow_one] at this) hr
theorem root_exp {a n r : Nat} (h2 : 2 ≤ r) (hr : r ^ n ≤ a) : n ≤ bl a := by
  have h1 := Nat.pow_le_pow_left h2 n
  have h3 := bl_lt a
  rcases Nat.lt_or_ge (bl a) n with h | h
  · have := Nat.pow_le_pow_right (show 0 < 2 by decide) (Nat.le_of_lt h)
    omega
  · exact h
/-- The post of Root. -/
def RootGives (w : World) (a n : Nat) (e : Ending) (w' : World) : Prop := ∃ r, Hid (r ^ n ≤ a ∧ a < (r + 1) ^ n) ∧ Gives2 w 0 r (a - r ^ n) e w'
set_option maxRecDepth 10000 in
set_option maxHeartbeats 1000000 in
theorem Root_bad (A1 : Option Addr) (k1 c1 : Nat) (g1 : List Int) (n : Int) (w : World) (r1 : Rd .u32 w A1 g1) (e1 : g1.length = k1) (b1 : k1 ≤ 9223372036854775807) (hv : Hid (validB g1 = false)) :
    Calls Tryz.prog 33 #[.slice A1 k1 c1, .int .i64 n] w (Gives2 w 1 0 0) := by
  have hE := Entry1.new w A1 k1 c1 g1 r1 e1 b1
  obtain ⟨w3, hw3⟩ : ∃ w3, ((w.alloc (.cells #[.int .i64 0] 26)).alloc (.cells #[.slice A1 k1 c1] 23)) = w3 := ⟨_, rfl⟩
  rw [hw3] at hE
  have HE := Lib.hid hE
  have hany := Lib.hid (any_one_bad (A1 := A1) (k1 := k1) (c1 := c1) hv.out)
  clear hE r1 e1 b1
  go_enter_defers Tryz.func33, Tryz.ntmps33
  go_wp2_with fail
  refine (taken_no _ _ _ _ w3 HE.out.lists (by omega) hany).mono ?_
  rintro r w1 ⟨rfl, rfl⟩
  refine leaves_cons (f := 66) (args := #[.pointer (some ⟨w.heap.size, 0, none⟩)]) (by simp) (by simp [go_sem]) ?_
  refine (caught_fail w.heap.size 1 0 _ HE.out.err).mono ?_
  rintro r u' w'' ⟨rfl, rfl, rfl⟩
  have hc := (HE.out.err).setA 1 (.cells #[.int .i64 1] 122)
  have hb := below_setA (HE.out.below) (Nat.le_refl _) (.int .i64 1) (.cells #[.int .i64 1] 122)
  exact ⟨.tuple #[.slice none 0 0, .slice none 0 0, .int .i64 1], by simp [results, Tryz.results33, go_sem, hc], Gives2.nil 1 hb⟩
set_option maxRecDepth 10000 in
set_option maxHeartbeats 1000000 in
theorem Root_neg (H : Has w0 w l) (A1 : Option Addr) (k1 c1 a : Nat) (n : Int) (h1 : (A1, k1, c1, a) ∈ l) (b1 : k1 ≤ 1024) (hn : n < 1) :
    Calls Tryz.prog 33 #[.slice A1 k1 c1, .int .i64 n] w (Gives2 w 1 0 0) := by
  obtain ⟨r1, e1, p1, q1⟩ := H.at h1
  have hE := Entry1.new w A1 k1 c1 (dg a) r1 e1 (by omega)
  obtain ⟨w3, hw3⟩ : ∃ w3, ((w.alloc (.cells #[.int .i64 0] 26)).alloc (.cells #[.slice A1 k1 c1] 23)) = w3 := ⟨_, rfl⟩
  rw [hw3] at hE
  have HE := Lib.hid hE
  have hany := Lib.hid (any_one_good (A1 := A1) (k1 := k1) (c1 := c1) (valid_dg a (by omega)))
  have HH3 := Lib.hid ((H.just h1).below hE.below)
  have hd : decide (1 ≤ n) = false := decide_eq_false (by omega)
  clear hE r1 e1 H h1
  go_enter_defers Tryz.func33, Tryz.ntmps33
  go_wp2_with fail
  refine (taken_yes _ _ _ _ w3 HE.out.lists (by omega) hany).mono ?_
  rintro r w1 ⟨rfl, rfl⟩
  go_wp2_with fail
  refine (need_no _ _).mono ?_
  rintro e w' ⟨rfl, rfl⟩
  refine leaves_cons (f := 66) (args := #[.pointer (some ⟨w.heap.size, 0, none⟩)]) (by simp) (by simp [go_sem]) ?_
  refine (caught_fail w.heap.size 1 0 _ HE.out.err).mono ?_
  rintro r u' w'' ⟨rfl, rfl, rfl⟩
  have hc := (HE.out.err).setA 1 (.cells #[.int .i64 1] 122)
  have hb := below_setA (HE.out.below) (Nat.le_refl _) (.int .i64 1) (.cells #[.int .i64 1] 122)
  exact ⟨.tuple #[.slice none 0 0, .slice none 0 0, .int .i64 1], by simp [results, Tryz.results33, go_sem, hc], Gives2.nil 1 hb⟩
set_option maxRecDepth 10000 in
set_option maxHeartbeats 1000000 in
theorem Root_some (H : Has w0 w l) (A1 : Option Addr) (k1 c1 a : Nat) (n : Nat) (h1 : (A1, k1, c1, a) ∈ l) (b1 : k1 ≤ 1024) (hn : 1 ≤ n) (hnb : n ≤ 9223372036854775807) :
    Calls Tryz.prog 33 #[.slice A1 k1 c1, .int .i64 n] w (RootGives w a n) := by
  obtain ⟨r1, e1, p1, q1⟩ := H.at h1
  have hE := Entry1.new w A1 k1 c1 (dg a) r1 e1 (by omega)
  obtain ⟨w3, hw3⟩ : ∃ w3, ((w.alloc (.cells #[.int .i64 0] 26)).alloc (.cells #[.slice A1 k1 c1] 23)) = w3 := ⟨_, rfl⟩
  rw [hw3] at hE
  have HE := Lib.hid hE
  have hany := Lib.hid (any_one_good (A1 := A1) (k1 := k1) (c1 := c1) (valid_dg a (by omega)))
  have HH3 := Lib.hid ((H.just h1).below hE.below)
  have hd : decide (1 ≤ (n : Int)) = true := decide_eq_true (by omega)
  have hla : ∀ x, x ≤ a → (dg x).length ≤ k1 := fun x hx => by rw [← e1]; exact len_mono hx
  have hbl : bl a ≤ 32768 := Nat.le_trans (bl_len a) (by omega)
  have HLA := Lib.hid hla
  have HBL := Lib.hid hbl
  clear hE r1 e1 H h1 hla hbl
  go_enter_defers Tryz.func33, Tryz.ntmps33
  go_wp2_with fail
  refine (taken_yes _ _ _ _ w3 HE.out.lists (by omega) hany).mono ?_
  rintro r w1 ⟨rfl, rfl⟩
  go_wp2_with fail
  refine (need_ok _ _).mono ?_
  rintro e w' ⟨rfl, rfl⟩
  go_wp2_with fail
  refine (root_h HH3.out.rebase A1 k1 c1 a n (by simp) hn hnb (by omega)).mono ?_
  rintro e w4 ⟨r0, HRT, A4, k4, c4, r4, rfl, hr4, b4, H4⟩
  obtain rfl : r4 = r0 := hr4.out
  have b4' : k4 ≤ 1024 := by
    rw [← H4.len (A := A4) (k := k4) (c := c4) (n := r4) (by simp)]
    exact Nat.le_trans (HLA.out _ (root_le hn HRT.out.1)) b1
  have HE4 := Lib.hid (HE.out.err.below H4.b)
  have HB4 := Lib.hid (HE.out.below.trans (H4.b.mono HE.out.below.size))
  have HH4 := Lib.hid H4.rebase
  clear H4 hr4
  rcases Nat.lt_or_ge 1 n with hn1 | hn1
  · have hd1 : decide (1 < (n : Int)) = true := decide_eq_true (by omega)
    have HO := Lib.hid (HH4.out.one 1 (by decide) (by decide))
    obtain ⟨r, hr⟩ : ∃ r, cmpI r4 1 = r := ⟨_, rfl⟩
    by_cases hx1 : r4 ≤ 1
    · have hrc : decide (r ≤ 0) = true := by
        rw [← hr]; unfold cmpI
        rcases Nat.le_one_iff_eq_zero_or_eq_one.1 hx1 with h | h <;> subst h <;> rfl
      have HR := Lib.hid hr
      have hpe := pow_le_one (m := n) hx1 (by omega)
      have hle := root_le hn HRT.out.1
      have HPE := Lib.hid hpe
      have HLE := Lib.hid hle
      clear hr hpe hle
      go_wp2_with fail
      refine (cmp_h HO.out A4 k4 c4 r4 _ 1 1 1 (by simp) (by simp) (by omega) (by omega) _ HR).mono ?_
      rintro e w' ⟨rfl, H4⟩
      have HE5 := Lib.hid (HE4.out.below H4.b)
      have HB5 := Lib.hid (HB4.out.trans (H4.b.mono HB4.out.size))
      have HH5 := Lib.hid (H4.rebase.keep (l' := [(A4, k4, c4, r4), (A1, k1, c1, a)]) (by
        intro p hp
        simp only [List.mem_cons, List.not_mem_nil, or_false] at hp ⊢
        rcases hp with rfl | rfl <;> simp))
      clear H4
      go_wp2_with fail
      refine (given_ok HH5.out A4 k4 c4 r4 (by simp) b4').mono ?_
      rintro r w5 ⟨A5, k5, c5, n5, rfl, hn5, b5, H6⟩
      obtain rfl : n5 = r4 := hn5.out
      go_wp2_with fail
      refine (sub_h H6 A1 k1 c1 a A4 k4 c4 n5 (by simp) (by simp) (by omega) (by omega) HLE.out).mono ?_
      rintro e w7 ⟨A8, k8, c8, n8, rfl, hn8, b8, H8⟩
      go_wp2_with fail
      refine (given_ok H8 A8 k8 c8 n8 (by simp) (by omega)).mono ?_
      rintro r w8 ⟨A9, k9, c9, n9, rfl, hn9, b9, H5⟩
      have hb5 := H5.b
      have hE5 : ECell w8 w.heap.size 0 := (HE5.out).below hb5
      have c5' := cell_of_one hE5
      have z5' := free_of_one hE5
      have l5' := lt_of_block hE5
      have HE5 := Lib.hid hE5
      have HH5 := Lib.hid H5
      clear hE5 H5 hb5
      go_wp2_with fail
      refine leaves_cons (f := 66) (args := #[.pointer (some ⟨w.heap.size, 0, none⟩)]) (by simp) (by simp [go_sem]) ?_
      refine (caught_idle _ _).mono ?_
      rintro r u' w'' ⟨rfl, rfl, rfl⟩
      have hc := HE5.out.set 0
      have hh : Has w w8 [(A5, k5, c5, n5), (A9, k9, c9, n9)] := ⟨(HB5.out).trans (HH5.out.b.mono (HB5.out).size), fun p hp => HH5.out.r p (by
        simp only [List.mem_cons, List.not_mem_nil, or_false] at hp; rcases hp with rfl | rfl <;> simp)⟩
      --HH
      refine ⟨.tuple #[.slice A5 k5 c5, .slice A9 k9 c9, .int .i64 0], by simp [results, Tryz.results33, go_sem, hc], n5, HRT, A5, k5, c5, A9, k9, c9, rfl, b5, b9, ?_⟩
      rw [HPE.out, ← hn8.out, ← hn9.out]
      exact hh.setE HE5.out (Nat.le_refl _) _
    · have hrc : decide (r ≤ 0) = false := by
        rw [← hr]; unfold cmpI
        rw [if_neg (by omega), if_pos (by omega)]; rfl
      have HR := Lib.hid hr
      have hnx := root_exp (by omega) HRT.out.1
      have hnx2 : n ≤ 32768 := Nat.le_trans hnx HBL.out
      have hpw : ∀ j, j ≤ n → (dg (r4 ^ j)).length ≤ 268435456 := fun j hj => by
        have h1 : r4 ^ j ≤ r4 ^ n := Nat.pow_le_pow_right (by omega) hj
        have := HLA.out _ (Nat.le_trans h1 HRT.out.1)
        omega
      have HPW := Lib.hid hpw
      have HLP : Hid ((dg (r4 ^ n)).length ≤ 1024) := Lib.hid (Nat.le_trans (HLA.out _ HRT.out.1) b1)
      clear hr hnx hpw
      go_wp2_with fail
      refine (cmp_h HO.out A4 k4 c4 r4 _ 1 1 1 (by simp) (by simp) (by omega) (by omega) _ HR).mono ?_
      rintro e w' ⟨rfl, H4⟩
      have HE5 := Lib.hid (HE4.out.below H4.b)
      have HB5 := Lib.hid (HB4.out.trans (H4.b.mono HB4.out.size))
      have HH5 := Lib.hid (H4.rebase.keep (l' := [(A4, k4, c4, r4), (A1, k1, c1, a)]) (by
        intro p hp
        simp only [List.mem_cons, List.not_mem_nil, or_false] at hp ⊢
        rcases hp with rfl | rfl <;> simp))
      clear H4
      go_wp2_with fail
      refine (given_ok HH5.out A4 k4 c4 r4 (by simp) b4').mono ?_
      rintro r w5 ⟨A5, k5, c5, n5, rfl, hn5, b5, H6⟩
      obtain rfl : n5 = r4 := hn5.out
      go_wp2_with fail
      refine (pow_h H6 A4 k4 c4 n5 n (by simp) (by omega) (by omega) HPW.out).mono ?_
      rintro e w6 ⟨A7, k7, c7, n7, rfl, hn7, b7, H7⟩
      go_wp2_with fail
      refine (sub_h H7 A1 k1 c1 a A7 k7 c7 n7 (by simp) (by simp) (by omega) (by have := HLP.out; omega) (by rw [hn7.out]; exact HRT.out.1)).mono ?_
      rintro e w7 ⟨A8, k8, c8, n8, rfl, hn8, b8, H8⟩
      go_wp2_with fail
      refine (given_ok H8 A8 k8 c8 n8 (by simp) (by omega)).mono ?_
      rintro r w8 ⟨A9, k9, c9, n9, rfl, hn9, b9, H5⟩
      have hb5 := H5.b
      have hE5 : ECell w8 w.heap.size 0 := (HE5.out).below hb5
      have c5' := cell_of_one hE5
      have z5' := free_of_one hE5
      have l5' := lt_of_block hE5
      have HE5 := Lib.hid hE5
      have HH5 := Lib.hid H5
      clear hE5 H5 hb5
      go_wp2_with fail
      refine leaves_cons (f := 66) (args := #[.pointer (some ⟨w.heap.size, 0, none⟩)]) (by simp) (by simp [go_sem]) ?_
      refine (caught_idle _ _).mono ?_
      rintro r u' w'' ⟨rfl, rfl, rfl⟩
      have hc := HE5.out.set 0
      have hh : Has w w8 [(A5, k5, c5, n5), (A9, k9, c9, n9)] := ⟨(HB5.out).trans (HH5.out.b.mono (HB5.out).size), fun p hp => HH5.out.r p (by
        simp only [List.mem_cons, List.not_mem_nil, or_false] at hp; rcases hp with rfl | rfl <;> simp)⟩
      --HH
      refine ⟨.tuple #[.slice A5 k5 c5, .slice A9 k9 c9, .int .i64 0], by simp [results, Tryz.results33, go_sem, hc], n5, HRT, A5, k5, c5, A9, k9, c9, rfl, b5, b9, ?_⟩
      rw [← hn7.out, ← hn8.out, ← hn9.out]
      exact hh.setE HE5.out (Nat.le_refl _) _
  · obtain rfl : n = 1 := by omega
    have HE5 := HE4
    have HB5 := HB4
    have HH5 := HH4
    have hpw : ∀ j, j ≤ 1 → (dg (r4 ^ j)).length ≤ 268435456 := fun j hj => by
      rcases Nat.le_one_iff_eq_zero_or_eq_one.1 hj with h | h
      · subst h; rw [Nat.pow_zero, dg_one]; decide
      · subst h
        have := HLA.out _ HRT.out.1
        omega
    have HPW := Lib.hid hpw
    have HLP : Hid ((dg (r4 ^ 1)).length ≤ 1024) := Lib.hid (Nat.le_trans (HLA.out _ HRT.out.1) b1)
    clear hpw
    go_wp2_with fail
    refine (given_ok HH5.out A4 k4 c4 r4 (by simp) b4').mono ?_
    rintro r w5 ⟨A5, k5, c5, n5, rfl, hn5, b5, H6⟩
    obtain rfl : n5 = r4 := hn5.out
    go_wp2_with fail
    refine (pow_h H6 A4 k4 c4 n5 1 (by simp) (by omega) (by omega) HPW.out).mono ?_
    rintro e w6 ⟨A7, k7, c7, n7, rfl, hn7, b7, H7⟩
    go_wp2_with fail
    refine (sub_h H7 A1 k1 c1 a A7 k7 c7 n7 (by simp) (by simp) (by omega) (by have := HLP.out; omega) (by rw [hn7.out]; exact HRT.out.1)).mono ?_
    rintro e w7 ⟨A8, k8, c8, n8, rfl, hn8, b8, H8⟩
    go_wp2_with fail
    refine (given_ok H8 A8 k8 c8 n8 (by simp) (by omega)).mono ?_
    rintro r w8 ⟨A9, k9, c9, n9, rfl, hn9, b9, H5⟩
    have hb5 := H5.b
    have hE5 : ECell w8 w.heap.size 0 := (HE5.out).below hb5
    have c5' := cell_of_one hE5
    have z5' := free_of_one hE5
    have l5' := lt_of_block hE5
    have HE5 := Lib.hid hE5
    have HH5 := Lib.hid H5
    clear hE5 H5 hb5
    go_wp2_with fail
    refine leaves_cons (f := 66) (args := #[.pointer (some ⟨w.heap.size, 0, none⟩)]) (by simp) (by simp [go_sem]) ?_
    refine (caught_idle _ _).mono ?_
    rintro r u' w'' ⟨rfl, rfl, rfl⟩
    have hc := HE5.out.set 0
    have hh : Has w w8 [(A5, k5, c5, n5), (A9, k9, c9, n9)] := ⟨(HB5.out).trans (HH5.out.b.mono (HB5.out).size), fun p hp => HH5.out.r p (by
      simp only [List.mem_cons, List.not_mem_nil, or_false] at hp; rcases hp with rfl | rfl <;> simp)⟩
    --HH
    refine ⟨.tuple #[.slice A5 k5 c5, .slice A9 k9 c9, .int .i64 0], by simp [results, Tryz.results33, go_sem, hc], n5, HRT, A5, k5, c5, A9, k9, c9, rfl, b5, b9, ?_⟩
    rw [← hn7.out, ← hn8.out, ← hn9.out]
    exact hh.setE HE5.out (Nat.le_refl _) _
/-- Between a world and a later one, Root gives. -/
def RootGave (w0 : World) (l : List (Option Addr × Nat × Nat × Nat)) (a n : Nat) (e : Ending) (w' : World) : Prop := ∃ r, Hid (r ^ n ≤ a ∧ a < (r + 1) ^ n) ∧ Gave2 w0 l 0 r (a - r ^ n) e w'
theorem Root_x (H : Has w0 w l) (A1 : Option Addr) (k1 c1 a : Nat) (n : Nat) (h1 : (A1, k1, c1, a) ∈ l) (b1 : k1 ≤ 1024) (hn : 1 ≤ n) (hnb : n ≤ 9223372036854775807) :
    Calls Tryz.prog 33 #[.slice A1 k1 c1, .int .i64 n] w (RootGave w0 l a n) :=
  (Root_some H A1 k1 c1 a n h1 b1 hn hnb).mono (fun e w' ⟨r, hr, hg⟩ => ⟨r, hr, hg.gave H⟩)
end Go.Proofs.YtfcfejlffmddnaaGreatDoor
end
section
/- Contracts: the exported Cmp, FromUint, ToUint, Bits. -/
namespace Go.Proofs.YtfcfejlffmddnaaGreatDoor
open Go.RowKit
set_option linter.unusedSimpArgs false
set_option linter.unusedVariables false

variable {w0 w : World} {l : List (Option Addr × Nat × Nat × Nat)}
/-- The post of a function that gives an integer and an error. -/
def GivesI (w : World) (k : IntKind) (n x : Int) (e : Ending) (w' : World) : Prop := e = .returned (.tuple #[.int k n, .int .i64 x]) ∧ Below w.heap.size w w'
theorem Has.after (H : Has w0 w l) {w' : World} {k : IntKind} {n x : Int} {e : Ending} (h : GivesI w k n x e w') : Has w0 w' l := H.below h.2
set_option maxRecDepth 10000 in
set_option maxHeartbeats 1000000 in
theorem Cmp_bad (A1 : Option Addr) (k1 c1 : Nat) (g1 : List Int) (A2 : Option Addr) (k2 c2 : Nat) (g2 : List Int) (w : World) (r1 : Rd .u32 w A1 g1) (r2 : Rd .u32 w A2 g2) (e1 : g1.length = k1) (e2 : g2.length = k2) (b1 : k1 ≤ 9223372036854775807) (b2 : k2 ≤ 9223372036854775807) (hv : Hid ((validB g1 && validB g2) = false)) :
    Calls Tryz.prog 47 #[.slice A1 k1 c1, .slice A2 k2 c2] w (GivesI w .i64 0 1) := by
  have hE := EntryC.new w A1 k1 c1 g1 A2 k2 c2 g2 r1 r2 e1 e2 b1 b2
  obtain ⟨w3, hw3⟩ : ∃ w3, ((w.alloc (.cells #[.int .i64 0] 26)).alloc (.cells #[.slice A1 k1 c1, .slice A2 k2 c2] 23)) = w3 := ⟨_, rfl⟩
  rw [hw3] at hE
  have HE := Lib.hid hE
  have hany : Hid (([(A1, k1, c1, g1), (A2, k2, c2, g2)].any fun p => !validB p.2.2.2) = true) := Lib.hid (by
    have := hv.out
    simp only [List.any_cons, List.any_nil, Bool.or_false]
    cases h1 : validB g1 <;> cases h2 : validB g2 <;> simp_all)
  clear hE r1 r2 e1 e2
  go_enter_defers Tryz.func47, Tryz.ntmps47
  go_wp2_with fail
  refine (taken_no _ _ _ _ w3 HE.out.lists (by omega) hany).mono ?_
  rintro r w1 ⟨rfl, rfl⟩
  refine leaves_cons (f := 66) (args := #[.pointer (some ⟨w.heap.size, 0, none⟩)]) (by simp) (by simp [go_sem]) ?_
  refine (caught_fail w.heap.size 1 0 _ HE.out.err).mono ?_
  rintro r u' w'' ⟨rfl, rfl, rfl⟩
  have hc := HE.out.err.setA 1 (.cells #[.int .i64 1] 122)
  have hb := below_setA HE.out.below (Nat.le_refl _) (.int .i64 1) (.cells #[.int .i64 1] 122)
  exact ⟨.tuple #[.int .i64 0, .int .i64 1], by simp [results, Tryz.results47, go_sem, hc], rfl, hb⟩
set_option maxRecDepth 10000 in
set_option maxHeartbeats 1000000 in
theorem Cmp_x (H : Has w0 w l) (A1 : Option Addr) (k1 c1 a : Nat) (A2 : Option Addr) (k2 c2 b : Nat) (h1 : (A1, k1, c1, a) ∈ l) (h2 : (A2, k2, c2, b) ∈ l) (b1 : k1 ≤ 1024) (b2 : k2 ≤ 1024) (r : Int) (hr : Hid (cmpI a b = r)) :
    Calls Tryz.prog 47 #[.slice A1 k1 c1, .slice A2 k2 c2] w (GivesI w .i64 r 0) := by
  obtain ⟨r1, e1, p1, q1⟩ := H.at h1
  obtain ⟨r2, e2, p2, q2⟩ := H.at h2
  have hE := EntryC.new w A1 k1 c1 (dg a) A2 k2 c2 (dg b) r1 r2 e1 e2 (by omega) (by omega)
  obtain ⟨w3, hw3⟩ : ∃ w3, ((w.alloc (.cells #[.int .i64 0] 26)).alloc (.cells #[.slice A1 k1 c1, .slice A2 k2 c2] 23)) = w3 := ⟨_, rfl⟩
  rw [hw3] at hE
  have HE := Lib.hid hE
  have hany : Hid (([(A1, k1, c1, dg a), (A2, k2, c2, dg b)].any fun p => !validB p.2.2.2) = false) := Lib.hid (by
    simp [valid_dg a (by omega), valid_dg b (by omega)])
  have HH3 := Lib.hid ((H.two h1 h2).below hE.below)
  clear hE r1 r2 e1 e2 H h1 h2
  go_enter_defers Tryz.func47, Tryz.ntmps47
  go_wp2_with fail
  refine (taken_yes _ _ _ _ w3 HE.out.lists (by omega) hany).mono ?_
  rintro r' w1 ⟨rfl, rfl⟩
  go_wp2_with fail
  refine (cmp_h HH3.out.rebase A1 k1 c1 a A2 k2 c2 b (by simp) (by simp) (by omega) (by omega) r hr).mono ?_
  rintro e w5 ⟨rfl, H5⟩
  have hb5 := H5.b
  have hE5 : ECell w5 w.heap.size 0 := HE.out.err.below hb5
  have c5' := cell_of_one hE5
  have z5' := free_of_one hE5
  have l5' := lt_of_block hE5
  have HE5 := Lib.hid hE5
  have HB5 := Lib.hid hb5
  clear hE5 H5 hb5
  go_wp2_with fail
  refine leaves_cons (f := 66) (args := #[.pointer (some ⟨w.heap.size, 0, none⟩)]) (by simp) (by simp [go_sem]) ?_
  refine (caught_idle _ _).mono ?_
  rintro r' u' w'' ⟨rfl, rfl, rfl⟩
  have hc := HE5.out.set 0
  exact ⟨.tuple #[.int .i64 r, .int .i64 0], by simp [results, Tryz.results47, go_sem, hc], rfl, below_set (HE.out.below.trans (HB5.out.mono HE.out.below.size)) (Nat.le_refl _) _⟩
theorem FromUint_x (H : Has w0 w l) (n : Nat) (hn : n < 18446744073709551616) :
    Calls Tryz.prog 46 #[.int .u64 n] w (Made w0 l n 2) := by
  have HH := Lib.hid H
  clear H
  go_enter Tryz.func46, Tryz.ntmps46
  go_wp2_with fail
  refine (of_h HH.out n (by omega) (by omega)).mono ?_
  rintro e w4 ⟨A7, k7, c7, n7, rfl, hn7, b7, H7⟩
  rw [Int.toNat_natCast] at hn7
  go_wp2_with fail
  go_ret
  exact ⟨A7, k7, c7, n7, rfl, hn7, b7, H7⟩
theorem Bits_bad (A1 : Option Addr) (k1 c1 : Nat) (g1 : List Int) (w : World) (r1 : Rd .u32 w A1 g1) (e1 : g1.length = k1) (b1 : k1 ≤ 9223372036854775807) (hv : Hid (validB g1 = false)) :
    Calls Tryz.prog 55 #[.slice A1 k1 c1] w (GivesI w .i64 0 1) := by
  have HV := Lib.hid (valid_calls A1 c1 k1 g1 w e1 b1 r1 false hv)
  clear r1 e1 b1 hv
  go_enter Tryz.func55, Tryz.ntmps55
  go_wp2_with fail
  refine HV.out.mono ?_
  rintro e w' ⟨rfl, rfl⟩
  go_wp2_with fail
  go_ret2
  exact ⟨rfl, Below.refl _ _⟩
theorem Bits_x (H : Has w0 w l) (A1 : Option Addr) (k1 c1 a : Nat) (h1 : (A1, k1, c1, a) ∈ l) (b1 : k1 ≤ 1024) :
    Calls Tryz.prog 55 #[.slice A1 k1 c1] w (GivesI w .i64 (bl a) 0) := by
  obtain ⟨r1, e1, p1, q1⟩ := H.at h1
  have HV := Lib.hid (valid_calls A1 c1 k1 (dg a) w e1 (by omega) r1 true (Lib.hid (valid_dg a (by omega))))
  have HH := Lib.hid H
  clear r1 e1 H
  go_enter Tryz.func55, Tryz.ntmps55
  go_wp2_with fail
  refine HV.out.mono ?_
  rintro e w' ⟨rfl, rfl⟩
  go_wp2_with fail
  refine (size_h HH.out A1 k1 c1 a h1 (by omega)).mono ?_
  rintro e w' ⟨rfl, rfl⟩
  go_wp2_with fail
  go_ret2
  exact ⟨rfl, Below.refl _ _⟩
theorem ToUint_bad (A1 : Option Addr) (k1 c1 : Nat) (g1 : List Int) (w : World) (r1 : Rd .u32 w A1 g1) (e1 : g1.length = k1) (b1 : k1 ≤ 9223372036854775807) (hv : Hid (validB g1 = false)) :
    Calls Tryz.prog 54 #[.slice A1 k1 c1] w (GivesI w .u64 0 1) := by
  have HV := Lib.hid (valid_calls A1 c1 k1 g1 w e1 b1 r1 false hv)
  clear r1 e1 b1 hv
  go_enter Tryz.func54, Tryz.ntmps54
  go_wp2_with fail
  refine HV.out.mono ?_
  rintro e w' ⟨rfl, rfl⟩
  go_wp2_with fail
  go_ret2
  exact ⟨rfl, Below.refl _ _⟩
theorem ToUint_big (H : Has w0 w l) (A1 : Option Addr) (k1 c1 a : Nat) (h1 : (A1, k1, c1, a) ∈ l) (b1 : k1 ≤ 1024) (hk : 2 < k1) :
    Calls Tryz.prog 54 #[.slice A1 k1 c1] w (GivesI w .u64 0 3) := by
  obtain ⟨r1, e1, p1, q1⟩ := H.at h1
  have HV := Lib.hid (valid_calls A1 c1 k1 (dg a) w e1 (by omega) r1 true (Lib.hid (valid_dg a (by omega))))
  clear r1 e1 H
  go_enter Tryz.func54, Tryz.ntmps54
  go_wp2_with fail
  refine HV.out.mono ?_
  rintro e w' ⟨rfl, rfl⟩
  go_wp2_with fail
  go_ret2
  exact ⟨rfl, Below.refl _ _⟩
set_option maxRecDepth 10000 in
theorem ToUint_x (H : Has w0 w l) (A1 : Option Addr) (k1 c1 a : Nat) (h1 : (A1, k1, c1, a) ∈ l) (hk : k1 ≤ 2) :
    Calls Tryz.prog 54 #[.slice A1 k1 c1] w (GivesI w .u64 a 0) := by
  obtain ⟨r1, e1, p1, q1⟩ := H.at h1
  have HV := Lib.hid (valid_calls A1 c1 k1 (dg a) w e1 (by omega) r1 true (Lib.hid (valid_dg a (by omega))))
  have g0 := dg_getD a 0
  have g1 := dg_getD a 1
  have hlt : a < 18446744073709551616 := by
    have := lt_of_len (n := a) (k := 2) (by omega)
    rwa [show (4294967296 : Nat) ^ 2 = 18446744073709551616 from rfl] at this
  rw [Nat.pow_zero, Nat.div_one] at g0
  rw [Nat.pow_one] at g1
  obtain ⟨x0, hx0⟩ : ∃ x0, a % 4294967296 = x0 := ⟨_, rfl⟩
  obtain ⟨x1, hx1⟩ : ∃ x1, a / 4294967296 = x1 := ⟨_, rfl⟩
  have hx1m : x1 % 4294967296 = x1 := by omega
  rw [hx0] at g0
  rw [hx1, hx1m] at g1
  have hor := or_shl32 x0 x1 (by omega) (by omega) (by omega) (by omega)
  have ha : (x0 : Int) + (x1 : Int) * 4294967296 = a := by omega
  rw [ha] at hor
  have hwr : IntKind.u64.wrap ((x1 : Int) * 4294967296) = (x1 : Int) * 4294967296 := by rw [IntKind.wrap_u64]; omega
  have R1 := Lib.hid r1
  have E1 := Lib.hid e1
  have G0 := Lib.hid g0
  have G1 := Lib.hid g1
  clear r1 e1 H g0 g1 hx0 hx1 hx1m ha
  go_enter Tryz.func54, Tryz.ntmps54
  go_wp2_with fail
  refine HV.out.mono ?_
  rintro e w' ⟨rfl, rfl⟩
  go_wp2_with fail
  refine (at_num A1 c1 k1 a 0 w x0 E1 (by omega) (by omega) R1.out G0).mono ?_
  rintro e w' ⟨rfl, rfl⟩
  go_wp2_with fail
  refine (at_num A1 c1 k1 a 1 w x1 E1 (by omega) (by omega) R1.out G1).mono ?_
  rintro e w' ⟨rfl, rfl⟩
  go_wp2_with fail
  go_ret2
  exact ⟨rfl, Below.refl _ _⟩
end Go.Proofs.YtfcfejlffmddnaaGreatDoor
end
section
/- Contracts: the exported Zeros. -/
namespace Go.Proofs.YtfcfejlffmddnaaGreatDoor
open Go.RowKit
set_option linter.unusedSimpArgs false
set_option linter.unusedVariables false

/-- The library's tables, as its text lays them. -/
structure Tabs (w : World) : Prop where
  ctz : TabAt 0 Lib.deBruijn32tab w
  pow : ∀ w', Below w.heap.size w w' → Lib.TabIs Tryz.prog w' "internal/strconv.uint64pow10" .u64 Lib.pow10Tab
theorem Tabs.below {w w' : World} (h : Tabs w) (hb : Below w.heap.size w w') : Tabs w' :=
  ⟨fun j hj => by
    have h1 := h.ctz j hj
    rw [hb.cell (World.block_lt_of_cell? w _ h1)]; exact h1, fun w2 h2 => h.pow w2 (hb.trans (h2.mono hb.size))⟩
set_option maxHeartbeats 1000000 in
theorem tz32_calls (x k idx : Nat) (w : World) (hx0 : ((x : Int) == 0) = false)
    (key : bits BinOp.and IntKind.u32 (x : Int) (-(x : Int) % 4294967296) * 125613361 % 4294967296 / 134217728 = (idx : Int))
    (hi : idx < 32) (hk : k < 32) (hcell : w.cell? ⟨0, idx, none⟩ = some (.int .u8 k)) :
    Calls Tryz.prog 103 #[.int .u32 x] w fun e w' => e = .returned (.int .i64 k) ∧ w = w' := by
  go_enter Tryz.func103, Tryz.ntmps103
  go_wp2_with (simp only [key])
  go_ret
  exact ⟨rfl, rfl⟩
theorem tz32_h (x : Nat) (w : World) (h0 : x ≠ 0) (hx : x < 4294967296) (hT : Tabs w) :
    Calls Tryz.prog 103 #[.int .u32 x] w fun e w' => ∃ z : Nat, e = .returned (.int .i64 z) ∧ Hid (∃ m, x = 2 ^ z * (2 * m + 1)) ∧ z < 32 ∧ w = w' := by
  obtain ⟨hlow, hk⟩ := Lib.lowest_bit 32 x h0 hx
  obtain ⟨hi, htab⟩ := Lib.deBruijn32_at _ hk
  have hcell := hT.ctz _ hi
  rw [htab] at hcell
  obtain ⟨m, hm, hlt⟩ := Lib.ctzFrom_spec 32 x (by omega) hx
  have hc : Lib.ctz 32 x = Lib.ctzFrom 32 x := if_neg h0
  refine (tz32_calls x (Lib.ctz 32 x) _ w (by simp; omega) (tz32_key x _ hx h0 hlow) hi hk hcell).mono ?_
  rintro e w' ⟨rfl, rfl⟩
  exact ⟨_, rfl, Lib.hid ⟨m, by rw [hc]; exact hm⟩, hk, rfl⟩
/-- How often 2 divides a number. -/
def Twos (a z : Nat) : Prop := (a = 0 ∧ z = 0) ∨ ∃ m, a = 2 ^ z * (2 * m + 1)
theorem twos_of {a i x z : Nat} (h0 : a % 4294967296 ^ i = 0) (hx : a / 4294967296 ^ i % 4294967296 = x) (hz : z < 32) (hm : ∃ m, x = 2 ^ z * (2 * m + 1)) : Twos a (32 * i + z) := by
  obtain ⟨m, hm⟩ := hm
  obtain ⟨q, hq⟩ : ∃ q, a / 4294967296 ^ i = q := ⟨_, rfl⟩
  have e1 := Nat.div_add_mod a (4294967296 ^ i)
  rw [h0, hq, Nat.add_zero] at e1
  rw [hq] at hx
  have e2 := Nat.div_add_mod q 4294967296
  rw [hx, hm] at e2
  obtain ⟨y, hy⟩ : ∃ y, 31 = z + y := ⟨31 - z, by omega⟩
  have e3 : (4294967296 : Nat) = 2 ^ z * (2 * 2 ^ y) := by
    rw [show (4294967296 : Nat) = 2 ^ (31 + 1) from rfl, hy, Nat.pow_succ, Nat.pow_add]
    rw [Nat.mul_assoc, Nat.mul_comm (2 ^ y) 2]
  refine Or.inr ⟨m + 2 ^ y * (q / 4294967296), ?_⟩
  rw [← e1, ← e2, Nat.pow_add, show (2 : Nat) ^ (32 * i) = 4294967296 ^ i from by rw [Nat.pow_mul], Nat.mul_assoc]
  congr 1
  obtain ⟨t, ht⟩ : ∃ t, q / 4294967296 = t := ⟨_, rfl⟩
  rw [ht]
  have e4 : 4294967296 * t = 2 ^ z * (2 * 2 ^ y) * t := by rw [← e3]
  rw [e4]
  grind
theorem mod_next {a i : Nat} (h0 : a % 4294967296 ^ i = 0) (hx : a / 4294967296 ^ i % 4294967296 = 0) : a % 4294967296 ^ (i + 1) = 0 := by
  rw [Nat.mod_pow_succ, h0, hx]; simp
theorem Zeros_bad (A1 : Option Addr) (k1 c1 : Nat) (g1 : List Int) (w : World) (r1 : Rd .u32 w A1 g1) (e1 : g1.length = k1) (b1 : k1 ≤ 9223372036854775807) (hv : Hid (validB g1 = false)) :
    Calls Tryz.prog 56 #[.slice A1 k1 c1] w (GivesI w .i64 0 1) := by
  have HV := Lib.hid (valid_calls A1 c1 k1 g1 w e1 b1 r1 false hv)
  clear r1 e1 b1 hv
  go_enter Tryz.func56, Tryz.ntmps56
  go_wp2_with fail
  refine HV.out.mono ?_
  rintro e w' ⟨rfl, rfl⟩
  go_wp2_with fail
  go_ret2
  exact ⟨rfl, Below.refl _ _⟩
variable {w0 w : World} {l : List (Option Addr × Nat × Nat × Nat)}
set_option maxRecDepth 10000 in
set_option maxHeartbeats 1000000 in
theorem Zeros_x (H : Has w0 w l) (hT : Tabs w) (A1 : Option Addr) (k1 c1 a : Nat) (h1 : (A1, k1, c1, a) ∈ l) (b1 : k1 ≤ 1024) :
    Calls Tryz.prog 56 #[.slice A1 k1 c1] w fun e w' => ∃ z : Nat, Hid (Twos a z) ∧ z < 32768 ∧ GivesI w .i64 z 0 e w' := by
  obtain ⟨r1, e1, p1, q1⟩ := H.at h1
  have HV := Lib.hid (valid_calls A1 c1 k1 (dg a) w e1 (by omega) r1 true (Lib.hid (valid_dg a (by omega))))
  have HT := Lib.hid hT
  have R1 := Lib.hid r1
  have E1 := Lib.hid e1
  clear r1 e1 H hT
  go_enter Tryz.func56, Tryz.ntmps56
  go_wp2_with fail
  refine HV.out.mono ?_
  rintro e w' ⟨rfl, rfl⟩
  go_wp2_with fail
  go_loop [11] (fun v => ∃ i : Nat, i ≤ k1 ∧ v = .int .i64 i ∧ Hid (a % 4294967296 ^ i = 0)) (fun v => k1 - (intOf v).toNat)
  case atStart => exact ⟨0, Nat.zero_le _, rfl, Lib.hid (by rw [Nat.pow_zero, Nat.mod_one])⟩
  case round =>
    obtain ⟨i, hi, rfl, HA⟩ := hrel
    by_cases hlt : i < k1
    · have hgd := dg_getD a i
      obtain ⟨x, hx⟩ : ∃ x, a / 4294967296 ^ i % 4294967296 = x := ⟨_, rfl⟩
      rw [hx] at hgd
      have hxl : x < 4294967296 := by omega
      have hix : (dg a)[i]? = some (x : Int) := by
        have hlen : i < (dg a).length := by rw [E1.out]; exact hlt
        rw [List.getElem?_eq_getElem hlen, ← hgd, List.getD_eq_getElem?_getD, List.getElem?_eq_getElem hlen]; rfl
      obtain ⟨b, o, rfl, hcc⟩ := R1.out (by intro h; rw [h] at hix; simp at hix)
      have hcell := hcc i _ hix
      have HX := Lib.hid hx
      clear hcc hix hgd hx
      by_cases hx0 : x = 0
      · have hxb : ((x : Int) == 0) = true := by simp; omega
        have HN := Lib.hid (mod_next HA.out (by rw [HX.out]; exact hx0))
        clear HX HA
        subst hx0
        go_wp2_with fail
        go_round
        case rel => exact ⟨i + 1, by omega, by go_num, HN⟩
        case measure => simp [intOf]; omega
      · have hxb : ((x : Int) == 0) = false := by simp; omega
        have hxn : (x : Int) ≠ 0 := by omega
        have HTZ := Lib.hid (tz32_h x w hx0 hxl HT.out)
        go_wp2_with fail
        refine HTZ.out.mono ?_
        rintro e w' ⟨z, rfl, hz, hzl, rfl⟩
        go_wp2_with fail
        go_ret2
        exact ⟨32 * i + z, Lib.hid (twos_of HA.out HX.out hzl hz.out), by omega, by congr 3, Below.refl _ _⟩
    · obtain rfl : i = k1 := by omega
      have hz : a = 0 := by
        have h2 := lt_of_len (Nat.le_of_eq E1.out)
        have := HA.out
        rwa [Nat.mod_eq_of_lt h2] at this
      have HZ := Lib.hid hz
      clear hz
      go_wp2_with fail
      go_ret2
      exact ⟨0, Lib.hid (Or.inl ⟨HZ.out, rfl⟩), by omega, rfl, Below.refl _ _⟩
end Go.Proofs.YtfcfejlffmddnaaGreatDoor
end
