/- The law NatOrder: its walk. -/
import Derived.Test.YtfcfejlffmddnaaGreatDoorM13
section
/- The laws on numbers: entry, bounds. -/
namespace Go.Proofs.YtfcfejlffmddnaaGreatDoor
open Go.RowKit
set_option linter.unusedSimpArgs false
set_option linter.unusedVariables false
set_option linter.constructorNameAsVariable false

variable {w0 w : World} {l : List (Option Addr × Nat × Nat × Nat)}
theorem Lists.three (w : World) (A1 : Option Addr) (k1 c1 : Nat) (g1 : List Int) (A2 : Option Addr) (k2 c2 : Nat) (g2 : List Int) (A3 : Option Addr) (k3 c3 : Nat) (g3 : List Int) (i1 : Inp w A1 k1 c1 g1) (i2 : Inp w A2 k2 c2 g2) (i3 : Inp w A3 k3 c3 g3) :
    Lists (w.alloc (.cells #[.slice A1 k1 c1, .slice A2 k2 c2, .slice A3 k3 c3] 23)) w.heap.size 3 [(A1, k1, c1, g1), (A2, k2, c2, g2), (A3, k3, c3, g3)] := by
  refine ⟨rfl, fun j p hp => ?_, fun p hp => ?_⟩
  · rw [Lib.cell_of_heap (World.alloc_heap_new w _)]
    match j, hp with
    | 0, hp => simp at hp; subst hp; rfl
    | 1, hp => simp at hp; subst hp; rfl
    | 2, hp => simp at hp; subst hp; rfl
  · simp only [List.mem_cons, List.not_mem_nil, or_false] at hp
    rcases hp with rfl | rfl | rfl
    · exact ⟨i1.len, i1.lim, i1.rd.alloc _⟩
    · exact ⟨i2.len, i2.lim, i2.rd.alloc _⟩
    · exact ⟨i3.len, i3.lim, i3.rd.alloc _⟩
/-- A list that is a number of at most m elements. -/
def okB (m k : Nat) (g : List Int) : Bool := decide (k ≤ m) && validB g
theorem okB_num {m : Nat} {A : Option Addr} {k c : Nat} {g : List Int} (hi : Inp w A k c g) (h : okB m k g = true) : ∃ x, g = dg x ∧ k ≤ m ∧ k ≤ 1024 ∧ (dg x).length ≤ m := by
  unfold okB at h
  rw [Bool.and_eq_true] at h
  obtain ⟨x, rfl, hx⟩ := validB_num hi.ok h.2
  have h1 := of_decide_eq_true h.1
  have h2 := hi.len
  exact ⟨x, rfl, h1, by omega, by omega⟩
theorem numbers1 (m : Nat) (A1 : Option Addr) (k1 c1 : Nat) (g1 : List Int) (i1 : Inp w A1 k1 c1 g1) (b : Bool) (hb : Hid (okB m k1 g1 = b)) :
    Calls Tryz.prog 39 #[.int .i64 m, .slice (some ⟨w.heap.size, 0, none⟩) 1 1] (w.alloc (.cells #[.slice A1 k1 c1] 23)) fun e w' => e = .returned (.bool b) ∧ Hid (Has w w' []) :=
  (numbers_calls m _ 1 1 _ _ (Lists.one w A1 k1 c1 g1 i1.rd i1.len i1.lim) (by decide) b (Lib.hid (by rw [← hb.out]; simp [okB]))).mono (fun e w' ⟨he, hw⟩ => ⟨he, Lib.hid (hw ▸ (Has.nil w).alloc _)⟩)
theorem numbers2 (m : Nat) (A1 : Option Addr) (k1 c1 : Nat) (g1 : List Int) (A2 : Option Addr) (k2 c2 : Nat) (g2 : List Int) (i1 : Inp w A1 k1 c1 g1) (i2 : Inp w A2 k2 c2 g2) (b : Bool) (hb : Hid ((okB m k1 g1 && okB m k2 g2) = b)) :
    Calls Tryz.prog 39 #[.int .i64 m, .slice (some ⟨w.heap.size, 0, none⟩) 2 2] (w.alloc (.cells #[.slice A1 k1 c1, .slice A2 k2 c2] 23)) fun e w' => e = .returned (.bool b) ∧ Hid (Has w w' []) :=
  (numbers_calls m _ 2 2 _ _ (Lists.two w A1 k1 c1 g1 A2 k2 c2 g2 i1.rd i2.rd i1.len i2.len i1.lim i2.lim) (by decide) b (Lib.hid (by rw [← hb.out]; simp [okB]))).mono (fun e w' ⟨he, hw⟩ => ⟨he, Lib.hid (hw ▸ (Has.nil w).alloc _)⟩)
theorem numbers3 (m : Nat) (A1 : Option Addr) (k1 c1 : Nat) (g1 : List Int) (A2 : Option Addr) (k2 c2 : Nat) (g2 : List Int) (A3 : Option Addr) (k3 c3 : Nat) (g3 : List Int) (i1 : Inp w A1 k1 c1 g1) (i2 : Inp w A2 k2 c2 g2) (i3 : Inp w A3 k3 c3 g3) (b : Bool) (hb : Hid ((okB m k1 g1 && okB m k2 g2 && okB m k3 g3) = b)) :
    Calls Tryz.prog 39 #[.int .i64 m, .slice (some ⟨w.heap.size, 0, none⟩) 3 3] (w.alloc (.cells #[.slice A1 k1 c1, .slice A2 k2 c2, .slice A3 k3 c3] 23)) fun e w' => e = .returned (.bool b) ∧ Hid (Has w w' []) :=
  (numbers_calls m _ 3 3 _ _ (Lists.three w A1 k1 c1 g1 A2 k2 c2 g2 A3 k3 c3 g3 i1 i2 i3) (by decide) b (Lib.hid (by rw [← hb.out]; simp [okB, Bool.and_assoc]))).mono (fun e w' ⟨he, hw⟩ => ⟨he, Lib.hid (hw ▸ (Has.nil w).alloc _)⟩)
theorem Inp.has {A : Option Addr} {k c x : Nat} (h : Inp w A k c (dg x)) (H : Has w0 w l) : Has w0 w ((A, k, c, x) :: l) := H.cons h.rd h.len h.cap h.capm
theorem lenadd {x y i j : Nat} (hx : (dg x).length ≤ i) (hy : (dg y).length ≤ j) : (dg (x + y)).length ≤ i + j + 1 := by
  refine len_of_lt ?_
  have h1 := lt_of_len hx
  have h2 := lt_of_len hy
  have h3 : 4294967296 ^ i ≤ 4294967296 ^ (i + j) := Nat.pow_le_pow_right (by decide) (by omega)
  have h4 : 4294967296 ^ j ≤ 4294967296 ^ (i + j) := Nat.pow_le_pow_right (by decide) (by omega)
  rw [Nat.pow_succ]
  omega
theorem lenmul {x y i j : Nat} (hx : (dg x).length ≤ i) (hy : (dg y).length ≤ j) : (dg (x * y)).length ≤ i + j := by
  refine len_of_lt ?_
  rw [Nat.pow_add]
  exact Nat.mul_lt_mul'' (lt_of_len hx) (lt_of_len hy)
theorem lenle {x y i : Nat} (h : x ≤ y) (hy : (dg y).length ≤ i) : (dg x).length ≤ i := len_of_lt (Nat.lt_of_le_of_lt h (lt_of_len hy))
theorem subO_add {a b : Nat} (h : (dg a).length ≤ 1024) : subO (a + b) b = (0, a) := by
  unfold subO
  rw [if_neg (by omega), Nat.add_sub_cancel, giv_ok h]
theorem giv_le {n i : Nat} (h : (dg n).length ≤ i) (hi : i ≤ 1024) : giv n = (0, n) := giv_ok (Nat.le_trans h hi)
theorem len_zero : (dg 0).length ≤ 0 := by rw [dg_zero]; exact Nat.le_refl _
theorem len_lit {n : Nat} (h : n < 4294967296 ^ 1) : (dg n).length ≤ 1 := len_of_lt h
end Go.Proofs.YtfcfejlffmddnaaGreatDoor
end
section
/- The law NatOrder. -/
namespace Go.Proofs.YtfcfejlffmddnaaGreatDoor
open Go.RowKit
set_option linter.unusedSimpArgs false
set_option linter.unusedVariables false
set_option linter.constructorNameAsVariable false

variable {w0 w : World} {l : List (Option Addr × Nat × Nat × Nat)}
theorem cmpI_add (a b c : Nat) : cmpI (a + c) (b + c) = cmpI a b := by
  unfold cmpI
  by_cases h : a < b
  · rw [if_pos h, if_pos (by omega)]
  · rw [if_neg h, if_neg (by omega)]
    by_cases h2 : b < a
    · rw [if_pos h2, if_pos (by omega)]
    · rw [if_neg h2, if_neg (by omega)]
theorem cmpI_mul (a b c : Nat) (hc : 0 < c) : cmpI (a * c) (b * c) = cmpI a b := by
  unfold cmpI
  simp only [Nat.mul_lt_mul_right hc]
theorem cmpI_self (a : Nat) : cmpI a a = 0 := by unfold cmpI; simp
theorem order_cases (a b c : Nat) {ab ba bc ac se : Int} {sn : Nat} {sb : Bool} (hf : (dg a).length ≤ 1024) (h1 : cmpI a b = ab) (h2 : cmpI b a = ba) (h3 : cmpI b c = bc) (h4 : cmpI a c = ac) (h5 : subO a b = (se, sn)) (h6 : decide (a = b) = sb) :
    (ab = 1 ∧ ba = -1 ∧ se = 0 ∧ sb = false) ∨ (ab = -1 ∧ ba = 1 ∧ se = 3 ∧ sb = false ∧ bc = 1) ∨ (ab = -1 ∧ ba = 1 ∧ se = 3 ∧ sb = false ∧ bc = -1 ∧ ac = -1) ∨ (ab = -1 ∧ ba = 1 ∧ se = 3 ∧ sb = false ∧ bc = 0 ∧ ac = -1) ∨
      (ab = 0 ∧ ba = 0 ∧ se = 0 ∧ sb = true ∧ bc = 1) ∨ (ab = 0 ∧ ba = 0 ∧ se = 0 ∧ sb = true ∧ bc = -1 ∧ ac = -1) ∨ (ab = 0 ∧ ba = 0 ∧ se = 0 ∧ sb = true ∧ bc = 0 ∧ ac = 0) := by
  unfold cmpI at h1 h2 h3 h4
  unfold subO at h5
  by_cases hab : a < b
  · rw [if_pos hab] at h1 h5
    rw [if_neg (by omega), if_pos hab] at h2
    rw [decide_eq_false (by omega)] at h6
    cases h5
    by_cases hbc : b < c
    · rw [if_pos hbc] at h3
      rw [if_pos (by omega)] at h4
      simp_all
    · rw [if_neg hbc] at h3
      by_cases hcb : c < b
      · rw [if_pos hcb] at h3
        simp_all
      · rw [if_neg hcb] at h3
        rw [if_pos (by omega)] at h4
        simp_all
  · rw [if_neg hab] at h1 h5
    rw [giv_ok (lenle (Nat.sub_le a b) hf)] at h5
    cases h5
    by_cases hba : b < a
    · rw [if_pos hba] at h1 h2
      rw [decide_eq_false (by omega)] at h6
      simp_all
    · rw [if_neg hba] at h1 h2
      rw [if_neg hab] at h2
      obtain rfl : a = b := by omega
      rw [h3] at h4
      obtain rfl := h4
      by_cases hbc : a < c
      · rw [if_pos hbc] at h3; simp_all
      · rw [if_neg hbc] at h3
        by_cases hcb : c < a
        · rw [if_pos hcb] at h3; simp_all
        · rw [if_neg hcb] at h3; simp_all
set_option maxRecDepth 100000 in
set_option maxHeartbeats 4000000 in
theorem order_calls (w : World) (hT : Tabs w) (A1 : Option Addr) (k1 c1 : Nat) (g1 : List Int) (A2 : Option Addr) (k2 c2 : Nat) (g2 : List Int) (A3 : Option Addr) (k3 c3 : Nat) (g3 : List Int) (i1 : Inp w A1 k1 c1 g1) (i2 : Inp w A2 k2 c2 g2) (i3 : Inp w A3 k3 c3 g3) :
    Calls Tryz.prog 11 #[.slice A1 k1 c1, .slice A2 k2 c2, .slice A3 k3 c3] w (True1 w) := by
  have HT := Lib.hid hT
  have I1 := Lib.hid i1
  have I2 := Lib.hid i2
  have I3 := Lib.hid i3
  have H0 := Lib.hid (Has.nil w)
  clear hT i1 i2 i3
  cases q : (okB 200 k1 g1 && okB 200 k2 g2 && okB 200 k3 g3)
  case false =>
    go_enter Tryz.func11, Tryz.ntmps11
    go_wp2_with fail
    refine (numbers3 200 A1 k1 c1 g1 A2 k2 c2 g2 A3 k3 c3 g3 I1.out I2.out I3.out false (Lib.hid q)).mono ?_
    rintro e w1 ⟨rfl, H1⟩
    go_wp2_with fail
    refine (sanity_at H1 HT).mono ?_
    rintro e w2 ⟨rfl, H2⟩
    clear H1
    go_wp2_with fail
    go_ret
    exact ⟨rfl, H2.out.b⟩
  have HN := Lib.hid (numbers3 200 A1 k1 c1 g1 A2 k2 c2 g2 A3 k3 c3 g3 I1.out I2.out I3.out true (Lib.hid q))
  rw [Bool.and_eq_true, Bool.and_eq_true] at q
  obtain ⟨a, rfl, m1, e1, f1⟩ := okB_num I1.out q.1.1
  obtain ⟨b, rfl, m2, e2, f2⟩ := okB_num I2.out q.1.2
  obtain ⟨c, rfl, m3, e3, f3⟩ := okB_num I3.out q.2
  clear q
  obtain ⟨ab, hab⟩ : ∃ r, Hid (cmpI a b = r) := ⟨_, Lib.hid rfl⟩
  obtain ⟨ba, hba⟩ : ∃ r, Hid (cmpI b a = r) := ⟨_, Lib.hid rfl⟩
  obtain ⟨bc, hbc⟩ : ∃ r, Hid (cmpI b c = r) := ⟨_, Lib.hid rfl⟩
  obtain ⟨ac, hac⟩ : ∃ r, Hid (cmpI a c = r) := ⟨_, Lib.hid rfl⟩
  obtain ⟨se, sn, hse⟩ : ∃ e n, Hid (subO a b = (e, n)) := ⟨_, _, Lib.hid rfl⟩
  obtain ⟨sb, hsb⟩ : ∃ r, Hid (decide (a = b) = r) := ⟨_, Lib.hid rfl⟩
  obtain ⟨pq, hpq⟩ : ∃ r, Hid (cmpI (a * c) (b * c) = r) := ⟨_, Lib.hid rfl⟩
  have HC := Lib.hid (order_cases a b c (Nat.le_trans f1 (by decide)) hab.out hba.out hbc.out hac.out hse.out hsb.out)
  have HP : Hid ((k3 = 0 ∧ pq = 0) ∨ ((((k3 : Int) == 0) = false ∧ 0 < k3) ∧ pq = ab)) := Lib.hid (by
    have hk := I3.out.len
    have hq := hpq.out
    have hp := hab.out
    by_cases h : c = 0
    · left
      subst h
      rw [dg_zero] at hk
      refine ⟨hk.symm, ?_⟩
      rw [← hq, Nat.mul_zero, Nat.mul_zero, cmpI_self]
    · right
      have h0 : k3 ≠ 0 := by
        intro h0
        rw [h0] at hk
        exact h ((dg_nil_iff c).1 hk)
      refine ⟨⟨by simp; omega, by omega⟩, ?_⟩
      rw [← hq, ← hp, cmpI_mul _ _ _ (by omega)])
  go_enter Tryz.func11, Tryz.ntmps11
  go_wp2_with fail
  refine HN.out.mono ?_
  rintro e w1 ⟨rfl, h0⟩
  have h := ((I3.out.below h0.out.b).has (((I2.out.below h0.out.b).has (((I1.out.below h0.out.b).has (h0.out))))))
  clear h0 HN
  have H1 := Lib.hid h
  clear h H0
  go_wp2_with fail
  refine (Cmp_x H1.out A1 k1 c1 (a) A2 k2 c2 (b) (.tail _ (.tail _ (.head _))) (.tail _ (.head _)) e1 e2 (ab) (Lib.hid (hab.out))).mono ?_
  rintro e w2 ⟨rfl, hb⟩
  have h := H1.out.below hb
  clear hb
  have H2 := Lib.hid h
  clear h H1
  go_wp2_with fail
  refine (Cmp_x H2.out A2 k2 c2 (b) A1 k1 c1 (a) (.tail _ (.head _)) (.tail _ (.tail _ (.head _))) e2 e1 (ba) (Lib.hid (hba.out))).mono ?_
  rintro e w3 ⟨rfl, hb⟩
  have h := H2.out.below hb
  clear hb
  have H3 := Lib.hid h
  clear h H2
  go_wp2_with fail
  refine (Cmp_x H3.out A2 k2 c2 (b) A3 k3 c3 (c) (.tail _ (.head _)) (.head _) e2 e3 (bc) (Lib.hid (hbc.out))).mono ?_
  rintro e w4 ⟨rfl, hb⟩
  have h := H3.out.below hb
  clear hb
  have H4 := Lib.hid h
  clear h H3
  go_wp2_with fail
  refine (Cmp_x H4.out A1 k1 c1 (a) A3 k3 c3 (c) (.tail _ (.tail _ (.head _))) (.head _) e1 e3 (ac) (Lib.hid (hac.out))).mono ?_
  rintro e w5 ⟨rfl, hb⟩
  have h := H4.out.below hb
  clear hb
  have H5 := Lib.hid h
  clear h H4
  go_wp2_with fail
  refine (Sub_x H5.out A1 k1 c1 (a) A2 k2 c2 (b) (.tail _ (.tail _ (.head _))) (.tail _ (.head _)) e1 e2 se sn hse).mono ?_
  rintro e w6 ⟨B6, j6, d6, rfl, b6, h⟩
  have H6 := Lib.hid h
  clear h H5
  have HSB := rsame_h H6.out A1 k1 c1 (a) A2 k2 c2 (b) (.tail _ (.tail _ (.tail _ (.head _)))) (.tail _ (.tail _ (.head _))) (Nat.le_trans e1 (by decide)) (Nat.le_trans e2 (by decide)) sb hsb
  have hab' := Lib.hid ((cmpI_add a b c).trans hab.out)
  clear hba hbc hac hse hsb hab
  rcases HC.out with ⟨rfl, rfl, rfl, rfl⟩ | ⟨rfl, rfl, rfl, rfl, rfl⟩ | ⟨rfl, rfl, rfl, rfl, rfl, rfl⟩ | ⟨rfl, rfl, rfl, rfl, rfl, rfl⟩ | ⟨rfl, rfl, rfl, rfl, rfl⟩ | ⟨rfl, rfl, rfl, rfl, rfl, rfl⟩ | ⟨rfl, rfl, rfl, rfl, rfl, rfl⟩
  all_goals
    clear HC
    go_wp2_with fail
    refine HSB.mono ?_
    rintro e w7 ⟨rfl, h⟩
    clear HSB
    have H7 := Lib.hid h
    clear h H6
    go_wp2_with fail
    refine (Add_x H7.out A1 k1 c1 (a) A3 k3 c3 (c) (.tail _ (.tail _ (.tail _ (.head _)))) (.tail _ (.head _)) e1 e3 0 (a + c) (Lib.hid (giv_le (i := 401) (lenadd (f1) (f3)) (by decide)))).mono ?_
    rintro e w8 ⟨B8, j8, d8, rfl, b8, h⟩
    have H8 := Lib.hid h
    clear h H7
    go_wp2_with fail
    refine (Add_x H8.out A2 k2 c2 (b) A3 k3 c3 (c) (.tail _ (.tail _ (.tail _ (.head _)))) (.tail _ (.tail _ (.head _))) e2 e3 0 (b + c) (Lib.hid (giv_le (i := 401) (lenadd (f2) (f3)) (by decide)))).mono ?_
    rintro e w9 ⟨B9, j9, d9, rfl, b9, h⟩
    have H9 := Lib.hid h
    clear h H8
    go_wp2_with fail
    refine (Cmp_x H9.out B8 j8 d8 (a + c) B9 j9 d9 (b + c) (.tail _ (.head _)) (.head _) b8 b9 (_) (Lib.hid (hab'.out))).mono ?_
    rintro e w10 ⟨rfl, hb⟩
    have h := H9.out.below hb
    clear hb
    have H10 := Lib.hid h
    clear h H9
    go_wp2_with fail
    refine (Mul_x H10.out A1 k1 c1 (a) A3 k3 c3 (c) (.tail _ (.tail _ (.tail _ (.tail _ (.tail _ (.head _)))))) (.tail _ (.tail _ (.tail _ (.head _)))) e1 e3 0 (a * c) (Lib.hid (giv_le (i := 400) (lenmul (f1) (f3)) (by decide)))).mono ?_
    rintro e w11 ⟨B11, j11, d11, rfl, b11, h⟩
    have H11 := Lib.hid h
    clear h H10
    go_wp2_with fail
    refine (Mul_x H11.out A2 k2 c2 (b) A3 k3 c3 (c) (.tail _ (.tail _ (.tail _ (.tail _ (.tail _ (.head _)))))) (.tail _ (.tail _ (.tail _ (.tail _ (.head _))))) e2 e3 0 (b * c) (Lib.hid (giv_le (i := 400) (lenmul (f2) (f3)) (by decide)))).mono ?_
    rintro e w12 ⟨B12, j12, d12, rfl, b12, h⟩
    have H12 := Lib.hid h
    clear h H11
    go_wp2_with fail
    refine (Cmp_x H12.out B11 j11 d11 (a * c) B12 j12 d12 (b * c) (.tail _ (.head _)) (.head _) b11 b12 (_) (Lib.hid (hpq.out))).mono ?_
    rintro e w13 ⟨rfl, hb⟩
    have h := H12.out.below hb
    clear hb
    have H13 := Lib.hid h
    clear h H12
    go_wp2_with fail
    refine (sanity_at H13 HT).mono ?_
    rintro e w14 ⟨rfl, H14⟩
    clear H13
    rcases HP.out with ⟨rfl, rfl⟩ | ⟨⟨x1, x2⟩, rfl⟩
    all_goals
      clear HP hpq hab'
      go_wp2_with fail
      go_ret
      exact ⟨rfl, H14.out.b⟩
end Go.Proofs.YtfcfejlffmddnaaGreatDoor
end
