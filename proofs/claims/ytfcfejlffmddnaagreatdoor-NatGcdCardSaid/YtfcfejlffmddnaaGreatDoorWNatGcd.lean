/- The law NatGcd: its walk. -/
import Derived.Test.YtfcfejlffmddnaaGreatDoorM13
section
/- The laws on numbers: entry, bounds. -/
namespace Go.Proofs.YtfcfejlffmddnaaGreatDoor
open Go.RowKit
set_option linter.unusedSimpArgs false
set_option linter.unusedVariables false
set_option linter.constructorNameAsVariable false

variable {w0 w : World} {l : List (Option Addr × Nat × Nat × Nat)}
theorem Lists.three (w : World) (A1 : Option Addr) (k1 c1 : Nat) (g1 : List Int) (A2 : Option Addr) (k2 c2 : Nat) (g2 : List Int) (A3 : Option Addr) (k3 c3 : Nat) (g3 : List Int) (i1 : Inp w A1 k1 c1 g1) (i2 : Inp w A2 k2 c2 g2) (i3 : Inp w A3 k3 c3 g3) :
    Lists (w.alloc (.cells #[.slice A1 k1 c1, .slice A2 k2 c2, .slice A3 k3 c3] 23)) w.heap.size 3 [(A1, k1, c1, g1), (A2, k2, c2, g2), (A3, k3, c3, g3)] := by
  refine ⟨rfl, fun j p hp => ?_, fun p hp => ?_⟩
  · rw [Lib.cell_of_heap (World.alloc_heap_new w _)]
    match j, hp with
    | 0, hp => simp at hp; subst hp; rfl
    | 1, hp => simp at hp; subst hp; rfl
    | 2, hp => simp at hp; subst hp; rfl
  · simp only [List.mem_cons, List.not_mem_nil, or_false] at hp
    rcases hp with rfl | rfl | rfl
    · exact ⟨i1.len, i1.lim, i1.rd.alloc _⟩
    · exact ⟨i2.len, i2.lim, i2.rd.alloc _⟩
    · exact ⟨i3.len, i3.lim, i3.rd.alloc _⟩
/-- A list that is a number of at most m elements. -/
def okB (m k : Nat) (g : List Int) : Bool := decide (k ≤ m) && validB g
theorem okB_num {m : Nat} {A : Option Addr} {k c : Nat} {g : List Int} (hi : Inp w A k c g) (h : okB m k g = true) : ∃ x, g = dg x ∧ k ≤ m ∧ k ≤ 1024 ∧ (dg x).length ≤ m := by
  unfold okB at h
  rw [Bool.and_eq_true] at h
  obtain ⟨x, rfl, hx⟩ := validB_num hi.ok h.2
  have h1 := of_decide_eq_true h.1
  have h2 := hi.len
  exact ⟨x, rfl, h1, by omega, by omega⟩
theorem numbers1 (m : Nat) (A1 : Option Addr) (k1 c1 : Nat) (g1 : List Int) (i1 : Inp w A1 k1 c1 g1) (b : Bool) (hb : Hid (okB m k1 g1 = b)) :
    Calls Tryz.prog 39 #[.int .i64 m, .slice (some ⟨w.heap.size, 0, none⟩) 1 1] (w.alloc (.cells #[.slice A1 k1 c1] 23)) fun e w' => e = .returned (.bool b) ∧ Hid (Has w w' []) :=
  (numbers_calls m _ 1 1 _ _ (Lists.one w A1 k1 c1 g1 i1.rd i1.len i1.lim) (by decide) b (Lib.hid (by rw [← hb.out]; simp [okB]))).mono (fun e w' ⟨he, hw⟩ => ⟨he, Lib.hid (hw ▸ (Has.nil w).alloc _)⟩)
theorem numbers2 (m : Nat) (A1 : Option Addr) (k1 c1 : Nat) (g1 : List Int) (A2 : Option Addr) (k2 c2 : Nat) (g2 : List Int) (i1 : Inp w A1 k1 c1 g1) (i2 : Inp w A2 k2 c2 g2) (b : Bool) (hb : Hid ((okB m k1 g1 && okB m k2 g2) = b)) :
    Calls Tryz.prog 39 #[.int .i64 m, .slice (some ⟨w.heap.size, 0, none⟩) 2 2] (w.alloc (.cells #[.slice A1 k1 c1, .slice A2 k2 c2] 23)) fun e w' => e = .returned (.bool b) ∧ Hid (Has w w' []) :=
  (numbers_calls m _ 2 2 _ _ (Lists.two w A1 k1 c1 g1 A2 k2 c2 g2 i1.rd i2.rd i1.len i2.len i1.lim i2.lim) (by decide) b (Lib.hid (by rw [← hb.out]; simp [okB]))).mono (fun e w' ⟨he, hw⟩ => ⟨he, Lib.hid (hw ▸ (Has.nil w).alloc _)⟩)
theorem numbers3 (m : Nat) (A1 : Option Addr) (k1 c1 : Nat) (g1 : List Int) (A2 : Option Addr) (k2 c2 : Nat) (g2 : List Int) (A3 : Option Addr) (k3 c3 : Nat) (g3 : List Int) (i1 : Inp w A1 k1 c1 g1) (i2 : Inp w A2 k2 c2 g2) (i3 : Inp w A3 k3 c3 g3) (b : Bool) (hb : Hid ((okB m k1 g1 && okB m k2 g2 && okB m k3 g3) = b)) :
    Calls Tryz.prog 39 #[.int .i64 m, .slice (some ⟨w.heap.size, 0, none⟩) 3 3] (w.alloc (.cells #[.slice A1 k1 c1, .slice A2 k2 c2, .slice A3 k3 c3] 23)) fun e w' => e = .returned (.bool b) ∧ Hid (Has w w' []) :=
  (numbers_calls m _ 3 3 _ _ (Lists.three w A1 k1 c1 g1 A2 k2 c2 g2 A3 k3 c3 g3 i1 i2 i3) (by decide) b (Lib.hid (by rw [← hb.out]; simp [okB, Bool.and_assoc]))).mono (fun e w' ⟨he, hw⟩ => ⟨he, Lib.hid (hw ▸ (Has.nil w).alloc _)⟩)
theorem Inp.has {A : Option Addr} {k c x : Nat} (h : Inp w A k c (dg x)) (H : Has w0 w l) : Has w0 w ((A, k, c, x) :: l) := H.cons h.rd h.len h.cap h.capm
theorem lenadd {x y i j : Nat} (hx : (dg x).length ≤ i) (hy : (dg y).length ≤ j) : (dg (x + y)).length ≤ i + j + 1 := by
  refine len_of_lt ?_
  have h1 := lt_of_len hx
  have h2 := lt_of_len hy
  have h3 : 4294967296 ^ i ≤ 4294967296 ^ (i + j) := Nat.pow_le_pow_right (by decide) (by omega)
  have h4 : 4294967296 ^ j ≤ 4294967296 ^ (i + j) := Nat.pow_le_pow_right (by decide) (by omega)
  rw [Nat.pow_succ]
  omega
theorem lenmul {x y i j : Nat} (hx : (dg x).length ≤ i) (hy : (dg y).length ≤ j) : (dg (x * y)).length ≤ i + j := by
  refine len_of_lt ?_
  rw [Nat.pow_add]
  exact Nat.mul_lt_mul'' (lt_of_len hx) (lt_of_len hy)
theorem lenle {x y i : Nat} (h : x ≤ y) (hy : (dg y).length ≤ i) : (dg x).length ≤ i := len_of_lt (Nat.lt_of_le_of_lt h (lt_of_len hy))
theorem subO_add {a b : Nat} (h : (dg a).length ≤ 1024) : subO (a + b) b = (0, a) := by
  unfold subO
  rw [if_neg (by omega), Nat.add_sub_cancel, giv_ok h]
theorem giv_le {n i : Nat} (h : (dg n).length ≤ i) (hi : i ≤ 1024) : giv n = (0, n) := giv_ok (Nat.le_trans h hi)
theorem len_zero : (dg 0).length ≤ 0 := by rw [dg_zero]; exact Nat.le_refl _
theorem len_lit {n : Nat} (h : n < 4294967296 ^ 1) : (dg n).length ≤ 1 := len_of_lt h
end Go.Proofs.YtfcfejlffmddnaaGreatDoor
end
section
/- The law NatGcd. -/
namespace Go.Proofs.YtfcfejlffmddnaaGreatDoor
open Go.RowKit
set_option linter.unusedSimpArgs false
set_option linter.unusedVariables false
set_option linter.constructorNameAsVariable false

variable {w0 w : World} {l : List (Option Addr × Nat × Nat × Nat)}
theorem divO_nz {a b : Nat} (h : b ≠ 0) : divO a b = (0, a / b, a % b) := if_neg h
theorem len_gcd {a b i : Nat} (ha : (dg a).length ≤ i) (hb : (dg b).length ≤ i) : (dg (Nat.gcd a b)).length ≤ i := by
  rcases Nat.eq_zero_or_pos a with h | h
  · subst h; rw [Nat.gcd_zero_left]; exact hb
  · exact lenle (Nat.gcd_le_left b h) ha
theorem Has.pos (H : Has w0 w l) {A : Option Addr} {k c n : Nat} (h : (A, k, c, n) ∈ l) (hn : n ≠ 0) : 0 < k := by
  have h1 := H.len h
  rcases Nat.eq_zero_or_pos k with h0 | h0
  · rw [h0] at h1; exact absurd ((dg_nil_iff n).1 h1) hn
  · exact h0
theorem Has.nil0 (H : Has w0 w l) {A : Option Addr} {k c n : Nat} (h : (A, k, c, n) ∈ l) (hn : n = 0) : k = 0 := by subst hn; exact H.none h
theorem sum_wrap {i j : Nat} (hi : i ≤ 1024) (hj : j ≤ 1024) : IntKind.i64.wrap ((i : Int) + (j : Int)) = (i : Int) + (j : Int) := by rw [IntKind.wrap_i64]; omega
theorem sum_pos {i j : Nat} (h : 0 < i ∨ 0 < j) : decide ((0 : Int) < (i : Int) + (j : Int)) = true := decide_eq_true (by omega)
theorem mod_gcd {a b c : Nat} (h1 : a % c = 0) (h2 : b % c = 0) : Nat.gcd a b % c = 0 :=
  Nat.mod_eq_zero_of_dvd (Nat.dvd_gcd (Nat.dvd_of_mod_eq_zero h1) (Nat.dvd_of_mod_eq_zero h2))
set_option maxRecDepth 100000 in
set_option maxHeartbeats 4000000 in
theorem gcd_calls (w : World) (hT : Tabs w) (A1 : Option Addr) (k1 c1 : Nat) (g1 : List Int) (A2 : Option Addr) (k2 c2 : Nat) (g2 : List Int) (A3 : Option Addr) (k3 c3 : Nat) (g3 : List Int) (i1 : Inp w A1 k1 c1 g1) (i2 : Inp w A2 k2 c2 g2) (i3 : Inp w A3 k3 c3 g3) :
    Calls Tryz.prog 7 #[.slice A1 k1 c1, .slice A2 k2 c2, .slice A3 k3 c3] w (True1 w) := by
  have HT := Lib.hid hT
  have I1 := Lib.hid i1
  have I2 := Lib.hid i2
  have I3 := Lib.hid i3
  have H0 := Lib.hid (Has.nil w)
  clear hT i1 i2 i3
  cases q : (okB 60 k1 g1 && okB 60 k2 g2 && okB 60 k3 g3)
  case false =>
    go_enter Tryz.func7, Tryz.ntmps7
    go_wp2_with fail
    refine (numbers3 60 A1 k1 c1 g1 A2 k2 c2 g2 A3 k3 c3 g3 I1.out I2.out I3.out false (Lib.hid q)).mono ?_
    rintro e w1 ⟨rfl, H1⟩
    go_wp2_with fail
    refine (sanity_at H1 HT).mono ?_
    rintro e w2 ⟨rfl, H2⟩
    clear H1
    go_wp2_with fail
    go_ret
    exact ⟨rfl, H2.out.b⟩
  have HN := Lib.hid (numbers3 60 A1 k1 c1 g1 A2 k2 c2 g2 A3 k3 c3 g3 I1.out I2.out I3.out true (Lib.hid q))
  rw [Bool.and_eq_true, Bool.and_eq_true] at q
  obtain ⟨a, rfl, m1, e1, f1⟩ := okB_num I1.out q.1.1
  obtain ⟨b, rfl, m2, e2, f2⟩ := okB_num I2.out q.1.2
  obtain ⟨c, rfl, m3, e3, f3⟩ := okB_num I3.out q.2
  clear q
  have hg : (dg (Nat.gcd a b)).length ≤ 60 := len_gcd f1 f2
  go_enter Tryz.func7, Tryz.ntmps7
  go_wp2_with fail
  refine HN.out.mono ?_
  rintro e w1 ⟨rfl, h0⟩
  have h := ((I3.out.below h0.out.b).has (((I2.out.below h0.out.b).has (((I1.out.below h0.out.b).has (h0.out))))))
  clear h0 HN
  have H1 := Lib.hid h
  clear h H0
  go_wp2_with fail
  refine (Gcd_x H1.out A1 k1 c1 (a) A2 k2 c2 (b) (.tail _ (.tail _ (.head _))) (.tail _ (.head _)) e1 e2 0 (Nat.gcd a b) (Lib.hid (giv_le (i := 60) (hg) (by decide)))).mono ?_
  rintro e w2 ⟨B2, j2, d2, rfl, b2, h⟩
  have H2 := Lib.hid h
  clear h H1
  go_wp2_with fail
  refine (Gcd_x H2.out A2 k2 c2 (b) A1 k1 c1 (a) (.tail _ (.tail _ (.head _))) (.tail _ (.tail _ (.tail _ (.head _)))) e2 e1 0 (Nat.gcd b a) (Lib.hid (giv_le (i := 60) (len_gcd f2 f1) (by decide)))).mono ?_
  rintro e w3 ⟨B3, j3, d3, rfl, b3, h⟩
  have H3 := Lib.hid h
  clear h H2
  go_wp2_with fail
  refine (rsame_h H3.out B2 j2 d2 (Nat.gcd a b) B3 j3 d3 (Nat.gcd b a) (.tail _ (.head _)) (.head _) (Nat.le_trans b2 (by decide)) (Nat.le_trans b3 (by decide)) true (Lib.hid (decide_eq_true (Nat.gcd_comm a b)))).mono ?_
  rintro e w4 ⟨rfl, h⟩
  have H4 := Lib.hid h
  clear h H3
  go_wp2_with fail
  refine (Mul_x H4.out A1 k1 c1 (a) A3 k3 c3 (c) (.tail _ (.tail _ (.tail _ (.tail _ (.head _))))) (.tail _ (.tail _ (.head _))) e1 e3 0 (a * c) (Lib.hid (giv_le (i := 120) (lenmul (f1) (f3)) (by decide)))).mono ?_
  rintro e w5 ⟨B5, j5, d5, rfl, b5, h⟩
  have H5 := Lib.hid h
  clear h H4
  go_wp2_with fail
  refine (Mul_x H5.out A2 k2 c2 (b) A3 k3 c3 (c) (.tail _ (.tail _ (.tail _ (.tail _ (.head _))))) (.tail _ (.tail _ (.tail _ (.head _)))) e2 e3 0 (b * c) (Lib.hid (giv_le (i := 120) (lenmul (f2) (f3)) (by decide)))).mono ?_
  rintro e w6 ⟨B6, j6, d6, rfl, b6, h⟩
  have H6 := Lib.hid h
  clear h H5
  go_wp2_with fail
  refine (Mul_x H6.out B2 j2 d2 (Nat.gcd a b) A3 k3 c3 (c) (.tail _ (.tail _ (.tail _ (.head _)))) (.tail _ (.tail _ (.tail _ (.tail _ (.head _))))) b2 e3 0 ((Nat.gcd a b) * c) (Lib.hid (giv_le (i := 120) (lenmul (hg) (f3)) (by decide)))).mono ?_
  rintro e w7 ⟨B7, j7, d7, rfl, b7, h⟩
  have H7 := Lib.hid h
  clear h H6
  go_wp2_with fail
  refine (Gcd_x H7.out B5 j5 d5 (a * c) B6 j6 d6 (b * c) (.tail _ (.tail _ (.head _))) (.tail _ (.head _)) b5 b6 0 (Nat.gcd (a * c) (b * c)) (Lib.hid (giv_le (i := 120) (len_gcd (lenmul f1 f3) (lenmul f2 f3)) (by decide)))).mono ?_
  rintro e w8 ⟨B8, j8, d8, rfl, b8, h⟩
  have H8 := Lib.hid h
  clear h H7
  go_wp2_with fail
  refine (rsame_h H8.out B8 j8 d8 (Nat.gcd (a * c) (b * c)) B7 j7 d7 ((Nat.gcd a b) * c) (.head _) (.tail _ (.head _)) (Nat.le_trans b8 (by decide)) (Nat.le_trans b7 (by decide)) true (Lib.hid (decide_eq_true (Nat.gcd_mul_right a c b)))).mono ?_
  rintro e w9 ⟨rfl, h⟩
  have H9 := Lib.hid h
  clear h H8
  by_cases hd : Nat.gcd a b = 0
  case pos =>
    obtain rfl := H9.out.nil0 (.tail _ (.tail _ (.tail _ (.tail _ (.tail _ (.head _)))))) (hd)
    obtain rfl := H9.out.nil0 (.tail _ (.tail _ (.tail _ (.tail _ (.tail _ (.tail _ (.tail _ (.tail _ (.head _))))))))) (Nat.eq_zero_of_gcd_eq_zero_left hd)
    obtain rfl := H9.out.nil0 (.tail _ (.tail _ (.tail _ (.tail _ (.tail _ (.tail _ (.tail _ (.head _)))))))) (Nat.eq_zero_of_gcd_eq_zero_right hd)
    clear hd
    go_wp2_with fail
    refine (sanity_at H9 HT).mono ?_
    rintro e w10 ⟨rfl, H10⟩
    clear H9
    go_wp2_with fail
    go_ret
    exact ⟨rfl, H10.out.b⟩
  have KD : ((j2 : Int) == 0) = false := by have := H9.out.pos (.tail _ (.tail _ (.tail _ (.tail _ (.tail _ (.head _)))))) hd; simp; omega
  have HD := Lib.hid hd
  clear hd
  go_wp2_with fail
  refine (Div_x H9.out A1 k1 c1 (a) B2 j2 d2 (Nat.gcd a b) (.tail _ (.tail _ (.tail _ (.tail _ (.tail _ (.tail _ (.tail _ (.tail _ (.head _))))))))) (.tail _ (.tail _ (.tail _ (.tail _ (.tail _ (.head _)))))) e1 b2 0 (a / Nat.gcd a b) (a % Nat.gcd a b) (Lib.hid (divO_nz HD.out))).mono ?_
  rintro e w10 ⟨B10, j10, d10, B10', j10', d10', rfl, b10, b10', h⟩
  have H10 := Lib.hid h
  clear h H9
  go_wp2_with fail
  refine (Div_x H10.out A2 k2 c2 (b) B2 j2 d2 (Nat.gcd a b) (.tail _ (.tail _ (.tail _ (.tail _ (.tail _ (.tail _ (.tail _ (.tail _ (.tail _ (.head _)))))))))) (.tail _ (.tail _ (.tail _ (.tail _ (.tail _ (.tail _ (.tail _ (.head _)))))))) e2 b2 0 (b / Nat.gcd a b) (b % Nat.gcd a b) (Lib.hid (divO_nz HD.out))).mono ?_
  rintro e w11 ⟨B11, j11, d11, B11', j11', d11', rfl, b11, b11', h⟩
  have H11 := Lib.hid h
  clear h H10
  obtain rfl := H11.out.nil0 (.tail _ (.tail _ (.tail _ (.head _)))) (Nat.mod_eq_zero_of_dvd (Nat.gcd_dvd_left a b))
  obtain rfl := H11.out.nil0 (.tail _ (.head _)) (Nat.mod_eq_zero_of_dvd (Nat.gcd_dvd_right a b))
  by_cases hc : c = 0
  case pos =>
    obtain rfl := H11.out.nil0 (.tail _ (.tail _ (.tail _ (.tail _ (.tail _ (.tail _ (.tail _ (.tail _ (.tail _ (.tail _ (.head _))))))))))) (hc)
    clear hc
    go_wp2_with fail
    refine (sanity_at H11 HT).mono ?_
    rintro e w12 ⟨rfl, H12⟩
    clear H11
    go_wp2_with fail
    go_ret
    exact ⟨rfl, H12.out.b⟩
  have KC : ((k3 : Int) == 0) = false := by have := H11.out.pos (.tail _ (.tail _ (.tail _ (.tail _ (.tail _ (.tail _ (.tail _ (.tail _ (.tail _ (.tail _ (.head _))))))))))) hc; simp; omega
  have HC := Lib.hid hc
  clear hc
  go_wp2_with fail
  refine (Div_x H11.out A1 k1 c1 (a) A3 k3 c3 (c) (.tail _ (.tail _ (.tail _ (.tail _ (.tail _ (.tail _ (.tail _ (.tail _ (.tail _ (.tail _ (.tail _ (.tail _ (.head _))))))))))))) (.tail _ (.tail _ (.tail _ (.tail _ (.tail _ (.tail _ (.tail _ (.tail _ (.tail _ (.tail _ (.head _))))))))))) e1 e3 0 (a / c) (a % c) (Lib.hid (divO_nz HC.out))).mono ?_
  rintro e w12 ⟨B12, j12, d12, B12', j12', d12', rfl, b12, b12', h⟩
  have H12 := Lib.hid h
  clear h H11
  go_wp2_with fail
  refine (Div_x H12.out A2 k2 c2 (b) A3 k3 c3 (c) (.tail _ (.tail _ (.tail _ (.tail _ (.tail _ (.tail _ (.tail _ (.tail _ (.tail _ (.tail _ (.tail _ (.tail _ (.tail _ (.head _)))))))))))))) (.tail _ (.tail _ (.tail _ (.tail _ (.tail _ (.tail _ (.tail _ (.tail _ (.tail _ (.tail _ (.tail _ (.tail _ (.head _))))))))))))) e2 e3 0 (b / c) (b % c) (Lib.hid (divO_nz HC.out))).mono ?_
  rintro e w13 ⟨B13, j13, d13, B13', j13', d13', rfl, b13, b13', h⟩
  have H13 := Lib.hid h
  clear h H12
  go_wp2_with fail
  refine (Div_x H13.out B2 j2 d2 (Nat.gcd a b) A3 k3 c3 (c) (.tail _ (.tail _ (.tail _ (.tail _ (.tail _ (.tail _ (.tail _ (.tail _ (.tail _ (.tail _ (.tail _ (.tail _ (.tail _ (.head _)))))))))))))) (.tail _ (.tail _ (.tail _ (.tail _ (.tail _ (.tail _ (.tail _ (.tail _ (.tail _ (.tail _ (.tail _ (.tail _ (.tail _ (.tail _ (.head _))))))))))))))) b2 e3 0 (Nat.gcd a b / c) (Nat.gcd a b % c) (Lib.hid (divO_nz HC.out))).mono ?_
  rintro e w14 ⟨B14, j14, d14, B14', j14', d14', rfl, b14, b14', h⟩
  have H14 := Lib.hid h
  clear h H13
  go_wp2_with fail
  refine (sanity_at H14 HT).mono ?_
  rintro e w15 ⟨rfl, H15⟩
  clear H14
  by_cases hz : a % c = 0 ∧ b % c = 0
  case pos =>
    obtain rfl := H15.out.nil0 (.tail _ (.tail _ (.tail _ (.tail _ (.tail _ (.head _)))))) (hz.1)
    obtain rfl := H15.out.nil0 (.tail _ (.tail _ (.tail _ (.head _)))) (hz.2)
    obtain rfl := H15.out.nil0 (.tail _ (.head _)) (mod_gcd hz.1 hz.2)
    clear hz
    go_wp2_with fail
    go_ret
    exact ⟨rfl, H15.out.b⟩
  have hp : 0 < j12' ∨ 0 < j13' := by
    by_cases h : a % c = 0
    · exact Or.inr (H15.out.pos (.tail _ (.tail _ (.tail _ (.head _)))) (fun h2 => hz ⟨h, h2⟩))
    · exact Or.inl (H15.out.pos (.tail _ (.tail _ (.tail _ (.tail _ (.tail _ (.head _)))))) h)
  have W1 := sum_wrap b12' b13'
  have W2 := sum_pos hp
  clear hz hp
  go_wp2_with fail
  go_ret
  exact ⟨rfl, H15.out.b⟩
end Go.Proofs.YtfcfejlffmddnaaGreatDoor
end
