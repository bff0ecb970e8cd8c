/- The law NatDivision: its walk, its row and its card. -/
import Derived.Test.YtfcfejlffmddnaaGreatDoorM13
section
/- The laws on numbers: entry, bounds. -/
namespace Go.Proofs.YtfcfejlffmddnaaGreatDoor
open Go.RowKit
set_option linter.unusedSimpArgs false
set_option linter.unusedVariables false
set_option linter.constructorNameAsVariable false

variable {w0 w : World} {l : List (Option Addr × Nat × Nat × Nat)}
theorem Lists.three (w : World) (A1 : Option Addr) (k1 c1 : Nat) (g1 : List Int) (A2 : Option Addr) (k2 c2 : Nat) (g2 : List Int) (A3 : Option Addr) (k3 c3 : Nat) (g3 : List Int) (i1 : Inp w A1 k1 c1 g1) (i2 : Inp w A2 k2 c2 g2) (i3 : Inp w A3 k3 c3 g3) :
    Lists (w.alloc (.cells #[.slice A1 k1 c1, .slice A2 k2 c2, .slice A3 k3 c3] 23)) w.heap.size 3 [(A1, k1, c1, g1), (A2, k2, c2, g2), (A3, k3, c3, g3)] := by
  refine ⟨rfl, fun j p hp => ?_, fun p hp => ?_⟩
  · rw [Lib.cell_of_heap (World.alloc_heap_new w _)]
    match j, hp with
    | 0, hp => simp at hp; subst hp; rfl
    | 1, hp => simp at hp; subst hp; rfl
    | 2, hp => simp at hp; subst hp; rfl
  · simp only [List.mem_cons, List.not_mem_nil, or_false] at hp
    rcases hp with rfl | rfl | rfl
    · exact ⟨i1.len, i1.lim, i1.rd.alloc _⟩
    · exact ⟨i2.len, i2.lim, i2.rd.alloc _⟩
    · exact ⟨i3.len, i3.lim, i3.rd.alloc _⟩
/-- A list that is a number of at most m elements. -/
def okB (m k : Nat) (g : List Int) : Bool := decide (k ≤ m) && validB g
theorem okB_num {m : Nat} {A : Option Addr} {k c : Nat} {g : List Int} (hi : Inp w A k c g) (h : okB m k g = true) : ∃ x, g = dg x ∧ k ≤ m ∧ k ≤ 1024 ∧ (dg x).length ≤ m := by
  unfold okB at h
  rw [Bool.and_eq_true] at h
  obtain ⟨x, rfl, hx⟩ := validB_num hi.ok h.2
  have h1 := of_decide_eq_true h.1
  have h2 := hi.len
  exact ⟨x, rfl, h1, by omega, by omega⟩
theorem numbers1 (m : Nat) (A1 : Option Addr) (k1 c1 : Nat) (g1 : List Int) (i1 : Inp w A1 k1 c1 g1) (b : Bool) (hb : Hid (okB m k1 g1 = b)) :
    Calls Tryz.prog 39 #[.int .i64 m, .slice (some ⟨w.heap.size, 0, none⟩) 1 1] (w.alloc (.cells #[.slice A1 k1 c1] 23)) fun e w' => e = .returned (.bool b) ∧ Hid (Has w w' []) :=
  (numbers_calls m _ 1 1 _ _ (Lists.one w A1 k1 c1 g1 i1.rd i1.len i1.lim) (by decide) b (Lib.hid (by rw [← hb.out]; simp [okB]))).mono (fun e w' ⟨he, hw⟩ => ⟨he, Lib.hid (hw ▸ (Has.nil w).alloc _)⟩)
theorem numbers2 (m : Nat) (A1 : Option Addr) (k1 c1 : Nat) (g1 : List Int) (A2 : Option Addr) (k2 c2 : Nat) (g2 : List Int) (i1 : Inp w A1 k1 c1 g1) (i2 : Inp w A2 k2 c2 g2) (b : Bool) (hb : Hid ((okB m k1 g1 && okB m k2 g2) = b)) :
    Calls Tryz.prog 39 #[.int .i64 m, .slice (some ⟨w.heap.size, 0, none⟩) 2 2] (w.alloc (.cells #[.slice A1 k1 c1, .slice A2 k2 c2] 23)) fun e w' => e = .returned (.bool b) ∧ Hid (Has w w' []) :=
  (numbers_calls m _ 2 2 _ _ (Lists.two w A1 k1 c1 g1 A2 k2 c2 g2 i1.rd i2.rd i1.len i2.len i1.lim i2.lim) (by decide) b (Lib.hid (by rw [← hb.out]; simp [okB]))).mono (fun e w' ⟨he, hw⟩ => ⟨he, Lib.hid (hw ▸ (Has.nil w).alloc _)⟩)
theorem numbers3 (m : Nat) (A1 : Option Addr) (k1 c1 : Nat) (g1 : List Int) (A2 : Option Addr) (k2 c2 : Nat) (g2 : List Int) (A3 : Option Addr) (k3 c3 : Nat) (g3 : List Int) (i1 : Inp w A1 k1 c1 g1) (i2 : Inp w A2 k2 c2 g2) (i3 : Inp w A3 k3 c3 g3) (b : Bool) (hb : Hid ((okB m k1 g1 && okB m k2 g2 && okB m k3 g3) = b)) :
    Calls Tryz.prog 39 #[.int .i64 m, .slice (some ⟨w.heap.size, 0, none⟩) 3 3] (w.alloc (.cells #[.slice A1 k1 c1, .slice A2 k2 c2, .slice A3 k3 c3] 23)) fun e w' => e = .returned (.bool b) ∧ Hid (Has w w' []) :=
  (numbers_calls m _ 3 3 _ _ (Lists.three w A1 k1 c1 g1 A2 k2 c2 g2 A3 k3 c3 g3 i1 i2 i3) (by decide) b (Lib.hid (by rw [← hb.out]; simp [okB, Bool.and_assoc]))).mono (fun e w' ⟨he, hw⟩ => ⟨he, Lib.hid (hw ▸ (Has.nil w).alloc _)⟩)
theorem Inp.has {A : Option Addr} {k c x : Nat} (h : Inp w A k c (dg x)) (H : Has w0 w l) : Has w0 w ((A, k, c, x) :: l) := H.cons h.rd h.len h.cap h.capm
theorem lenadd {x y i j : Nat} (hx : (dg x).length ≤ i) (hy : (dg y).length ≤ j) : (dg (x + y)).length ≤ i + j + 1 := by
  refine len_of_lt ?_
  have h1 := lt_of_len hx
  have h2 := lt_of_len hy
  have h3 : 4294967296 ^ i ≤ 4294967296 ^ (i + j) := Nat.pow_le_pow_right (by decide) (by omega)
  have h4 : 4294967296 ^ j ≤ 4294967296 ^ (i + j) := Nat.pow_le_pow_right (by decide) (by omega)
  rw [Nat.pow_succ]
  omega
theorem lenmul {x y i j : Nat} (hx : (dg x).length ≤ i) (hy : (dg y).length ≤ j) : (dg (x * y)).length ≤ i + j := by
  refine len_of_lt ?_
  rw [Nat.pow_add]
  exact Nat.mul_lt_mul'' (lt_of_len hx) (lt_of_len hy)
theorem lenle {x y i : Nat} (h : x ≤ y) (hy : (dg y).length ≤ i) : (dg x).length ≤ i := len_of_lt (Nat.lt_of_le_of_lt h (lt_of_len hy))
theorem subO_add {a b : Nat} (h : (dg a).length ≤ 1024) : subO (a + b) b = (0, a) := by
  unfold subO
  rw [if_neg (by omega), Nat.add_sub_cancel, giv_ok h]
theorem giv_le {n i : Nat} (h : (dg n).length ≤ i) (hi : i ≤ 1024) : giv n = (0, n) := giv_ok (Nat.le_trans h hi)
theorem len_zero : (dg 0).length ≤ 0 := by rw [dg_zero]; exact Nat.le_refl _
theorem len_lit {n : Nat} (h : n < 4294967296 ^ 1) : (dg n).length ≤ 1 := len_of_lt h
end Go.Proofs.YtfcfejlffmddnaaGreatDoor
end
section
/- The law NatDivision. -/
namespace Go.Proofs.YtfcfejlffmddnaaGreatDoor
open Go.RowKit
set_option linter.unusedSimpArgs false
set_option linter.unusedVariables false
set_option linter.constructorNameAsVariable false

variable {w0 w : World} {l : List (Option Addr × Nat × Nat × Nat)}
theorem giv_cases (n : Nat) : giv n = (0, n) ∨ giv n = (2, 0) := by
  by_cases h : (dg n).length ≤ 1024
  · exact Or.inl (giv_ok h)
  · exact Or.inr (giv_no h)
theorem divO_ok {a b : Nat} (h : b ≠ 0) : divO a b = (0, a / b, a % b) := if_neg h
theorem cmpI_lt {a b : Nat} (h : a < b) : cmpI a b = -1 := if_pos h
theorem division_cases {a b c : Nat} {f g : Int} {pn sn : Nat} (hb : b ≠ 0) (h1 : giv (c * b) = (f, pn)) (h2 : giv (pn + a % b) = (g, sn)) :
    f = 2 ∨ (f = 0 ∧ g = 2) ∨ (f = 0 ∧ g = 0 ∧ divO sn b = (0, c, a % b)) := by
  rcases giv_cases (c * b) with h | h <;> rw [h] at h1 <;> cases h1
  · right
    rcases giv_cases (c * b + a % b) with h | h <;> rw [h] at h2 <;> cases h2
    · right
      refine ⟨rfl, rfl, ?_⟩
      rw [divO_ok hb]
      have h3 : a % b < b := Nat.mod_lt _ (by omega)
      rw [Nat.mul_comm c b, Nat.mul_add_div (by omega), Nat.div_eq_of_lt h3, Nat.add_zero, Nat.mul_add_mod, Nat.mod_eq_of_lt h3]
    · exact Or.inl ⟨rfl, rfl⟩
  · exact Or.inl rfl
set_option maxRecDepth 100000 in
set_option maxHeartbeats 4000000 in
theorem division_calls (w : World) (hT : Tabs w) (A1 : Option Addr) (k1 c1 : Nat) (g1 : List Int) (A2 : Option Addr) (k2 c2 : Nat) (g2 : List Int) (A3 : Option Addr) (k3 c3 : Nat) (g3 : List Int) (i1 : Inp w A1 k1 c1 g1) (i2 : Inp w A2 k2 c2 g2) (i3 : Inp w A3 k3 c3 g3) :
    Calls Tryz.prog 12 #[.slice A1 k1 c1, .slice A2 k2 c2, .slice A3 k3 c3] w (True1 w) := by
  have HT := Lib.hid hT
  have I1 := Lib.hid i1
  have I2 := Lib.hid i2
  have I3 := Lib.hid i3
  have H0 := Lib.hid (Has.nil w)
  clear hT i1 i2 i3
  cases q : (okB 1024 k1 g1 && okB 1024 k2 g2)
  case false =>
    go_enter Tryz.func12, Tryz.ntmps12
    go_wp2_with fail
    refine (numbers2 1024 A1 k1 c1 g1 A2 k2 c2 g2 I1.out I2.out false (Lib.hid q)).mono ?_
    rintro e w1 ⟨rfl, H1⟩
    clear H0
    go_wp2_with fail
    refine (sanity_at H1 HT).mono ?_
    rintro e w2 ⟨rfl, H2⟩
    clear H1
    go_wp2_with fail
    go_ret
    exact ⟨rfl, H2.out.b⟩
  cases q3 : okB 200 k3 g3
  case false =>
    go_enter Tryz.func12, Tryz.ntmps12
    go_wp2_with fail
    refine (numbers2 1024 A1 k1 c1 g1 A2 k2 c2 g2 I1.out I2.out true (Lib.hid q)).mono ?_
    rintro e w1 ⟨rfl, H1⟩
    clear H0
    go_wp2_with fail
    refine (numbers1 200 A3 k3 c3 g3 (I3.out.below H1.out.b) false (Lib.hid q3)).mono ?_
    rintro e w2 ⟨rfl, h2⟩
    have h := H1.out.join h2.out
    clear h2
    have H2 := Lib.hid h
    clear h H1
    go_wp2_with fail
    refine (sanity_at H2 HT).mono ?_
    rintro e w3 ⟨rfl, H3⟩
    clear H2
    go_wp2_with fail
    go_ret
    exact ⟨rfl, H3.out.b⟩
  by_cases hk : k2 = 0
  case pos =>
    have HK : ((k2 : Int) == 0) = true := by simp [hk]
    clear hk
    go_enter Tryz.func12, Tryz.ntmps12
    go_wp2_with fail
    refine (numbers2 1024 A1 k1 c1 g1 A2 k2 c2 g2 I1.out I2.out true (Lib.hid q)).mono ?_
    rintro e w1 ⟨rfl, H1⟩
    clear H0
    go_wp2_with fail
    refine (numbers1 200 A3 k3 c3 g3 (I3.out.below H1.out.b) true (Lib.hid q3)).mono ?_
    rintro e w2 ⟨rfl, h2⟩
    have h := H1.out.join h2.out
    clear h2
    have H2 := Lib.hid h
    clear h H1
    go_wp2_with fail
    refine (sanity_at H2 HT).mono ?_
    rintro e w3 ⟨rfl, H3⟩
    clear H2
    go_wp2_with fail
    go_ret
    exact ⟨rfl, H3.out.b⟩
  have HK : ((k2 : Int) == 0) = false := by simp; omega
  have HK0 := Lib.hid hk
  clear hk
  go_enter Tryz.func12, Tryz.ntmps12
  go_wp2_with fail
  refine (numbers2 1024 A1 k1 c1 g1 A2 k2 c2 g2 I1.out I2.out true (Lib.hid q)).mono ?_
  rintro e w1 ⟨rfl, H1⟩
  clear H0
  go_wp2_with fail
  refine (numbers1 200 A3 k3 c3 g3 (I3.out.below H1.out.b) true (Lib.hid q3)).mono ?_
  rintro e w2 ⟨rfl, h2⟩
  have h := H1.out.join h2.out
  clear h2
  have H2 := Lib.hid h
  clear h H1
  rw [Bool.and_eq_true] at q
  obtain ⟨a, rfl, m1, e1, f1⟩ := okB_num I1.out q.1
  obtain ⟨b, rfl, m2, e2, f2⟩ := okB_num I2.out q.2
  obtain ⟨c, rfl, m3, e3, f3⟩ := okB_num I3.out q3
  clear q q3
  have h := ((I3.out.below H2.out.b).has (((I2.out.below H2.out.b).has (((I1.out.below H2.out.b).has (H2.out))))))
  have H2x := Lib.hid h
  clear h H2
  have hb : b ≠ 0 := by
    intro h
    subst h
    exact HK0.out (H2x.out.none (.tail _ (.head _)))
  have HB := Lib.hid hb
  have hr : (dg (a % b)).length ≤ 1024 := lenle (Nat.mod_le a b) f1
  have hq : (dg (a / b)).length ≤ 1024 := lenle (Nat.div_le_self a b) f1
  have hp : (dg (a / b * b)).length ≤ 1024 := lenle (Nat.div_mul_le_self a b) f1
  have he : a / b * b + a % b = a := by rw [Nat.mul_comm]; exact Nat.div_add_mod a b
  have HE := Lib.hid he
  have hs : (dg (a / b * b + a % b)).length ≤ 1024 := by rw [he]; exact f1
  have HL := Lib.hid (cmpI_lt (Nat.mod_lt a (by omega : 0 < b)))
  clear hb he HK0
  go_wp2_with fail
  refine (Div_x H2x.out A1 k1 c1 (a) A2 k2 c2 (b) (.tail _ (.tail _ (.head _))) (.tail _ (.head _)) e1 e2 0 (a / b) (a % b) (Lib.hid (divO_ok HB.out))).mono ?_
  rintro e w3 ⟨B3, j3, d3, B3', j3', d3', rfl, b3, b3', h⟩
  have H3 := Lib.hid h
  clear h H2x
  go_wp2_with fail
  refine (Mul_x H3.out B3 j3 d3 (a / b) A2 k2 c2 (b) (.head _) (.tail _ (.tail _ (.tail _ (.head _)))) b3 e2 0 (a / b * b) (Lib.hid (giv_le (i := 1024) (hp) (by decide)))).mono ?_
  rintro e w4 ⟨B4, j4, d4, rfl, b4, h⟩
  have H4 := Lib.hid h
  clear h H3
  go_wp2_with fail
  refine (Add_x H4.out B4 j4 d4 (a / b * b) B3' j3' d3' (a % b) (.head _) (.tail _ (.tail _ (.head _))) b4 b3' 0 (a / b * b + a % b) (Lib.hid (giv_le (i := 1024) (hs) (by decide)))).mono ?_
  rintro e w5 ⟨B5, j5, d5, rfl, b5, h⟩
  have H5 := Lib.hid h
  clear h H4
  go_wp2_with fail
  refine (Cmp_x H5.out B3' j3' d3' (a % b) A2 k2 c2 (b) (.tail _ (.tail _ (.tail _ (.head _)))) (.tail _ (.tail _ (.tail _ (.tail _ (.tail _ (.head _)))))) b3' e2 (-1) (Lib.hid (HL.out))).mono ?_
  rintro e w6 ⟨rfl, hb⟩
  have h := H5.out.below hb
  clear hb
  have H6 := Lib.hid h
  clear h H5
  go_wp2_with fail
  refine (rsame_h H6.out B5 j5 d5 (a / b * b + a % b) A1 k1 c1 (a) (.head _) (.tail _ (.tail _ (.tail _ (.tail _ (.tail _ (.tail _ (.head _))))))) (Nat.le_trans b5 (by decide)) (Nat.le_trans e1 (by decide)) true (Lib.hid (decide_eq_true HE.out))).mono ?_
  rintro e w7 ⟨rfl, h⟩
  have H7 := Lib.hid h
  clear h H6
  obtain ⟨f, pn, hf⟩ : ∃ f pn, Hid (giv (c * b) = (f, pn)) := ⟨_, _, Lib.hid rfl⟩
  obtain ⟨g, sn, hg⟩ : ∃ g sn, Hid (giv (pn + a % b) = (g, sn)) := ⟨_, _, Lib.hid rfl⟩
  have HC := Lib.hid (division_cases HB.out hf.out hg.out)
  go_wp2_with fail
  refine (Mul_x H7.out A3 k3 c3 (c) A2 k2 c2 (b) (.tail _ (.tail _ (.tail _ (.tail _ (.head _))))) (.tail _ (.tail _ (.tail _ (.tail _ (.tail _ (.head _)))))) e3 e2 f pn hf).mono ?_
  rintro e w8 ⟨B8, j8, d8, rfl, b8, h⟩
  have H8 := Lib.hid h
  clear h H7
  go_wp2_with fail
  refine (Add_x H8.out B8 j8 d8 (pn) B3' j3' d3' (a % b) (.head _) (.tail _ (.tail _ (.tail _ (.tail _ (.head _))))) b8 b3' g sn hg).mono ?_
  rintro e w9 ⟨B9, j9, d9, rfl, b9, h⟩
  have H9 := Lib.hid h
  clear h H8
  clear hf hg
  rcases HC.out with rfl | ⟨rfl, rfl⟩ | ⟨rfl, rfl, hd⟩
  · skip
    clear HC
    go_wp2_with fail
    refine (sanity_at H9 HT).mono ?_
    rintro e w10 ⟨rfl, H10⟩
    clear H9
    go_wp2_with fail
    go_ret
    exact ⟨rfl, H10.out.b⟩
  · skip
    clear HC
    go_wp2_with fail
    refine (sanity_at H9 HT).mono ?_
    rintro e w10 ⟨rfl, H10⟩
    clear H9
    go_wp2_with fail
    go_ret
    exact ⟨rfl, H10.out.b⟩
  · skip
    have HD := Lib.hid hd
    clear hd HC
    go_wp2_with fail
    refine (Div_x H9.out B9 j9 d9 (sn) A2 k2 c2 (b) (.head _) (.tail _ (.tail _ (.tail _ (.tail _ (.tail _ (.tail _ (.tail _ (.head _)))))))) b9 e2 0 (c) (a % b) (Lib.hid (HD.out))).mono ?_
    rintro e w10 ⟨B10, j10, d10, B10', j10', d10', rfl, b10, b10', h⟩
    have H10 := Lib.hid h
    clear h H9
    go_wp2_with fail
    refine (sanity_at H10 HT).mono ?_
    rintro e w11 ⟨rfl, H11⟩
    clear H10
    go_wp2_with fail
    refine (rsame_h H11.out B10 j10 d10 (c) A3 k3 c3 (c) (.head _) (.tail _ (.tail _ (.tail _ (.tail _ (.tail _ (.tail _ (.tail _ (.tail _ (.head _))))))))) (Nat.le_trans b10 (by decide)) (Nat.le_trans e3 (by decide)) true (Lib.hid (decide_eq_true rfl))).mono ?_
    rintro e w12 ⟨rfl, h⟩
    have H12 := Lib.hid h
    clear h H11
    go_wp2_with fail
    refine (rsame_h H12.out B10' j10' d10' (a % b) B3' j3' d3' (a % b) (.tail _ (.head _)) (.tail _ (.tail _ (.tail _ (.tail _ (.tail _ (.tail _ (.tail _ (.head _)))))))) (Nat.le_trans b10' (by decide)) (Nat.le_trans b3' (by decide)) true (Lib.hid (decide_eq_true rfl))).mono ?_
    rintro e w13 ⟨rfl, h⟩
    have H13 := Lib.hid h
    clear h H12
    go_wp2_with fail
    go_ret
    exact ⟨rfl, H13.out.b⟩
end Go.Proofs.YtfcfejlffmddnaaGreatDoor
end
section
/- The row and the card of NatDivision: for every input the law answers true, and the input reads as it did. -/
namespace Go.Proofs.YtfcfejlffmddnaaGreatDoor.NatDivisionRow
open Go.ChangeShapes Go.WideShapes Go.ChangeAt Go.RowKit Go.Joins
open Go.ChangeMaps (open_string shut_string)
set_option linter.unusedSimpArgs false
set_option linter.unusedVariables false
set_option linter.constructorNameAsVariable false

set_option maxRecDepth 100000 in
theorem lifted (os : Os) (started : os.Started) (H : Type) (enc : TypeId × Value → H) :
    ReturnsInHanded {} Tryz.checked os 12 .any (fun w args => (Rows.natDivisionSpec.pre enc Tryz.prog Tryz.f12 [] false w args ∧ laidMetH Tryz.prog laidAll w) ∧ sizedMet enc Tryz.prog Tryz.f12 (OpenSpec.ofChange Rows.natDivisionSpec) false w args)
      (Rows.natDivisionSpec.post enc Tryz.prog Tryz.f12 false true false false) := by
  refine returnsInHanded_of_change_and (C := Tryz.checked) (X := fun w _ => laidMetH Tryz.prog laidAll w) (fun _ _ _ hh h => h.of_heap hh) own started (by kernel_rfl) Tryz.func12
    (ChangeSpec.witness_shaped (enc := enc) (C := Tryz.checked) (os := os) (X := fun w _ => laidMetH Tryz.prog laidAll w) false (World.laidAll Tryz.prog os laidAll) #[.slice none 0 0, .slice none 0 0, .slice none 0 0] 8 (World.laidAll_os _ _ _)
      (laid_shaped os _) (by kernel_rfl) (by kernel_rfl) (by kernel_rfl) (laid_met os _)) ?_
  intro W base args ds gs before hval0 hW _ _ hL _
  have hval : ∀ (j : Nat) t v, Tryz.f12.params[j]? = some t → args[j]? = some v → Value.okWide Tryz.prog W .any base t v := hval0
  have hW' := hW
  obtain ⟨p, q, hA0, hV, rfl, _, _⟩ := hW
  have hA : DataW.TrodAll enc Tryz.prog W 0 (fun _ => true) true Tryz.f12.params.toList args.toList ds p := hA0
  rw [Tryz.params12] at hA hval
  obtain ⟨v0, vs0, d0, ds0, p0, q0, hargs, rfl, rfl, h0, r0⟩ := trodAll_cons hA
  obtain ⟨v1, vs1, d1, ds1, p1, q1, rfl, rfl, rfl, h1, r1⟩ := trodAll_cons r0
  obtain ⟨v2, vs2, d2, ds2, p2, q2, rfl, rfl, rfl, h2, r2⟩ := trodAll_cons r1
  obtain ⟨rfl, rfl, rfl⟩ := trodAll_nil r2
  obtain rfl : args = #[v0, v1, v2] := by cases args; simp_all
  obtain ⟨rfl, rfl⟩ := trodVars_none hV
  have k0 := h0
  have lt0 : ∀ x ∈ p0, x.block < W.heap.size := by obtain ⟨m, hm⟩ := k0; exact DataW.trod_lt m _ _ _ hm
  obtain ⟨A0, n0, c0, g0, rfl, i0⟩ := open_nat (hval 0 23 v0 rfl rfl) h0
  have k1 := h1
  have lt1 : ∀ x ∈ p1, x.block < W.heap.size := by obtain ⟨m, hm⟩ := k1; exact DataW.trod_lt m _ _ _ hm
  obtain ⟨A1, n1, c1, g1, rfl, i1⟩ := open_nat (hval 1 23 v1 rfl rfl) h1
  have k2 := h2
  have lt2 : ∀ x ∈ p2, x.block < W.heap.size := by obtain ⟨m, hm⟩ := k2; exact DataW.trod_lt m _ _ _ hm
  obtain ⟨A2, n2, c2, g2, rfl, i2⟩ := open_nat (hval 2 23 v2 rfl rfl) h2
  clear hA0 hval0
  refine (division_calls W (tabs_of_laid hL) A0 n0 c0 g0 A1 n1 c1 g1 A2 n2 c2 g2 i0 i1 i2).mono fun e W' ⟨he, bel⟩ => ?_
  subst he
  exact ⟨_, rfl, _, _, _, [], _, [], hW', trodAll_mk1 (shut_bool Tryz.underlying4 _), (trodAll_cons_mk (Below.trod laidOut (by kernel_rfl) (of_decide_eq_true (by kernel_rfl)) k0 bel lt0) (trodAll_cons_mk (Below.trod laidOut (by kernel_rfl) (of_decide_eq_true (by kernel_rfl)) k1 bel lt1) (trodAll_cons_mk (Below.trod laidOut (by kernel_rfl) (of_decide_eq_true (by kernel_rfl)) k2 bel lt2) trodAll_mk0))), rfl, bel.frame _, fun h => by cases h⟩

theorem over : Rows.NatDivisionSaid :=
  OpenClaim.holds_of_wide 12 Tryz.f12 rfl rfl rfl rfl rfl rfl rfl ⟨rfl, rfl, rfl, rfl, rfl⟩ rfl rfl rfl rfl rfl (by kernel_rfl) Tryz.func12 (by kernel_rfl)
    (of_decide_eq_true (by kernel_rfl)) (by unfold Func.isWrapper; first | (rw [if_pos (by decide +kernel)]; kernel_rfl) | (rw [if_neg (by decide +kernel)]; exact ⟨rfl, rfl⟩))
    (fun os started H enc _ => lifted os started H enc)

theorem proved : Rows.NatDivisionCardSaid :=
  Claim7.holds_tied_plain_at .later [] [.data, .data, .data, .data, .sentinel, .sentinel, .pinned] true (true, "901add128c627b7b81ebe4bfdb132afad3a53ac9268b417d7c3e47377e1d1363") true over (fun _ h => by cases h) (by kernel_rfl) (fun _ h => by cases h) natDivision_row_tie rfl ⟨rfl, rfl⟩ (by kernel_rfl) rfl
    (fun f fn hf hfn => by
      obtain rfl : f = 12 := Option.some.inj ((show Tryz.prog.funcNamed "soroban/sorobanlaw01.NatDivision" = some 12 by kernel_rfl).symm.trans hf) |>.symm
      obtain rfl : fn = Tryz.f12 := (Option.some.inj (Tryz.func12.symm.trans hfn)).symm
      exact ⟨by kernel_rfl, fun j t ht => by
        rw [Tryz.params12] at ht
        have hm : t ∈ [23, 23, 23] := by simpa using Array.mem_of_getElem? ht
        have hall : ([23, 23, 23].all fun u => !Tryz.prog.wantsStandIn u) = true := by kernel_rfl
        exact (show Tryz.prog.wantsStandIn t = false by simpa using List.all_eq_true.1 hall t hm)⟩)
    (by kernel_rfl)
#print axioms proved
end Go.Proofs.YtfcfejlffmddnaaGreatDoor.NatDivisionRow
end
