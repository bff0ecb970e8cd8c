/- The law NatDivides: its walk. -/
import Derived.Test.YtfcfejlffmddnaaGreatDoorM13
section
/- The law NatDivides. -/
namespace Go.Proofs.YtfcfejlffmddnaaGreatDoor
open Go.RowKit
set_option linter.unusedSimpArgs false
set_option linter.unusedVariables false
set_option linter.constructorNameAsVariable false

variable {w0 w : World} {l : List (Option Addr × Nat × Nat × Nat)}
set_option maxRecDepth 100000 in
set_option maxHeartbeats 4000000 in
theorem divides_calls (w : World) (hT : Tabs w) (A1 : Option Addr) (k1 c1 : Nat) (g1 : List Int) (A2 : Option Addr) (k2 c2 : Nat) (g2 : List Int) (i1 : Inp w A1 k1 c1 g1) (i2 : Inp w A2 k2 c2 g2) (cut : Int) :
    Calls Tryz.prog 17 #[.slice A1 k1 c1, .slice A2 k2 c2, .int .i64 cut] w (True1 w) := by
  have HT := Lib.hid hT
  have I1 := Lib.hid i1
  have I2 := Lib.hid i2
  have H0 := Lib.hid (Has.nil w)
  clear hT i1 i2
  by_cases q1 : k1 ≤ 1100
  case neg =>
    go_enter Tryz.func17, Tryz.ntmps17
    go_wp2_with fail
    refine (light_calls A1 k1 c1 1100 w false (Lib.hid (decide_eq_false q1))).mono ?_
    rintro e w' ⟨rfl, rfl⟩
    go_wp2_with fail
    refine (sanity_at H0 HT).mono ?_
    rintro e w1 ⟨rfl, H1⟩
    clear H0
    go_wp2_with fail
    go_ret
    exact ⟨rfl, H1.out.b⟩
  by_cases q2 : k2 ≤ 1100
  case neg =>
    go_enter Tryz.func17, Tryz.ntmps17
    go_wp2_with fail
    refine (light_calls A1 k1 c1 1100 w true (Lib.hid (decide_eq_true q1))).mono ?_
    rintro e w' ⟨rfl, rfl⟩
    go_wp2_with fail
    refine (light_calls A2 k2 c2 1100 w false (Lib.hid (decide_eq_false q2))).mono ?_
    rintro e w' ⟨rfl, rfl⟩
    go_wp2_with fail
    refine (sanity_at H0 HT).mono ?_
    rintro e w1 ⟨rfl, H1⟩
    clear H0
    go_wp2_with fail
    go_ret
    exact ⟨rfl, H1.out.b⟩
  obtain ⟨x, n, m, hx⟩ : ∃ x n m, Hid (divL g1 g2 = (x, n, m)) := ⟨_, _, _, Lib.hid rfl⟩
  by_cases q3 : 2 ≤ cut ∧ cut ≤ 1024
  case pos =>
    have z1 : decide (cut < 2) = false := decide_eq_false (by omega)
    have z2 : decide (1024 < cut) = false := decide_eq_false (by omega)
    have hk : Hid (blkL g1 g2 cut = (x, n, m)) := Lib.hid (by have := hx.out; simp only [divL, blkL, blkO] at this ⊢; simpa [q3] using this)
    clear q3
    go_enter Tryz.func17, Tryz.ntmps17
    go_wp2_with fail
    refine (light_calls A1 k1 c1 1100 w true (Lib.hid (decide_eq_true q1))).mono ?_
    rintro e w' ⟨rfl, rfl⟩
    go_wp2_with fail
    refine (light_calls A2 k2 c2 1100 w true (Lib.hid (decide_eq_true q2))).mono ?_
    rintro e w' ⟨rfl, rfl⟩
    go_wp2_with fail
    refine (Div_l H0.out A1 k1 c1 g1 A2 k2 c2 g2 (I1.out.below H0.out.b) (I2.out.below H0.out.b) x n m hx).mono ?_
    rintro e w1 ⟨B1, j1, d1, B1', j1', d1', rfl, b1, b1', h⟩
    have H1 := Lib.hid h
    clear h H0
    go_wp2_with fail
    refine (Long_l H1.out A1 k1 c1 g1 A2 k2 c2 g2 (I1.out.below H1.out.b) (I2.out.below H1.out.b) x n m hx).mono ?_
    rintro e w2 ⟨B2, j2, d2, B2', j2', d2', rfl, b2, b2', h⟩
    have H2 := Lib.hid h
    clear h H1
    go_wp2_with fail
    refine (Newton_l H2.out A1 k1 c1 g1 A2 k2 c2 g2 (I1.out.below H2.out.b) (I2.out.below H2.out.b) x n m hx).mono ?_
    rintro e w3 ⟨B3, j3, d3, B3', j3', d3', rfl, b3, b3', h⟩
    have H3 := Lib.hid h
    clear h H2
    go_wp2_with fail
    refine (Blocks_l H3.out A1 k1 c1 g1 A2 k2 c2 g2 (I1.out.below H3.out.b) (I2.out.below H3.out.b) cut x n m hk).mono ?_
    rintro e w4 ⟨B4, j4, d4, B4', j4', d4', rfl, b4, b4', h⟩
    have H4 := Lib.hid h
    clear h H3
    go_wp2_with fail
    refine (alike_h H4.out B1 j1 d1 (n) B2 j2 d2 (n) (.tail _ (.tail _ (.tail _ (.tail _ (.tail _ (.tail _ (.head _))))))) (.tail _ (.tail _ (.tail _ (.tail _ (.head _))))) (Nat.le_trans b1 (by decide)) (Nat.le_trans b2 (by decide)) x x true (Lib.hid (decide_eq_true ⟨rfl, rfl⟩))).mono ?_
    rintro e w5 ⟨rfl, h⟩
    have H5 := Lib.hid h
    clear h H4
    go_wp2_with fail
    refine (alike_h H5.out B1 j1 d1 (n) B3 j3 d3 (n) (.tail _ (.tail _ (.tail _ (.tail _ (.tail _ (.tail _ (.head _))))))) (.tail _ (.tail _ (.head _))) (Nat.le_trans b1 (by decide)) (Nat.le_trans b3 (by decide)) x x true (Lib.hid (decide_eq_true ⟨rfl, rfl⟩))).mono ?_
    rintro e w6 ⟨rfl, h⟩
    have H6 := Lib.hid h
    clear h H5
    go_wp2_with fail
    refine (rsame_h H6.out B1' j1' d1' (m) B2' j2' d2' (m) (.tail _ (.tail _ (.tail _ (.tail _ (.tail _ (.tail _ (.tail _ (.head _)))))))) (.tail _ (.tail _ (.tail _ (.tail _ (.tail _ (.head _)))))) (Nat.le_trans b1' (by decide)) (Nat.le_trans b2' (by decide)) true (Lib.hid (decide_eq_true rfl))).mono ?_
    rintro e w7 ⟨rfl, h⟩
    have H7 := Lib.hid h
    clear h H6
    go_wp2_with fail
    refine (rsame_h H7.out B1' j1' d1' (m) B3' j3' d3' (m) (.tail _ (.tail _ (.tail _ (.tail _ (.tail _ (.tail _ (.tail _ (.head _)))))))) (.tail _ (.tail _ (.tail _ (.head _)))) (Nat.le_trans b1' (by decide)) (Nat.le_trans b3' (by decide)) true (Lib.hid (decide_eq_true rfl))).mono ?_
    rintro e w8 ⟨rfl, h⟩
    have H8 := Lib.hid h
    clear h H7
    go_wp2_with fail
    refine (sanity_at H8 HT).mono ?_
    rintro e w9 ⟨rfl, H9⟩
    clear H8
    go_wp2_with fail
    refine (alike_h H9.out B1 j1 d1 (n) B4 j4 d4 (n) (.tail _ (.tail _ (.tail _ (.tail _ (.tail _ (.tail _ (.head _))))))) (.head _) (Nat.le_trans b1 (by decide)) (Nat.le_trans b4 (by decide)) x x true (Lib.hid (decide_eq_true ⟨rfl, rfl⟩))).mono ?_
    rintro e w10 ⟨rfl, h⟩
    have H10 := Lib.hid h
    clear h H9
    go_wp2_with fail
    refine (rsame_h H10.out B1' j1' d1' (m) B4' j4' d4' (m) (.tail _ (.tail _ (.tail _ (.tail _ (.tail _ (.tail _ (.tail _ (.head _)))))))) (.tail _ (.head _)) (Nat.le_trans b1' (by decide)) (Nat.le_trans b4' (by decide)) true (Lib.hid (decide_eq_true rfl))).mono ?_
    rintro e w11 ⟨rfl, h⟩
    have H11 := Lib.hid h
    clear h H10
    go_wp2_with fail
    go_ret
    exact ⟨rfl, H11.out.b⟩
  have hk : Hid (blkL g1 g2 cut = (1, 0, 0)) := Lib.hid (by simp only [blkL, blkO]; rw [if_neg q3]; simp)
  have z1 : decide (cut < 2) = true ∨ (decide (cut < 2) = false ∧ decide (1024 < cut) = true) := by
    by_cases h : cut < 2
    · exact Or.inl (decide_eq_true h)
    · exact Or.inr ⟨decide_eq_false h, decide_eq_true (by omega)⟩
  clear q3
  go_enter Tryz.func17, Tryz.ntmps17
  go_wp2_with fail
  refine (light_calls A1 k1 c1 1100 w true (Lib.hid (decide_eq_true q1))).mono ?_
  rintro e w' ⟨rfl, rfl⟩
  go_wp2_with fail
  refine (light_calls A2 k2 c2 1100 w true (Lib.hid (decide_eq_true q2))).mono ?_
  rintro e w' ⟨rfl, rfl⟩
  go_wp2_with fail
  refine (Div_l H0.out A1 k1 c1 g1 A2 k2 c2 g2 (I1.out.below H0.out.b) (I2.out.below H0.out.b) x n m hx).mono ?_
  rintro e w1 ⟨B1, j1, d1, B1', j1', d1', rfl, b1, b1', h⟩
  have H1 := Lib.hid h
  clear h H0
  go_wp2_with fail
  refine (Long_l H1.out A1 k1 c1 g1 A2 k2 c2 g2 (I1.out.below H1.out.b) (I2.out.below H1.out.b) x n m hx).mono ?_
  rintro e w2 ⟨B2, j2, d2, B2', j2', d2', rfl, b2, b2', h⟩
  have H2 := Lib.hid h
  clear h H1
  go_wp2_with fail
  refine (Newton_l H2.out A1 k1 c1 g1 A2 k2 c2 g2 (I1.out.below H2.out.b) (I2.out.below H2.out.b) x n m hx).mono ?_
  rintro e w3 ⟨B3, j3, d3, B3', j3', d3', rfl, b3, b3', h⟩
  have H3 := Lib.hid h
  clear h H2
  go_wp2_with fail
  refine (Blocks_l H3.out A1 k1 c1 g1 A2 k2 c2 g2 (I1.out.below H3.out.b) (I2.out.below H3.out.b) cut 1 0 0 hk).mono ?_
  rintro e w4 ⟨B4, j4, d4, B4', j4', d4', rfl, b4, b4', h⟩
  have H4 := Lib.hid h
  clear h H3
  go_wp2_with fail
  refine (alike_h H4.out B1 j1 d1 (n) B2 j2 d2 (n) (.tail _ (.tail _ (.tail _ (.tail _ (.tail _ (.tail _ (.head _))))))) (.tail _ (.tail _ (.tail _ (.tail _ (.head _))))) (Nat.le_trans b1 (by decide)) (Nat.le_trans b2 (by decide)) x x true (Lib.hid (decide_eq_true ⟨rfl, rfl⟩))).mono ?_
  rintro e w5 ⟨rfl, h⟩
  have H5 := Lib.hid h
  clear h H4
  go_wp2_with fail
  refine (alike_h H5.out B1 j1 d1 (n) B3 j3 d3 (n) (.tail _ (.tail _ (.tail _ (.tail _ (.tail _ (.tail _ (.head _))))))) (.tail _ (.tail _ (.head _))) (Nat.le_trans b1 (by decide)) (Nat.le_trans b3 (by decide)) x x true (Lib.hid (decide_eq_true ⟨rfl, rfl⟩))).mono ?_
  rintro e w6 ⟨rfl, h⟩
  have H6 := Lib.hid h
  clear h H5
  go_wp2_with fail
  refine (rsame_h H6.out B1' j1' d1' (m) B2' j2' d2' (m) (.tail _ (.tail _ (.tail _ (.tail _ (.tail _ (.tail _ (.tail _ (.head _)))))))) (.tail _ (.tail _ (.tail _ (.tail _ (.tail _ (.head _)))))) (Nat.le_trans b1' (by decide)) (Nat.le_trans b2' (by decide)) true (Lib.hid (decide_eq_true rfl))).mono ?_
  rintro e w7 ⟨rfl, h⟩
  have H7 := Lib.hid h
  clear h H6
  go_wp2_with fail
  refine (rsame_h H7.out B1' j1' d1' (m) B3' j3' d3' (m) (.tail _ (.tail _ (.tail _ (.tail _ (.tail _ (.tail _ (.tail _ (.head _)))))))) (.tail _ (.tail _ (.tail _ (.head _)))) (Nat.le_trans b1' (by decide)) (Nat.le_trans b3' (by decide)) true (Lib.hid (decide_eq_true rfl))).mono ?_
  rintro e w8 ⟨rfl, h⟩
  have H8 := Lib.hid h
  clear h H7
  obtain rfl := H8.out.none (.head _)
  obtain rfl := H8.out.none (.tail _ (.head _))
  rcases z1 with z1 | ⟨z1, z2⟩
  all_goals
    go_wp2_with fail
    refine (sanity_at H8 HT).mono ?_
    rintro e w9 ⟨rfl, H9⟩
    clear H8
    go_wp2_with fail
    refine (refused_calls B4 d4 1 1 _ true (Lib.hid (by simp))).mono ?_
    rintro e w' ⟨rfl, rfl⟩
    go_wp2_with fail
    go_ret
    exact ⟨rfl, H9.out.b⟩
end Go.Proofs.YtfcfejlffmddnaaGreatDoor
end
