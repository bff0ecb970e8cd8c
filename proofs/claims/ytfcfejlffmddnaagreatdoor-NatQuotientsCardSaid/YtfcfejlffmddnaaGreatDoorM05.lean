/- Package nat, its reference and its laws' helpers, part 5 (NBB NBC NBD NBE NBF NBG NBH NBI). -/
import Derived.Test.YtfcfejlffmddnaaGreatDoorM04
section
/- Contracts: twice, thrice. -/
namespace Go.Proofs.YtfcfejlffmddnaaGreatDoor
open Go.RowKit
set_option linter.unusedSimpArgs false
set_option linter.unusedVariables false

def TwiceSaid (N : Nat) : Prop := ∀ n, n < N → 1 ≤ n → n ≤ 67108864 → ∀ (w0 w : World) (l : List (Option Addr × Nat × Nat × Nat)), Has w0 w l → ∀ (A1 : Option Addr) (k1 c1 a : Nat) (A2 : Option Addr) (c2 d : Nat), (A1, k1, c1, a) ∈ l → (A2, n, c2, d) ∈ l → Hid (a < d * 4294967296 ^ n) → ∀ cut : Int, 2 ≤ cut →
  Calls Tryz.prog 115 #[.slice A1 k1 c1, .slice A2 n c2, .int .i64 n, .int .i64 cut] w (Made2 w0 l (a / d) (a % d) (2 * n) n)
def ThriceSaid (h : Nat) : Prop := ∀ (w0 w : World) (l : List (Option Addr × Nat × Nat × Nat)), Has w0 w l → ∀ (A1 : Option Addr) (k1 c1 a : Nat) (A2 : Option Addr) (k2 c2 d : Nat), (A1, k1, c1, a) ∈ l → (A2, k2, c2, d) ∈ l → Hid (k2 = 2 * h) → Hid (a < d * 4294967296 ^ h) → ∀ cut : Int, 2 ≤ cut →
  Calls Tryz.prog 135 #[.slice A1 k1 c1, .slice A2 k2 c2, .int .i64 h, .int .i64 cut] w (Made2 w0 l (a / d) (a % d) k1 k2)

theorem Num.uniq {w : World} {v : Value} {n m : Nat} (h1 : Num w v n) (h2 : Num w v m) : n = m := by
  obtain ⟨A, c, rfl, r1, _, _⟩ := h1
  obtain ⟨A2, c2, e, r2, _, _⟩ := h2
  injection e with e1 e2 e3
  subst e1
  refine dg_inj (List.ext_getElem? fun j => ?_)
  rcases Nat.lt_or_ge j (dg n).length with h | h
  · have a1 := List.getElem?_eq_getElem h
    have a2 := List.getElem?_eq_getElem (show j < (dg m).length by omega)
    obtain ⟨b, o, hA, f1⟩ := r1 (by intro h0; rw [h0] at h; simp at h)
    subst hA
    have c1 := f1 j _ a1
    rw [r2.at j _ a2] at c1
    rw [a1, a2]
    injection c1 with c1; injection c1 with _ c1; rw [c1]
  · rw [List.getElem?_eq_none h, List.getElem?_eq_none (by omega)]
open Classical in
/-- The number that a slice holds: for a loop's measure. -/
noncomputable def numOf (w : World) (v : Value) : Nat := if h : ∃ n, Num w v n then Classical.choose h else 0
theorem numOf_eq {w : World} {v : Value} {n : Nat} (h : Num w v n) : numOf w v = n := by
  have h0 : ∃ n, Num w v n := ⟨n, h⟩
  rw [numOf, dif_pos h0]
  exact Num.uniq (Classical.choose_spec h0) h
theorem Has.numOf {w0 w : World} {l : List (Option Addr × Nat × Nat × Nat)} (H : Has w0 w l) {A : Option Addr} {k c n : Nat} (h : (A, k, c, n) ∈ l) : Go.Proofs.YtfcfejlffmddnaaGreatDoor.numOf w (.slice A k c) = n := by
  obtain ⟨r, e, h1, h2⟩ := H.at h
  subst e
  exact numOf_eq ⟨A, c, rfl, r, h1, h2⟩
theorem pos_of_len {k n : Nat} (h : (dg n).length = k) (hk : 1 ≤ k) : 0 < n := by
  rcases Nat.eq_zero_or_pos n with h0 | h0
  · subst h0; rw [dg_zero] at h; simp at h; omega
  · exact h0
theorem len_lt_mul {a d k n h : Nat} (ha : a < d * 4294967296 ^ h) (hd : (dg d).length = n) (hk : (dg a).length = k) : k ≤ n + h := by
  rw [← hk]
  refine len_of_lt (Nat.lt_trans ha ?_)
  rw [Nat.pow_add]
  exact Nat.mul_lt_mul_of_pos_right (lt_of_len (Nat.le_of_eq hd)) (Nat.pow_pos (by decide))

set_option maxRecDepth 10000 in
set_option maxHeartbeats 4000000 in
theorem thrice_step (N : Nat) (ih : TwiceSaid N) (h : Nat) (hh : h < N) (h0 : 1 ≤ h) (hb : h ≤ 67108864) : ThriceSaid h := by
  intro w0 w l H A1 k1 c1 a A2 k2 c2 d h1 h2 hk2 ha cut hcut
  have e1 := (H.at h1).2.1
  have e2 := (H.at h2).2.1
  have hdpos : 0 < d := pos_of_len e2 (by have := hk2.out; omega)
  have hB : 0 < 4294967296 ^ h := Nat.pow_pos (by decide)
  have hk1 : k1 ≤ 3 * h := by have := len_lt_mul ha.out e2 e1; have := hk2.out; omega
  have hk2b : k2 ≤ 134217728 := by have := hk2.out; omega
  have hfl : (dg (d / 4294967296 ^ h)).length = h := by rw [len_divB, e2, hk2.out]; omega
  have hfp : 0 < d / 4294967296 ^ h := pos_of_len hfl h0
  have hs32 : (32 * (h : Int)).toNat = 32 * h := by omega
  have hs2 : (2 * (h : Int)).toNat = 2 * h := by omega
  have hsh : (h : Int).toNat = h := by omega
  have HSH := Lib.hid hsh
  have HS32 := Lib.hid hs32
  have HS2 := Lib.hid hs2
  have HFL := Lib.hid hfl
  have HFP := Lib.hid hfp
  have HB := Lib.hid hB
  have HD := Lib.hid hdpos
  have IH := Lib.hid ih
  have HH := Lib.hid H
  clear e1 e2 hdpos hB hfl hfp hs32 hs2 hsh ih H
  go_enter Tryz.func135, Tryz.ntmps135
  go_wp2_with fail
  refine (high_h HH.out A1 k1 c1 a _ h1 (by omega) (by omega)).mono ?_
  rintro e w1 ⟨A3, k3, c3, n3, rfl, hn3, b3, H3⟩
  rw [HSH.out] at hn3 b3
  go_wp2_with fail
  refine (high_h H3 A2 k2 c2 d _ (by simp [h2]) (by omega) (by omega)).mono ?_
  rintro e w2 ⟨A4, k4, c4, n4, rfl, hn4, b4, H4⟩
  rw [HSH.out] at hn4 b4
  go_wp2_with fail
  refine (low_h H4 A2 k2 c2 d _ (by simp [h2]) (by omega) (by omega)).mono ?_
  rintro e w3 ⟨A5, k5, c5, n5, rfl, hn5, b5, H5⟩
  rw [HSH.out] at hn5 b5
  go_wp2_with fail
  refine (high_h H5 A1 k1 c1 a _ (by simp [h1]) (by omega) (by omega)).mono ?_
  rintro e w4 ⟨A6, k6, c6, n6, rfl, hn6, b6, H6⟩
  rw [HS2.out] at hn6 b6
  go_wp2_with fail
  obtain ⟨r, hr⟩ : ∃ r, cmpI n6 n4 = r := ⟨_, rfl⟩
  have hrc := cmp_case n6 n4
  rw [hr] at hrc
  have HR := Lib.hid hr
  have HRC := Lib.hid hrc
  have hk4 : k4 = h := by
    rw [← (H6.at (A := A4) (k := k4) (c := c4) (n := n4) (by simp)).2.1, hn4.out]; exact HFL.out
  subst hk4
  clear hr hrc
  refine (cmp_h H6 A6 k6 c6 n6 A4 k4 c4 n4 (by simp) (by simp) (by omega) (by omega) r HR).mono ?_
  rintro e w5 ⟨rfl, H7⟩
  have hhi : n5 = d % 4294967296 ^ k4 := hn5.out
  go_upto_if 31 with fail
  go_cut [13, 14] (fun v13 v14 wc => ∃ (A7 : Option Addr) (k7 c7 q : Nat) (A8 : Option Addr) (k8 c8 r : Nat), v13 = .slice A7 k7 c7 ∧ v14 = .slice A8 k8 c8 ∧ k7 ≤ 268435456 ∧ k8 ≤ 268435456 ∧ Hid (TriInv a d (q * n5) q (r * 4294967296 ^ k4 + a % 4294967296 ^ k4)) ∧ Has w0 wc ((A8, k8, c8, r) :: (A7, k7, c7, q) :: (A5, k5, c5, n5) :: l))
  case first =>
    have H8 := Lib.hid H7
    clear H7 hhi
    rcases HRC.out with ⟨hc1, hc2⟩ | ⟨hc1, hc2⟩
    · subst hc2
      have ht : n3 < n4 * 4294967296 ^ k4 := by rw [hn3.out, hn4.out]; exact twice_top HB.out (by rw [← pow_B2, ← hn6.out, ← hn4.out]; exact hc1)
      have HT := Lib.hid ht
      clear ht hc1
      go_wp2_with fail
      refine (IH.out k4 hh h0 hb _ _ _ H8.out A3 k3 c3 n3 A4 c4 n4 (by simp) (by simp) HT cut hcut).mono ?_
      rintro e w6 ⟨A9, k9, c9, n9, A10, k10, c10, n10, rfl, hn9, hn10, b9, b10, H9⟩
      go_wp2_with fail
      go_meet
      case rel =>
        refine ⟨A9, k9, c9, n9, A10, k10, c10, n10, rfl, rfl, by omega, by omega, Lib.hid ?_, H9.keep ?_⟩
        · rw [hn9.out, hn10.out, hn3.out, hn4.out, hn5.out]; exact TriInv.below HB.out HFP.out
        · intro p hp
          simp only [List.mem_cons] at hp ⊢
          rcases hp with rfl | rfl | rfl | hp <;> simp [*]
    · have hc3 : ¬ r < 0 := by rcases hc2 with h | h <;> omega
      obtain ⟨hta1, hta2⟩ := TriInv.above HB.out ha.out (by rw [← pow_B2, ← hn6.out, ← hn4.out]; exact hc1)
      have HTA1 := Lib.hid hta1
      have HTA2 := Lib.hid hta2
      have hone := H8.out.one 1 (by decide) (by decide)
      have HO := Lib.hid hone
      clear hc1 hc2 hta1 hta2 hone
      go_wp2_with fail
      refine (shl_h HO.out _ 1 1 1 _ (by simp) (by omega) (by omega) (by omega)).mono ?_
      rintro e w6 ⟨A9, k9, c9, n9, rfl, hn9, b9, H9⟩
      rw [HS32.out] at hn9 b9
      have hone := H9.one 1 (by decide) (by decide)
      have HO2 := Lib.hid hone
      clear hone
      go_wp2_with fail
      refine (sub_h HO2.out A9 k9 c9 n9 _ 1 1 1 (by simp) (by simp) (by omega) (by omega) (by rw [hn9.out, Nat.one_mul]; exact Nat.two_pow_pos _)).mono ?_
      rintro e w7 ⟨A10, k10, c10, n10, rfl, hn10, b10, H10⟩
      go_wp2_with fail
      refine (shl_h H10 A4 k4 c4 n4 _ (by simp) (by omega) (by omega) (by omega)).mono ?_
      rintro e w8 ⟨A11, k11, c11, n11, rfl, hn11, b11, H11⟩
      rw [HS32.out, pow_32] at hn11
      rw [HS32.out] at b11
      have hle : n11 ≤ n3 := by rw [hn11.out, hn3.out, hn4.out]; exact HTA1.out
      have HLE := Lib.hid hle
      clear hle
      go_wp2_with fail
      refine (sub_h H11 A3 k3 c3 n3 A11 k11 c11 n11 (by simp) (by simp) (by omega) (by omega) HLE.out).mono ?_
      rintro e w9 ⟨A12, k12, c12, n12, rfl, hn12, b12, H12⟩
      go_wp2_with fail
      refine (add_h H12 A12 k12 c12 n12 A4 k4 c4 n4 (by simp) (by simp) (by omega) (by omega)).mono ?_
      rintro e w10 ⟨A13, k13, c13, n13, rfl, hn13, b13, H13⟩
      go_wp2_with fail
      go_meet
      case rel =>
        refine ⟨A10, k10, c10, n10, A13, k13, c13, n13, rfl, rfl, by omega, by omega, Lib.hid ?_, H13.keep ?_⟩
        · rw [hn10.out, hn13.out, hn12.out, hn9.out, hn11.out, hn3.out, hn4.out, hn5.out, Nat.one_mul, pow_32]; exact HTA2.out
        · intro p hp
          simp only [List.mem_cons] at hp ⊢
          rcases hp with rfl | rfl | rfl | hp <;> simp [*]
  case rest =>
    obtain ⟨A7, k7, c7, q, A8, k8, c8, r8, rfl, rfl, b7, b8, HI, H8⟩ := hcut
    clear H7 hhi
    have hd2 := (H8.at (A := A2) (k := k2) (c := c2) (n := d) (by simp [h2])).2.1
    have HD2 := Lib.hid hd2
    have HD5 := Lib.hid (H8.at (A := A5) (k := k5) (c := c5) (n := n5) (by simp)).2.1
    clear hd2
    go_wp2_with fail
    refine (mul_h H8 A7 k7 c7 q A5 k5 c5 n5 (by simp) (by simp) (by omega) (by omega)).mono ?_
    rintro e w6 ⟨A9, k9, c9, P, rfl, hP, b9, H9⟩
    have HP := Lib.hid hP.out
    go_wp2_with fail
    refine (shl_h H9 A8 k8 c8 r8 _ (by simp) (by omega) (by omega) (by omega)).mono ?_
    rintro e w7 ⟨A10, k10, c10, n10, rfl, hn10, b10, H10⟩
    rw [HS32.out, pow_32] at hn10
    rw [HS32.out] at b10
    go_wp2_with fail
    refine (low_h H10 A1 k1 c1 a _ (by simp [h1]) (by omega) (by omega)).mono ?_
    rintro e w8 ⟨A11, k11, c11, n11, rfl, hn11, b11, H11⟩
    rw [HSH.out] at hn11 b11
    go_wp2_with fail
    refine (add_h H11 A10 k10 c10 n10 A11 k11 c11 n11 (by simp) (by simp) (by omega) (by omega)).mono ?_
    rintro e w9 ⟨A12, k12, c12, r, rfl, hr, b12, H12⟩
    have hI : TriInv a d P q r := by rw [hP.out, hr.out, hn10.out, hn11.out]; exact HI.out
    have HI2 := Lib.hid hI
    have h13 := H12.keep (l' := (A12, k12, c12, r) :: (A7, k7, c7, q) :: (A9, k9, c9, P) :: l) (by
      intro p hp
      simp only [List.mem_cons] at hp ⊢
      rcases hp with rfl | rfl | rfl | hp <;> simp [*])
    have H13 := Lib.hid h13
    clear hI h13 H8 H9 H10 H11 H12 HI hr hP hn10 hn11 hn6 hn5 hn4 hn3 b10 b11 b12 b3 b4 b6 H3 H4 H5 H6
    go_wp2_with fail
    go_loopw [13, 14] (fun v13 v14 wr => ∃ (A : Option Addr) (k c q : Nat) (A' : Option Addr) (k' c' r : Nat), v13 = .slice A k c ∧ v14 = .slice A' k' c' ∧ k ≤ 268435456 ∧ Hid (TriInv a d P q r) ∧ Hid (Has w0 wr ((A', k', c', r) :: (A, k, c, q) :: (A9, k9, c9, P) :: l))) (fun v13 v14 wr => numOf wr v13)
    case atStart => exact ⟨A7, k7, c7, q, A12, k12, c12, r, rfl, rfl, b7, HI2, H13⟩
    case round =>
      obtain ⟨A, k, c, q, A', k', c', r, rfl, rfl, bk, HT, HA⟩ := hrel
      have bk' : k' ≤ 402653185 := by
        rw [← HA.out.len (A := A') (k := k') (c := c') (n := r) (by simp)]
        refine Nat.le_trans (len_mono (Nat.le_of_lt HT.out.lt)) (Nat.le_trans (len_add P d) ?_)
        rw [HA.out.len (A := A9) (k := k9) (c := c9) (n := P) (by simp), HD2.out]
        omega
      obtain ⟨z, hz⟩ : ∃ z, cmpI r P = z := ⟨_, rfl⟩
      have hzc := cmp_case r P
      rw [hz] at hzc
      have HZ := Lib.hid hz
      clear hz
      have hzq : Hid (numOf wr (.slice A k c) = q) := Lib.hid (HA.out.numOf (by simp))
      rcases hzc with ⟨hc1, hc2⟩ | ⟨hc1, hc2⟩
      · subst hc2
        obtain ⟨s1, s2⟩ := HT.out.step hc1
        have HS1 := Lib.hid s1
        have HS2 := Lib.hid s2
        clear s1 s2 hc1
        go_wp2_with fail
        refine (cmp_h HA.out A' k' c' r A9 k9 c9 P (by simp) (by simp) (by omega) (by omega) _ HZ).mono ?_
        rintro e w10 ⟨rfl, H10⟩
        go_wp2_with fail
        refine (add_h H10 A' k' c' r A2 k2 c2 d (by simp) (by simp [h2]) (by omega) (by omega)).mono ?_
        rintro e w11 ⟨A14, k14, c14, n14, rfl, hn14, b14, H14⟩
        have hone := H14.one 1 (by decide) (by decide)
        have HO2 := Lib.hid hone
        clear hone
        go_wp2_with fail
        refine (sub_h HO2.out A k c q _ 1 1 1 (by simp) (by simp) (by omega) (by omega) HS1.out).mono ?_
        rintro e w12 ⟨A15, k15, c15, n15, rfl, hn15, b15, H15⟩
        obtain rfl : n15 = q - 1 := hn15.out
        obtain rfl : n14 = r + d := hn14.out
        have h16 := H15.keep (l' := (A14, k14, c14, r + d) :: (A15, k15, c15, q - 1) :: (A9, k9, c9, P) :: l) (by
          intro p hp
          simp only [List.mem_cons] at hp ⊢
          rcases hp with rfl | rfl | rfl | hp <;> simp [*])
        have H16 := Lib.hid h16
        clear h16
        go_wp2_with fail
        refine ⟨⟨A15, k15, c15, q - 1, A14, k14, c14, r + d, rfl, rfl, by omega, HS2, H16⟩, ?_⟩
        rw [hzq.out, H16.out.numOf (A := A15) (k := k15) (c := c15) (n := q - 1) (by simp)]
        have := HS1.out
        omega
      · have hc3 : ¬ z < 0 := by rcases hc2 with h | h <;> omega
        obtain ⟨f1, f2⟩ := HT.out.fin HD.out hc1
        have HC1 := Lib.hid hc1
        have F1 := Lib.hid f1
        have F2 := Lib.hid f2
        clear f1 f2 hc1 hc2
        go_wp2_with fail
        refine (cmp_h HA.out A' k' c' r A9 k9 c9 P (by simp) (by simp) (by omega) (by omega) _ HZ).mono ?_
        rintro e w10 ⟨rfl, H10⟩
        go_wp2_with fail
        refine (sub_h H10 A' k' c' r A9 k9 c9 P (by simp) (by simp) (by omega) (by omega) HC1.out).mono ?_
        rintro e w12 ⟨A15, k15, c15, n15, rfl, hn15, b15, H15⟩
        go_wp2_with fail
        go_ret2
        have eq1 := H15.len (A := A) (k := k) (c := c) (n := q) (by simp)
        have er1 := H15.len (A := A15) (k := k15) (c := c15) (n := n15) (by simp)
        have ea := H15.len (A := A1) (k := k1) (c := c1) (n := a) (by simp [h1])
        refine ⟨A, k, c, q, A15, k15, c15, n15, rfl, F1, Lib.hid (by rw [hn15.out, F2.out]), ?_, ?_, H15.keep ?_⟩
        · rw [← eq1, ← ea, F1.out]; exact len_div a d
        · rw [← er1, ← HD2.out, hn15.out, F2.out]; exact len_mono (Nat.le_of_lt (Nat.mod_lt _ HD.out))
        · intro p hp
          simp only [List.mem_cons] at hp ⊢
          rcases hp with rfl | rfl | hp <;> simp [*]
end Go.Proofs.YtfcfejlffmddnaaGreatDoor
end
section
/- Contracts: twice. -/
namespace Go.Proofs.YtfcfejlffmddnaaGreatDoor
open Go.RowKit
set_option linter.unusedSimpArgs false
set_option linter.unusedVariables false

set_option maxRecDepth 10000 in
set_option maxHeartbeats 4000000 in
theorem twice_step (N : Nat) (ih : TwiceSaid N) : TwiceSaid (N + 1) := by
  intro n hnN h0 hb w0 w l H A1 k1 c1 a A2 c2 d h1 h2 ha cut hcut
  have e1 := (H.at h1).2.1
  have e2 := (H.at h2).2.1
  have hdpos : 0 < d := pos_of_len e2 h0
  have hk1 : k1 ≤ 2 * n := by have := len_lt_mul ha.out e2 e1; omega
  have tq : (dg (a / d)).length ≤ 2 * n := by have := len_div a d; omega
  have tr : (dg (a % d)).length ≤ n := by rw [← e2]; exact len_mono (Nat.le_of_lt (Nat.mod_lt _ hdpos))
  have TQ := Lib.hid tq
  have TR := Lib.hid tr
  have HD := Lib.hid hdpos
  have HH := Lib.hid H
  by_cases hsmall : n % 2 = 1 ∨ (n : Int) < cut
  · have HS := Lib.hid hsmall
    clear e1 e2 hdpos tq tr H ih hsmall
    have hlong := @long_h w0 w l HH.out A1 k1 c1 a A2 n c2 d h1 h2 (by omega) (by omega) HD.out
    have HL := Lib.hid hlong
    clear hlong
    rcases HS.out with h3 | h3
    · have hm : (n : Int) % 2 = 1 := by omega
      go_enter Tryz.func115, Tryz.ntmps115
      go_wp2_with fail
      refine HL.out.mono ?_
      rintro e w1 ⟨A3, k3, c3, n3, A4, k4, c4, n4, rfl, hn3, hn4, b3, b4, H1⟩
      go_wp2_with fail
      go_ret2
      exact ⟨A3, k3, c3, n3, A4, k4, c4, n4, rfl, hn3, hn4, by omega, by omega, H1⟩
    · by_cases hm : n % 2 = 1
      · have hm : (n : Int) % 2 = 1 := by omega
        go_enter Tryz.func115, Tryz.ntmps115
        go_wp2_with fail
        refine HL.out.mono ?_
        rintro e w1 ⟨A3, k3, c3, n3, A4, k4, c4, n4, rfl, hn3, hn4, b3, b4, H1⟩
        go_wp2_with fail
        go_ret2
        exact ⟨A3, k3, c3, n3, A4, k4, c4, n4, rfl, hn3, hn4, by omega, by omega, H1⟩
      · have hm : (n : Int) % 2 = 0 := by omega
        have hm2 : ((n : Int) % 2 == 1) = false := by rw [hm]; rfl
        go_enter Tryz.func115, Tryz.ntmps115
        go_wp2_with fail
        refine HL.out.mono ?_
        rintro e w1 ⟨A3, k3, c3, n3, A4, k4, c4, n4, rfl, hn3, hn4, b3, b4, H1⟩
        go_wp2_with fail
        go_ret2
        exact ⟨A3, k3, c3, n3, A4, k4, c4, n4, rfl, hn3, hn4, by omega, by omega, H1⟩
  · obtain ⟨h, hh⟩ : ∃ h, n = 2 * h := ⟨n / 2, by omega⟩
    have hm : (n : Int) % 2 = 0 := by omega
    have hge : ¬ (n : Int) < cut := by omega
    have hq : (n : Int) / 2 = h := by omega
    have hB : 0 < 4294967296 ^ h := Nat.pow_pos (by decide)
    have h3 := thrice_step N ih h (by omega) (by omega) (by omega)
    have hs32 : (32 * (h : Int)).toNat = 32 * h := by omega
    have hsh : (h : Int).toNat = h := by omega
    have hh1 : 1 ≤ h := by omega
    have hhb : h ≤ 67108864 := by omega
    have hkh : k1 ≤ 268435456 := by omega
    have HA2 : Hid (a < d * (4294967296 ^ h * 4294967296 ^ h)) := Lib.hid (by rw [← pow_B2, ← hh]; exact ha.out)
    have HSH := Lib.hid hsh
    have HS32 := Lib.hid hs32
    have HB := Lib.hid hB
    have HT := Lib.hid h3
    have HN := Lib.hid hh
    clear e1 e2 hdpos tq tr H ih hsmall hh hB h3 hs32 hsh hnN h0
    go_enter Tryz.func115, Tryz.ntmps115
    go_wp2_with fail
    refine (high_h HH.out A1 k1 c1 a _ h1 (by omega) (by omega)).mono ?_
    rintro e w1 ⟨A3, k3, c3, n3, rfl, hn3, b3, H3⟩
    rw [HSH.out] at hn3 b3
    go_wp2_with fail
    refine (HT.out _ _ _ H3 A3 k3 c3 n3 A2 n c2 d (by simp) (by simp [h2]) HN (Lib.hid (by rw [hn3.out]; exact twice_high HB.out HA2.out)) cut hcut).mono ?_
    rintro e w2 ⟨A4, k4, c4, n4, A5, k5, c5, n5, rfl, hn4, hn5, b4, b5, H4⟩
    rw [hn3.out] at hn4 hn5
    go_wp2_with fail
    refine (shl_h H4 A5 k5 c5 n5 _ (by simp) (by omega) (by omega) (by omega)).mono ?_
    rintro e w3 ⟨A6, k6, c6, n6, rfl, hn6, b6, H6⟩
    rw [HS32.out, pow_32] at hn6
    rw [HS32.out] at b6
    go_wp2_with fail
    refine (low_h H6 A1 k1 c1 a _ (by simp [h1]) (by omega) (by omega)).mono ?_
    rintro e w4 ⟨A7, k7, c7, n7, rfl, hn7, b7, H7⟩
    rw [HSH.out] at hn7 b7
    go_wp2_with fail
    refine (add_h H7 A6 k6 c6 n6 A7 k7 c7 n7 (by simp) (by simp) (by omega) (by omega)).mono ?_
    rintro e w5 ⟨A8, k8, c8, n8, rfl, hn8, b8, H8⟩
    rw [hn6.out, hn7.out] at hn8
    go_wp2_with fail
    refine (HT.out _ _ _ H8 A8 k8 c8 n8 A2 n c2 d (by simp) (by simp [h2]) HN (Lib.hid (by rw [hn8.out]; exact twice_low HD.out HB.out hn5.out)) cut hcut).mono ?_
    rintro e w6 ⟨A9, k9, c9, n9, A10, k10, c10, n10, rfl, hn9, hn10, b9, b10, H9⟩
    rw [hn8.out] at hn9 hn10
    go_wp2_with fail
    refine (shl_h H9 A4 k4 c4 n4 _ (by simp) (by omega) (by omega) (by omega)).mono ?_
    rintro e w7 ⟨A11, k11, c11, n11, rfl, hn11, b11, H11⟩
    rw [HS32.out, pow_32] at hn11
    rw [HS32.out] at b11
    go_wp2_with fail
    refine (add_h H11 A11 k11 c11 n11 A9 k9 c9 n9 (by simp) (by simp) (by omega) (by omega)).mono ?_
    rintro e w8 ⟨A12, k12, c12, n12, rfl, hn12, b12, H12⟩
    go_wp2_with fail
    go_ret2
    obtain ⟨f1, f2⟩ := twice_fin HD.out HB.out hn4.out hn5.out hn9.out hn10.out
    have eq1 := H12.len (A := A12) (k := k12) (c := c12) (n := n12) (by simp)
    have er1 := H12.len (A := A10) (k := k10) (c := c10) (n := n10) (by simp)
    refine ⟨A12, k12, c12, n12, A10, k10, c10, n10, rfl, Lib.hid (by rw [hn12.out, hn11.out, f1]), Lib.hid f2, ?_, ?_, H12.keep ?_⟩
    · rw [← eq1, hn12.out, hn11.out, f1]; exact TQ.out
    · rw [← er1, f2]; exact TR.out
    · intro p hp
      simp only [List.mem_cons] at hp ⊢
      rcases hp with rfl | rfl | hp <;> simp [*]
theorem twice_said (N : Nat) : TwiceSaid N := by
  induction N with
  | zero => intro n h; omega
  | succ N ih => exact twice_step N ih
theorem twice_h {w0 w : World} {l : List (Option Addr × Nat × Nat × Nat)} (H : Has w0 w l) (n : Nat) (h0 : 1 ≤ n) (hb : n ≤ 67108864) (A1 : Option Addr) (k1 c1 a : Nat) (A2 : Option Addr) (c2 d : Nat) (h1 : (A1, k1, c1, a) ∈ l) (h2 : (A2, n, c2, d) ∈ l) (ha : Hid (a < d * 4294967296 ^ n)) (cut : Int) (hc : 2 ≤ cut) :
    Calls Tryz.prog 115 #[.slice A1 k1 c1, .slice A2 n c2, .int .i64 n, .int .i64 cut] w (Made2 w0 l (a / d) (a % d) (2 * n) n) :=
  twice_said (n + 1) n (Nat.lt_succ_self _) h0 hb w0 w l H A1 k1 c1 a A2 c2 d h1 h2 ha cut hc
end Go.Proofs.YtfcfejlffmddnaaGreatDoor
end
section
/- Contracts: blocks. -/
namespace Go.Proofs.YtfcfejlffmddnaaGreatDoor
open Go.RowKit
set_option linter.unusedSimpArgs false
set_option linter.unusedVariables false

/-- The first loop: the size of a block. -/
structure HalfInv (k m h : Nat) : Prop where
  pos : 1 ≤ m
  up : k ≤ m * 2 ^ h
  low : (m - 1) * 2 ^ h < k
  two : 2 ^ h ≤ 2 * k
theorem HalfInv.start {k : Nat} (hk : 1 ≤ k) : HalfInv k k 0 := ⟨hk, by omega, by omega, by omega⟩
theorem HalfInv.step {k m h : Nat} (H : HalfInv k m h) (hm : 2 ≤ m) : HalfInv k ((m + 1) / 2) (h + 1) := by
  obtain ⟨h1, h2, h3, h4⟩ := H
  have e1 : (m + 1) / 2 * 2 ^ (h + 1) = 2 * ((m + 1) / 2) * 2 ^ h := by rw [Nat.pow_succ]; grind
  have e2 : ((m + 1) / 2 - 1) * 2 ^ (h + 1) = 2 * ((m + 1) / 2 - 1) * 2 ^ h := by rw [Nat.pow_succ]; grind
  have e3 : (2 : Nat) ^ (h + 1) = 2 * 2 ^ h := by rw [Nat.pow_succ]; omega
  refine ⟨by omega, ?_, ?_, ?_⟩
  · rw [e1]; exact Nat.le_trans h2 (Nat.mul_le_mul_right _ (by omega))
  · rw [e2]; exact Nat.lt_of_le_of_lt (Nat.mul_le_mul_right _ (by omega)) h3
  · have : 1 * 2 ^ h ≤ (m - 1) * 2 ^ h := Nat.mul_le_mul_right _ (by omega)
    omega
theorem HalfInv.fin {k m h : Nat} (H : HalfInv k m h) : k ≤ m * 2 ^ h ∧ m * 2 ^ h ≤ 3 * k := by
  obtain ⟨h1, h2, h3, h4⟩ := H
  refine ⟨h2, ?_⟩
  have : m * 2 ^ h = (m - 1) * 2 ^ h + 2 ^ h := by
    obtain ⟨p, rfl⟩ : ∃ p, m = p + 1 := ⟨m - 1, by omega⟩
    rw [Nat.add_sub_cancel, Nat.add_mul, Nat.one_mul]
  omega
/-- The divisor, laid at the head of n digits. -/
theorem head_len {y n s : Nat} (hy : 0 < y) (hn : 0 < n) (hs : s + bl y = 32 * n) : (dg (y * 2 ^ s)).length = n := by
  have h1 : y < 2 ^ bl y := bl_lt y
  have hb : bl y ≠ 0 := by
    intro h
    rw [h] at h1
    omega
  have h2 : 2 ^ (bl y - 1) ≤ y := by
    refine Nat.le_of_not_lt fun h => ?_
    have := bl_le.2 h
    omega
  refine Nat.le_antisymm ?_ ?_
  · refine len_of_lt ?_
    rw [← pow_32, ← hs, Nat.add_comm, Nat.pow_add]
    exact Nat.mul_lt_mul_of_pos_right h1 (Nat.two_pow_pos s)
  · obtain ⟨p, rfl⟩ : ∃ p, n = p + 1 := ⟨n - 1, by omega⟩
    refine (dg_len_lt _ p).2 ?_
    rw [BB_nat]
    refine Int.ofNat_le.2 ?_
    rw [← pow_32]
    refine Nat.le_trans (Nat.pow_le_pow_right (by decide) (show 32 * p ≤ bl y - 1 + s by omega)) ?_
    rw [Nat.pow_add]
    exact Nat.mul_le_mul_right _ h2
/-- One block more. -/
theorem block_step {x d n j quo rest : Nat} (h1 : quo = x / 4294967296 ^ ((j + 1) * n) / d) (h2 : rest = x / 4294967296 ^ ((j + 1) * n) % d) :
    quo = x / 4294967296 ^ (j * n) / 4294967296 ^ n / d ∧ rest = x / 4294967296 ^ (j * n) / 4294967296 ^ n % d := by
  have e : x / 4294967296 ^ (j * n) / 4294967296 ^ n = x / 4294967296 ^ ((j + 1) * n) := by
    rw [Nat.div_div_eq_div_mul, ← Nat.pow_add, Nat.add_mul, Nat.one_mul]
  rw [e]; exact ⟨h1, h2⟩
theorem block_start {x n J : Nat} (h : (dg x).length ≤ J * n) : x / 4294967296 ^ (J * n) = 0 := Nat.div_eq_of_lt (lt_of_len h)
theorem block_fin {a b s quo rest : Nat} (h1 : quo = a * 2 ^ s / 4294967296 ^ 0 / (b * 2 ^ s)) (h2 : rest = a * 2 ^ s / 4294967296 ^ 0 % (b * 2 ^ s)) : quo = a / b ∧ rest = a % b * 2 ^ s := by
  rw [Nat.pow_zero, Nat.div_one] at h1 h2
  rw [Nat.mul_div_mul_right _ _ (Nat.two_pow_pos s)] at h1
  rw [Nat.mul_mod_mul_right] at h2
  exact ⟨h1, h2⟩
end Go.Proofs.YtfcfejlffmddnaaGreatDoor
end
section
/- Contracts: blocks. -/
namespace Go.Proofs.YtfcfejlffmddnaaGreatDoor
open Go.RowKit
set_option linter.unusedSimpArgs false
set_option linter.unusedVariables false

variable {w0 w : World} {l : List (Option Addr × Nat × Nat × Nat)}
set_option maxRecDepth 10000 in
set_option maxHeartbeats 4000000 in
theorem blocks_great (H : Has w0 w l) (A1 : Option Addr) (k1 c1 a : Nat) (A2 : Option Addr) (k2 c2 b : Nat) (h1 : (A1, k1, c1, a) ∈ l) (h2 : (A2, k2, c2, b) ∈ l) (b1 : k1 ≤ 16777216) (b2 : k2 ≤ 16777216) (cut : Int) (hc : 2 ≤ cut) (hge : cut ≤ k2) :
    Calls Tryz.prog 77 #[.slice A1 k1 c1, .slice A2 k2 c2, .int .i64 cut] w (Made2 w0 l (a / b) (a % b) k1 k2) := by
  have e1 := (H.at h1).2.1
  have e2 := (H.at h2).2.1
  have hbpos : 0 < b := pos_of_len e2 (by omega)
  have tq : (dg (a / b)).length ≤ k1 := by rw [← e1]; exact len_div a b
  have tr : (dg (a % b)).length ≤ k2 := by rw [← e2]; exact len_mono (Nat.le_of_lt (Nat.mod_lt _ hbpos))
  have hst := HalfInv.start (k := k2) (by omega)
  have hbl : bl b ≤ 32 * k2 := by rw [← e2]; exact bl_len b
  have TQ := Lib.hid tq
  have TR := Lib.hid tr
  have HBP := Lib.hid hbpos
  have HST := Lib.hid hst
  have HBL := Lib.hid hbl
  have HH := Lib.hid H
  have hng : ¬ (k2 : Int) < cut := by omega
  clear e1 e2 hbpos tq tr hst hbl H
  go_enter Tryz.func77, Tryz.ntmps77
  go_upto_block 0 with fail
  go_cut [8, 9] (fun v8 v9 wc => ∃ m h : Nat, v8 = .int .i64 m ∧ v9 = .int .i64 h ∧ m ≤ k2 ∧ h ≤ 60 ∧ Hid (HalfInv k2 m h) ∧ wc = w)
  case first =>
    go_wp2_with fail
    go_loopw [8, 9] (fun v8 v9 wr => ∃ m h : Nat, v8 = .int .i64 m ∧ v9 = .int .i64 h ∧ m ≤ k2 ∧ h + m ≤ k2 ∧ Hid (HalfInv k2 m h) ∧ wr = w) (fun v8 v9 wr => (intOf v8).toNat)
    case atStart => exact ⟨k2, 0, rfl, rfl, Nat.le_refl _, by omega, HST, rfl⟩
    case round =>
      obtain ⟨m, h, rfl, rfl, hm, hh, HI, rfl⟩ := hrel
      by_cases hcm : cut ≤ (m : Int)
      · have hs := HI.out.step (by omega)
        obtain ⟨m', hm'⟩ : ∃ m' : Nat, ((m : Int) + 1) / 2 = m' := ⟨(m + 1) / 2, by omega⟩
        have e : (m + 1) / 2 = m' := by omega
        rw [e] at hs
        have HS := Lib.hid hs
        clear hs e
        go_wp2_with fail
        refine ⟨⟨m', h + 1, by rw [hm'], by go_num, by omega, by omega, HS, trivial⟩, ?_⟩
        simp [intOf]; omega
      · go_wp2_with fail
        go_meet
        case rel => 
          refine ⟨m, h, rfl, rfl, hm, ?_, HI, rfl⟩
          refine Nat.le_of_not_lt fun hlt => ?_
          have h1 : (2 : Nat) ^ 61 ≤ 2 ^ h := Nat.pow_le_pow_right (by decide) hlt
          have h2 := HI.out.two
          have h3 : (2 : Nat) ^ 61 = 2305843009213693952 := by decide
          omega
  case rest => 
    obtain ⟨m, h, rfl, rfl, hm, hh, HI, rfl⟩ := hcut
    obtain ⟨n, hn⟩ : ∃ n, m * 2 ^ h = n := ⟨_, rfl⟩
    obtain ⟨f1, f2⟩ := HI.out.fin
    rw [hn] at f1 f2
    have hwn : wrap64 ((m : Int) * 2 ^ h) = n := by
      have e : ((m : Int) * 2 ^ h) = n := by rw [← hn]; push_cast; rfl
      rw [e]; unfold wrap64; omega
    have hn1 : 1 ≤ n := by omega
    have hnb : n ≤ 50331648 := by omega
    obtain ⟨s, hs⟩ : ∃ s, s + bl b = 32 * n := ⟨32 * n - bl b, by have := HBL.out; omega⟩
    have hss : (32 * (n : Int) - bl b) = s := by omega
    have hdl := head_len HBP.out hn1 hs
    have hsb : s ≤ 1610612736 := by omega
    have HDL := Lib.hid hdl
    have HSS := Lib.hid hss
    have h32n : (32 * (n : Int)).toNat = 32 * n := by omega
    have H32 := Lib.hid h32n
    clear hn f1 f2 hdl hs hss h32n HI HST
    go_wp2_with fail
    refine (size_h HH.out A2 k2 c2 b h2 (by omega)).mono ?_
    rintro e w1 ⟨rfl, rfl⟩
    have hbl0 : bl b ≤ 32 * k2 := HBL.out
    go_wp2_with fail
    rw [HSS.out]
    clear hwn hbl0
    refine (shl_h HH.out A2 k2 c2 b _ h2 (by omega) (by omega) (by omega)).mono ?_
    rintro e w1 ⟨A3, k3, c3, n3, rfl, hn3, b3, H3⟩
    rw [Int.toNat_natCast] at hn3 b3
    obtain rfl : n3 = b * 2 ^ s := hn3.out
    obtain rfl : k3 = n := by rw [← H3.len (A := A3) (k := k3) (c := c3) (n := b * 2 ^ s) (by simp), HDL.out]
    go_wp2_with fail
    refine (shl_h H3 A1 k1 c1 a _ (by simp [h1]) (by omega) (by omega) (by omega)).mono ?_
    rintro e w2 ⟨A4, kx, c4, x, rfl, hx, b4, H4⟩
    rw [Int.toNat_natCast] at hx b4
    have HX := Lib.hid hx.out
    obtain ⟨J, hJ⟩ : ∃ J : Nat, (kx + k3 - 1) / k3 = J := ⟨_, rfl⟩
    have hJd := Nat.div_add_mod (kx + k3 - 1) k3
    have hJm := Nat.mod_lt (kx + k3 - 1) (show 0 < k3 by omega)
    rw [hJ] at hJd
    have hJ1 : kx ≤ J * k3 := by rw [Nat.mul_comm]; omega
    have hJ2 : J * k3 ≤ kx + k3 := by rw [Nat.mul_comm]; omega
    have hJ3 : J ≤ J * k3 := Nat.le_mul_of_pos_right _ (by omega)
    have hJi : ((kx : Int) + k3 - 1) / k3 = J := by
      rw [← hJ]; push_cast
      rw [show ((kx + k3 - 1 : Nat) : Int) = (kx : Int) + k3 - 1 by omega]
    have hkx : kx ≤ 134217728 := by omega
    have hJb : J * k3 ≤ 268435456 := by omega
    have hst : x / 4294967296 ^ (J * k3) = 0 := block_start (by rw [H4.len (A := A4) (k := kx) (c := c4) (n := x) (by simp)]; exact hJ1)
    have hxl := H4.len (A := A4) (k := kx) (c := c4) (n := x) (by simp)
    have HXL := Lib.hid hxl
    have HST := Lib.hid hst
    have hz0 := H4.cons (A := none) (k := 0) (c := 0) (n := 0) (by rw [dg_zero]; exact Rd.nil) (by rw [dg_zero]; rfl) (Nat.le_refl _) (by omega)
    have hz1 := hz0.cons (A := none) (k := 0) (c := 0) (n := 0) (by rw [dg_zero]; exact Rd.nil) (by rw [dg_zero]; rfl) (Nat.le_refl _) (by omega)
    have HZ1 := Lib.hid hz1
    have HJB := Lib.hid hJb
    have HH4 := Lib.hid H4
    have hJb2 : J ≤ 268435456 := by omega
    have hsh3 : (k3 : Int).toNat = k3 := by omega
    have HSH := Lib.hid hsh3
    clear hJ hJd hJm hJ1 hJ2 hJ3 hst hz0 hz1 hx hn3 b3 hxl H4 H3 hJb hsh3
    go_wp2_with fail
    go_loopw [13, 14, 15, 16, 17] (fun v13 v14 v15 v16 v17 wr => ∃ (j : Nat) (A : Option Addr) (k c q : Nat) (A' : Option Addr) (k' c' r : Nat), j ≤ J ∧ v13 = .slice A k c ∧ v14 = .slice A' k' c' ∧ v15 = .int .i64 ((j : Int) - 1) ∧ Hid (q = x / 4294967296 ^ (j * k3) / (b * 2 ^ s)) ∧ Hid (r = x / 4294967296 ^ (j * k3) % (b * 2 ^ s)) ∧ Hid (Has w0 wr ((A, k, c, q) :: (A', k', c', r) :: (A4, kx, c4, x) :: (A3, k3, c3, b * 2 ^ s) :: l))) (fun v13 v14 v15 v16 v17 wr => (intOf v15 + 1).toNat)
    case atStart => exact ⟨J, none, 0, 0, 0, none, 0, 0, 0, Nat.le_refl _, rfl, rfl, rfl, Lib.hid (by rw [HST.out, Nat.zero_div]), Lib.hid (by rw [HST.out, Nat.zero_mod]), HZ1⟩
    case round =>
      clear hJi
      obtain ⟨j, A, k, c, q, A', k', c', r, hj, rfl, rfl, rfl, hq, hr, HA⟩ := hrel
      cases j with
      | zero =>
        have hz : ¬ (0 : Int) ≤ ((0 : Nat) : Int) - 1 := by omega
        obtain ⟨f1, f2⟩ := block_fin (a := a) (b := b) (s := s) (quo := q) (rest := r) (by rw [← HX.out]; have := hq.out; rwa [Nat.zero_mul] at this) (by rw [← HX.out]; have := hr.out; rwa [Nat.zero_mul] at this)
        have F1 := Lib.hid f1
        have F2 := Lib.hid f2
        have hk' : k' ≤ k3 := by
          have e1 := HA.out.len (A := A') (k := k') (c := c') (n := r) (by simp)
          rw [← e1, ← HDL.out]
          refine len_mono ?_
          rw [hr.out]; exact Nat.le_of_lt (Nat.mod_lt _ (Nat.mul_pos HBP.out (Nat.two_pow_pos s)))
        clear f1 f2
        go_wp2_with fail
        refine (shr_h HA.out A' k' c' r _ (by simp) (by omega) (by omega)).mono ?_
        rintro e w3 ⟨A5, k5, c5, n5, rfl, hn5, b5, H5⟩
        rw [Int.toNat_natCast, F2.out, Nat.mul_div_cancel _ (Nat.two_pow_pos s)] at hn5
        go_wp2_with fail
        go_ret2
        have eq1 := H5.len (A := A) (k := k) (c := c) (n := q) (by simp)
        have er1 := H5.len (A := A5) (k := k5) (c := c5) (n := n5) (by simp)
        refine ⟨A, k, c, q, A5, k5, c5, n5, rfl, F1, hn5, ?_, ?_, H5.keep ?_⟩
        · rw [← eq1, F1.out]; exact TQ.out
        · rw [← er1, hn5.out]; exact TR.out
        · intro p hp
          simp only [List.mem_cons] at hp ⊢
          rcases hp with rfl | rfl | hp <;> simp [*]
      | succ j =>
        have hz : ((j + 1 : Nat) : Int) - 1 = j := by omega
        rw [hz]
        clear hz
        have hjb : (j : Int) * k3 ≤ 268435456 := by
          have h1 : j * k3 ≤ J * k3 := Nat.mul_le_mul_right _ (by omega)
          have h2 := HJB.out
          have h3 : ((j * k3 : Nat) : Int) ≤ 268435456 := by omega
          rwa [Int.natCast_mul] at h3
        have hjb0 : (0 : Int) ≤ (j : Int) * k3 := Int.mul_nonneg (by omega) (by omega)
        have hjt : ((j : Int) * k3).toNat = j * k3 := by rw [← Int.natCast_mul, Int.toNat_natCast]
        have HJT := Lib.hid hjt
        obtain ⟨g1, g2⟩ := block_step hq.out hr.out
        have G1 := Lib.hid g1
        have G2 := Lib.hid g2
        have hdp : 0 < b * 2 ^ s := Nat.mul_pos HBP.out (Nat.two_pow_pos s)
        have HDP := Lib.hid hdp
        have hW : 0 < 4294967296 ^ k3 := Nat.pow_pos (by decide)
        have HW := Lib.hid hW
        have hk' : k' ≤ k3 := by
          have e1 := HA.out.len (A := A') (k := k') (c := c') (n := r) (by simp)
          rw [← e1, ← HDL.out]
          refine len_mono ?_
          rw [hr.out]; exact Nat.le_of_lt (Nat.mod_lt _ hdp)
        have hk : k ≤ kx := by
          have e1 := HA.out.len (A := A) (k := k) (c := c) (n := q) (by simp)
          rw [← e1, ← HXL.out]
          refine len_mono ?_
          rw [hq.out]; exact Nat.le_trans (Nat.div_le_self _ _) (Nat.div_le_self _ _)
        clear hjt g1 g2 hdp hW
        go_wp2_with fail
        refine (high_h HA.out A4 kx c4 x _ (by simp) (by omega) (by omega)).mono ?_
        rintro e w3 ⟨A5, k5, c5, n5, rfl, hn5, b5, H5⟩
        rw [HJT.out] at hn5 b5
        go_wp2_with fail
        refine (low_h H5 A5 k5 c5 n5 _ (by simp) (by omega) (by omega)).mono ?_
        rintro e w4 ⟨A6, k6, c6, n6, rfl, hn6, b6, H6⟩
        rw [HSH.out, hn5.out] at hn6
        rw [HSH.out] at b6
        go_wp2_with fail
        refine (shl_h H6 A' k' c' r _ (by simp) (by omega) (by omega) (by omega)).mono ?_
        rintro e w5 ⟨A7, k7, c7, n7, rfl, hn7, b7, H7⟩
        rw [H32.out, pow_32] at hn7
        rw [H32.out] at b7
        go_wp2_with fail
        refine (add_h H7 A7 k7 c7 n7 A6 k6 c6 n6 (by simp) (by simp) (by omega) (by omega)).mono ?_
        rintro e w6 ⟨A8, k8, c8, n8, rfl, hn8, b8, H8⟩
        rw [hn7.out, hn6.out] at hn8
        go_wp2_with fail
        refine (twice_h H8 k3 hn1 (by omega) A8 k8 c8 n8 A3 c3 (b * 2 ^ s) (by simp) (by simp) (Lib.hid (by rw [hn8.out]; exact twice_low HDP.out HW.out G2.out)) cut hc).mono ?_
        rintro e w7 ⟨A9, k9, c9, n9, A10, k10, c10, n10, rfl, hn9, hn10, b9, b10, H9⟩
        rw [hn8.out] at hn9 hn10
        go_wp2_with fail
        refine (shl_h H9 A k c q _ (by simp) (by omega) (by omega) (by omega)).mono ?_
        rintro e w8 ⟨A11, k11, c11, n11, rfl, hn11, b11, H11⟩
        rw [H32.out, pow_32] at hn11
        rw [H32.out] at b11
        go_wp2_with fail
        refine (add_h H11 A11 k11 c11 n11 A9 k9 c9 n9 (by simp) (by simp) (by omega) (by omega)).mono ?_
        rintro e w9 ⟨A12, k12, c12, n12, rfl, hn12, b12, H12⟩
        rw [hn11.out] at hn12
        obtain ⟨f1, f2⟩ := twice_fin HDP.out HW.out G1.out G2.out hn9.out hn10.out
        have F1 := Lib.hid f1
        have F2 := Lib.hid f2
        clear f1 f2
        go_wp2_with fail
        refine ⟨⟨j, A12, k12, c12, n12, A10, k10, c10, n10, by omega, rfl, rfl, rfl, Lib.hid (by rw [hn12.out, F1.out]), F2, Lib.hid (H12.keep ?_)⟩, by simp [intOf]⟩
        intro p hp
        simp only [List.mem_cons] at hp ⊢
        rcases hp with rfl | rfl | rfl | rfl | hp <;> simp [*]
end Go.Proofs.YtfcfejlffmddnaaGreatDoor
end
section
/- Contracts: blocks as one, root. -/
namespace Go.Proofs.YtfcfejlffmddnaaGreatDoor
open Go.RowKit
set_option linter.unusedSimpArgs false
set_option linter.unusedVariables false

variable {w0 w : World} {l : List (Option Addr × Nat × Nat × Nat)}
set_option maxHeartbeats 1000000 in
theorem blocks_h (H : Has w0 w l) (A1 : Option Addr) (k1 c1 a : Nat) (A2 : Option Addr) (k2 c2 b : Nat) (h1 : (A1, k1, c1, a) ∈ l) (h2 : (A2, k2, c2, b) ∈ l) (b1 : k1 ≤ 16777216) (b2 : k2 ≤ 16777216) (cut : Int) (hc : 2 ≤ cut) (hb : 0 < b) :
    Calls Tryz.prog 77 #[.slice A1 k1 c1, .slice A2 k2 c2, .int .i64 cut] w (Made2 w0 l (a / b) (a % b) k1 k2) := by
  by_cases hge : cut ≤ (k2 : Int)
  · exact blocks_great H A1 k1 c1 a A2 k2 c2 b h1 h2 b1 b2 cut hc hge
  · have hl := long_h H A1 k1 c1 a A2 k2 c2 b h1 h2 (by omega) (by omega) hb
    have HL := Lib.hid hl
    have hlt : (k2 : Int) < cut := by omega
    clear hl hge
    go_enter Tryz.func77, Tryz.ntmps77
    go_wp2_with fail
    refine HL.out.mono ?_
    rintro e w1 ⟨A3, k3, c3, n3, A4, k4, c4, n4, rfl, hn3, hn4, b3, b4, H1⟩
    go_wp2_with fail
    go_ret2
    exact ⟨A3, k3, c3, n3, A4, k4, c4, n4, rfl, hn3, hn4, b3, b4, H1⟩
end Go.Proofs.YtfcfejlffmddnaaGreatDoor
end
section
/- Plain laws: roots. -/
namespace Go.Proofs.YtfcfejlffmddnaaGreatDoor
set_option linter.unusedSimpArgs false
set_option linter.unusedVariables false

/-- The border of the root's loop. -/
structure RootInv (a n x0 x : Nat) : Prop where
  pos : 1 ≤ x
  le : x ≤ x0
  up : a < (x + 1) ^ n
theorem root_mean (a m x r : Nat) (hx : 1 ≤ x) (hr : r ^ (m + 1) ≤ a) : r ≤ (m * x + a / x ^ m) / (m + 1) := by
  have h := mean_pow (r : Int) (x : Int) (by omega) (by omega) m
  have h1 : (m + 1) * (r * x ^ m) ≤ r ^ (m + 1) + m * x ^ (m + 1) := by exact_mod_cast h
  have hp : 0 < x ^ m := Nat.pow_pos (by omega)
  rw [Nat.le_div_iff_mul_le (by omega)]
  have e : x ^ (m + 1) = x ^ m * x := Nat.pow_succ ..
  rw [e] at h1
  rcases Nat.lt_or_ge (r * (m + 1)) (m * x) with h2 | h2
  · exact Nat.le_trans (Nat.le_of_lt h2) (Nat.le_add_right _ _)
  · obtain ⟨z, hz⟩ := Nat.exists_eq_add_of_le h2
    rw [hz]
    refine Nat.add_le_add_left ?_ _
    rw [Nat.le_div_iff_mul_le hp]
    have e2 : (m + 1) * (r * x ^ m) = (m * x + z) * x ^ m := by rw [← hz]; grind
    rw [e2, Nat.add_mul] at h1
    have e3 : m * x * x ^ m = m * (x ^ m * x) := by grind
    omega
theorem RootInv.step {a m x0 x q nx : Nat} (ha : 1 ≤ a) (h : RootInv a (m + 1) x0 x) (hq : q = a / x ^ m) (hn : nx = (m * x + q) / (m + 1)) (hlt : nx < x) : RootInv a (m + 1) x0 nx := by
  obtain ⟨h1, h2, h3⟩ := h
  have hm := fun r hr => root_mean a m x r h1 hr
  rw [← hq, ← hn] at hm
  refine ⟨hm 1 (by rw [Nat.one_pow]; exact ha), by omega, ?_⟩
  refine Nat.lt_of_not_le fun hc => ?_
  have := hm (nx + 1) hc
  omega
theorem RootInv.fin {a m x0 x q nx : Nat} (h : RootInv a (m + 1) x0 x) (hq : q = a / x ^ m) (hn : nx = (m * x + q) / (m + 1)) (hge : x ≤ nx) : x ^ (m + 1) ≤ a ∧ a < (x + 1) ^ (m + 1) := by
  obtain ⟨h1, h2, h3⟩ := h
  refine ⟨?_, h3⟩
  rw [hn, Nat.le_div_iff_mul_le (by omega), Nat.mul_add, Nat.mul_one, Nat.mul_comm x m] at hge
  have h4 : x ≤ q := by omega
  have hp : 0 < x ^ m := Nat.pow_pos (by omega)
  rw [hq, Nat.le_div_iff_mul_le hp] at h4
  rw [Nat.pow_succ, Nat.mul_comm]; exact h4
theorem RootInv.start {a n : Nat} (hn : 1 ≤ n) : RootInv a n (2 ^ (bl a / n + 1)) (2 ^ (bl a / n + 1)) := by
  refine ⟨Nat.two_pow_pos _, Nat.le_refl _, ?_⟩
  have h1 := bl_lt a
  have h2 : (2 : Nat) ^ bl a ≤ (2 ^ (bl a / n + 1)) ^ n := by
    rw [← Nat.pow_mul]
    refine Nat.pow_le_pow_right (by decide) ?_
    have := Nat.div_add_mod (bl a) n
    have h3 := Nat.mod_lt (bl a) hn
    rw [Nat.add_mul, Nat.one_mul, Nat.mul_comm]; omega
  exact Nat.lt_of_lt_of_le (Nat.lt_of_lt_of_le h1 h2) (Nat.pow_le_pow_left (by omega) _)
theorem root_len {a n x k j : Nat} (hn : 1 ≤ n) (hnb : n < bl a) (hk : (dg a).length = k) (hx : x ≤ 2 ^ (bl a / n + 1)) (hj : j ≤ n) : (dg (x ^ j)).length ≤ 2 * k + 1 := by
  refine len_of_lt ?_
  have hb := bl_len a
  rw [hk] at hb
  have h1 : x ^ j ≤ 2 ^ (2 * bl a) := by
    refine Nat.le_trans (Nat.pow_le_pow_left hx j) ?_
    rw [← Nat.pow_mul]
    refine Nat.pow_le_pow_right (by decide) ?_
    have h2 : (bl a / n + 1) * j ≤ (bl a / n + 1) * n := Nat.mul_le_mul_left _ hj
    have h3 := Nat.div_mul_le_self (bl a) n
    rw [Nat.add_mul, Nat.one_mul] at h2
    rw [Nat.add_mul, Nat.one_mul]
    rw [Nat.add_mul, Nat.one_mul] at h2
    omega
  have h2 : (2 : Nat) ^ (2 * bl a) < 4294967296 ^ (2 * k + 1) := by
    rw [← pow_32]
    exact Nat.pow_lt_pow_right (by decide) (by omega)
  omega
theorem root_one {a n : Nat} (ha : 1 ≤ a) (h : bl a ≤ n) : 1 ^ n ≤ a ∧ a < (1 + 1) ^ n := by
  refine ⟨by rw [Nat.one_pow]; exact ha, Nat.lt_of_lt_of_le (bl_lt a) (Nat.pow_le_pow_right (by decide) h)⟩
end Go.Proofs.YtfcfejlffmddnaaGreatDoor
end
section
/- Contracts: root. -/
namespace Go.Proofs.YtfcfejlffmddnaaGreatDoor
open Go.RowKit
set_option linter.unusedSimpArgs false
set_option linter.unusedVariables false

/-- The post of root. -/
def Rooted (w0 : World) (l : List (Option Addr × Nat × Nat × Nat)) (a n K : Nat) (e : Ending) (w' : World) : Prop := ∃ r, Hid (r ^ n ≤ a ∧ a < (r + 1) ^ n) ∧ Made w0 l r K e w'
variable {w0 w : World} {l : List (Option Addr × Nat × Nat × Nat)}
set_option maxRecDepth 10000 in
set_option maxHeartbeats 1000000 in
theorem root_small (H : Has w0 w l) (A1 : Option Addr) (k1 c1 a : Nat) (n : Nat) (h1 : (A1, k1, c1, a) ∈ l) (hs : n = 1 ∨ k1 = 0) (hn : 1 ≤ n) (hnb : n ≤ 9223372036854775807) :
    Calls Tryz.prog 82 #[.slice A1 k1 c1, .int .i64 n] w (Rooted w0 l a n (2 * k1 + 1)) := by
  obtain ⟨r1, e1, p1, p2⟩ := H.at h1
  have hroot : a ^ n ≤ a ∧ a < (a + 1) ^ n := by
    rcases hs with h | h
    · subst h; simp
    · have : a = 0 := by rw [h] at e1; exact (dg_nil_iff a).1 e1
      subst this
      obtain ⟨m, rfl⟩ : ∃ m, n = m + 1 := ⟨n - 1, by omega⟩
      simp
  have HR := Lib.hid hroot
  have HH := Lib.hid H
  have HS := Lib.hid hs
  clear H r1 e1 hroot hs
  by_cases h : n = 1
  · subst h
    go_enter Tryz.func82, Tryz.ntmps82
    go_wp2_with fail
    go_ret
    obtain ⟨r1, e1, p1, p2⟩ := HH.out.at h1
    exact ⟨a, HR, A1, k1, c1, a, rfl, Lib.hid rfl, by omega, HH.out.cons r1 e1 p1 p2⟩
  · have hk : k1 = 0 := by rcases HS.out with h2 | h2; exact absurd h2 h; exact h2
    subst hk
    have hne : (n : Int) ≠ 1 := by omega
    have hd : ((n : Int) == 1) = false := by simpa using hne
    go_enter Tryz.func82, Tryz.ntmps82
    go_wp2_with fail
    go_ret
    obtain ⟨r1, e1, p1, p2⟩ := HH.out.at h1
    exact ⟨a, HR, A1, 0, c1, a, rfl, Lib.hid rfl, by omega, HH.out.cons r1 e1 p1 p2⟩
set_option maxRecDepth 10000 in
set_option maxHeartbeats 2000000 in
theorem root_great (H : Has w0 w l) (A1 : Option Addr) (k1 c1 a : Nat) (n : Nat) (h1 : (A1, k1, c1, a) ∈ l) (hk1 : 1 ≤ k1) (hn : 2 ≤ n) (hnb : n ≤ 9223372036854775807) (b1 : k1 ≤ 1048576) :
    Calls Tryz.prog 82 #[.slice A1 k1 c1, .int .i64 n] w (Rooted w0 l a n (2 * k1 + 1)) := by
  have e1 := H.len h1
  have ha := pos_of_len e1 hk1
  have hne : (n : Int) ≠ 1 := by omega
  have hd1 : ((n : Int) == 1) = false := by simpa using hne
  have hd2 : ((k1 : Int) == 0) = false := by simp; omega
  have HH := Lib.hid H
  have HA := Lib.hid ha
  have hbl : bl a ≤ 32 * k1 := by rw [← e1]; exact bl_len a
  have HBL := Lib.hid hbl
  have HE1 := Lib.hid e1
  clear H e1 ha hbl
  by_cases hb : bl a ≤ n
  · have hroot := root_one HA.out hb
    have HR := Lib.hid hroot
    have hbi : (bl a : Int) ≤ n := by omega
    clear hroot hb
    go_enter Tryz.func82, Tryz.ntmps82
    go_wp2_with fail
    refine (size_h HH.out A1 k1 c1 a h1 (by omega)).mono ?_
    rintro e w1 ⟨rfl, rfl⟩
    have hone := HH.out.one 1 (by decide) (by decide)
    have HO := Lib.hid hone
    clear hone
    go_wp2_with fail
    go_ret
    exact ⟨1, HR, _, 1, 1, 1, rfl, Lib.hid rfl, by omega, HO.out⟩
  · have hbi : ¬ (bl a : Int) ≤ n := by omega
    have hbl := HBL.out
    obtain ⟨z, hz⟩ : ∃ z : Nat, bl a / n = z := ⟨_, rfl⟩
    have hzi : (bl a : Int) / n = z := by rw [← hz]; push_cast; rfl
    have hzb : z ≤ bl a := by rw [← hz]; exact Nat.div_le_self _ _
    have hst := RootInv.start (a := a) (n := n) (by omega)
    rw [hz] at hst
    obtain ⟨m, hm⟩ : ∃ m, n = m + 1 := ⟨n - 1, by omega⟩
    have hmi : (n : Int) - 1 = m := by omega
    have hmp : 0 < m := by omega
    have hlen : ∀ x j, x ≤ 2 ^ (z + 1) → j ≤ n → (dg (x ^ j)).length ≤ 2 * k1 + 1 := fun x j hx hj => root_len (by omega) (by omega) HE1.out (by rw [hz]; exact hx) hj
    have HST := Lib.hid hst
    have HM := Lib.hid hm
    have HLEN := Lib.hid hlen
    have hz1 : ((z : Int) + 1).toNat = z + 1 := by omega
    have HZ1 := Lib.hid hz1
    clear hst hm hz hlen hb hz1
    go_enter Tryz.func82, Tryz.ntmps82
    go_wp2_with fail
    refine (size_h HH.out A1 k1 c1 a h1 (by omega)).mono ?_
    rintro e w1 ⟨rfl, rfl⟩
    have hone := HH.out.one 1 (by decide) (by decide)
    have HO := Lib.hid hone
    clear hone
    go_wp2_with fail
    refine (size_h HO.out A1 k1 c1 a (by simp [h1]) (by omega)).mono ?_
    rintro e w1 ⟨rfl, rfl⟩
    go_wp2_with fail
    refine (shl_h HO.out _ 1 1 1 _ (by simp) (by omega) (by omega) (by omega)).mono ?_
    rintro e w1 ⟨A3, k3, c3, n3, rfl, hn3, b3, H3⟩
    rw [HZ1.out, Nat.one_mul] at hn3
    obtain rfl : n3 = 2 ^ (z + 1) := hn3.out
    have H3' := Lib.hid (H3.keep (l' := (A3, k3, c3, 2 ^ (z + 1)) :: l) (by
      intro p hp
      simp only [List.mem_cons] at hp ⊢
      rcases hp with rfl | hp <;> simp [*]))
    clear H3 hzi
    go_wp2_with fail
    go_loopw [5, 6, 7, 8, 9] (fun v5 v6 v7 v8 v9 wr => ∃ (A : Option Addr) (k c x : Nat), v5 = .slice A k c ∧ Hid (RootInv a n (2 ^ (z + 1)) x) ∧ Hid (Has w0 wr ((A, k, c, x) :: l))) (fun v5 v6 v7 v8 v9 wr => numOf wr v5)
    case atStart => exact ⟨A3, k3, c3, _, rfl, HST, H3'⟩
    case round =>
      obtain ⟨A, k, c, x, rfl, HI, HX⟩ := hrel
      have hzq : Hid (numOf wr (.slice A k c) = x) := Lib.hid (HX.out.numOf (by simp))
      have hk : k ≤ 2 * k1 + 1 := by
        rw [← HX.out.len (A := A) (k := k) (c := c) (n := x) (by simp)]
        have := HLEN.out x 1 HI.out.le (by omega)
        rwa [Nat.pow_one] at this
      have hpw : ∀ j, j ≤ m → (dg (x ^ j)).length ≤ 268435456 := fun j hj => Nat.le_trans (HLEN.out x j HI.out.le (by have := HM.out; omega)) (by omega)
      have hpl := HLEN.out x m HI.out.le (by have := HM.out; omega)
      have hxp : 0 < x ^ m := Nat.pow_pos HI.out.pos
      have HPW := Lib.hid hpw
      have HXP := Lib.hid hxp
      obtain ⟨kp, hkp⟩ : ∃ kp, (dg (x ^ m)).length = kp := ⟨_, rfl⟩
      rw [hkp] at hpl
      have HKP := Lib.hid hkp
      clear hpw hxp hkp
      go_wp2_with fail
      refine (pow_h HX.out A k c x m (by simp) (by omega) (by omega) HPW.out).mono ?_
      rintro e w2 ⟨A4, k4, c4, n4, rfl, hn4, b4, H4⟩
      rw [HKP.out] at b4
      go_wp2_with fail
      refine (long_h H4 A1 k1 c1 a A4 k4 c4 n4 (by simp [h1]) (by simp) (by omega) (by omega) (by rw [hn4.out]; exact HXP.out)).mono ?_
      rintro e w3 ⟨A5, k5, c5, n5, A6, k6, c6, n6, rfl, hn5, hn6, b5, b6, H5⟩
      rw [hn4.out] at hn5
      go_wp2_with fail
      refine (of_h H5 m (by omega) (by omega)).mono ?_
      rintro e w4 ⟨A7, k7, c7, n7, rfl, hn7, b7, H7⟩
      rw [Int.toNat_natCast] at hn7
      go_wp2_with fail
      refine (mul_h H7 A k c x A7 k7 c7 n7 (by simp) (by simp) (by omega) (by omega)).mono ?_
      rintro e w5 ⟨A8, k8, c8, n8, rfl, hn8, b8, H8⟩
      rw [hn7.out] at hn8
      go_wp2_with fail
      refine (add_h H8 A8 k8 c8 n8 A5 k5 c5 n5 (by simp) (by simp) (by omega) (by omega)).mono ?_
      rintro e w6 ⟨A9, k9, c9, n9, rfl, hn9, b9, H9⟩
      rw [hn8.out] at hn9
      go_wp2_with fail
      refine (of_h H9 n (by omega) (by omega)).mono ?_
      rintro e w7 ⟨A10, k10, c10, n10, rfl, hn10, b10, H10⟩
      rw [Int.toNat_natCast] at hn10
      go_wp2_with fail
      refine (long_h H10 A9 k9 c9 n9 A10 k10 c10 n10 (by simp) (by simp) (by omega) (by omega) (by rw [hn10.out]; omega)).mono ?_
      rintro e w8 ⟨A11, k11, c11, nx, A12, k12, c12, n12, rfl, hn11, hn12, b11, b12, H11⟩
      rw [hn10.out, hn9.out, Nat.mul_comm x m, HM.out] at hn11
      obtain ⟨r, hr⟩ : ∃ r, cmpI nx x = r := ⟨_, rfl⟩
      have hrc := cmp_case nx x
      rw [hr] at hrc
      have HR := Lib.hid hr
      clear hr
      go_wp2_with fail
      refine (cmp_h H11 A11 k11 c11 nx A k c x (by simp) (by simp) (by omega) (by omega) r HR).mono ?_
      rintro e w9 ⟨rfl, H12⟩
      rcases hrc with ⟨hc1, hc2⟩ | ⟨hc1, hc2⟩
      · subst hc2
        have hnI := RootInv.step (a := a) (m := m) (x0 := 2 ^ (z + 1)) (x := x) (q := n5) (nx := nx) HA.out (by rw [← HM.out]; exact HI.out) hn5.out hn11.out hc1
        rw [← HM.out] at hnI
        have HNI := Lib.hid hnI
        have HLT := Lib.hid hc1
        have hh : Hid (Has w0 w9 ((A11, k11, c11, nx) :: l)) := Lib.hid (H12.keep (by
          intro p hp
          simp only [List.mem_cons] at hp ⊢
          rcases hp with rfl | hp <;> simp [*]))
        clear hnI hc1
        go_wp2_with fail
        refine ⟨⟨A11, k11, c11, nx, rfl, HNI, hh⟩, ?_⟩
        rw [hzq.out, hh.out.numOf (A := A11) (k := k11) (c := c11) (n := nx) (by simp)]
        exact HLT.out
      · have hc3 : ¬ r < 0 := by rcases hc2 with h | h <;> omega
        have hf := RootInv.fin (a := a) (m := m) (x0 := 2 ^ (z + 1)) (x := x) (q := n5) (nx := nx) (by rw [← HM.out]; exact HI.out) hn5.out hn11.out hc1
        rw [← HM.out] at hf
        have HF := Lib.hid hf
        clear hf hc1 hc2
        go_wp2_with fail
        go_ret
        exact ⟨x, HF, A, k, c, x, rfl, Lib.hid rfl, hk, H12.keep (by
          intro p hp
          simp only [List.mem_cons] at hp ⊢
          rcases hp with rfl | hp <;> simp [*])⟩
theorem root_h (H : Has w0 w l) (A1 : Option Addr) (k1 c1 a : Nat) (n : Nat) (h1 : (A1, k1, c1, a) ∈ l) (hn : 1 ≤ n) (hnb : n ≤ 9223372036854775807) (b1 : k1 ≤ 1048576) :
    Calls Tryz.prog 82 #[.slice A1 k1 c1, .int .i64 n] w (Rooted w0 l a n (2 * k1 + 1)) := by
  by_cases h : n = 1 ∨ k1 = 0
  · exact root_small H A1 k1 c1 a n h1 h hn hnb
  · exact root_great H A1 k1 c1 a n h1 (by omega) (by omega) hnb b1
end Go.Proofs.YtfcfejlffmddnaaGreatDoor
end
section
/- Plain: reciprocal, newton. -/
namespace Go.Proofs.YtfcfejlffmddnaaGreatDoor
open Go.RowKit
set_option linter.unusedSimpArgs false
set_option linter.unusedVariables false

theorem quo_le_pow {b k q : Nat} (hb : 0 < b) (h : q = 2 ^ k / b) : b * q ≤ 2 ^ k := by
  rw [h]; exact Nat.mul_div_le _ _
/-- A reciprocal of half of the digits, shifted, is not too great. -/
theorem rec_up {b k e h r : Nat} (hb : 0 < b) (hr : r = 2 ^ h / b) (hk : h + e = k) : b * (r * 2 ^ e) ≤ 2 ^ k := by
  have h1 := quo_le_pow hb hr
  rw [← Nat.mul_assoc, ← hk, Nat.pow_add]
  exact Nat.mul_le_mul_right _ h1
/-- The better reciprocal is not too great. -/
theorem rec_step {b K x : Nat} (hK : 0 < K) (hx : b * x ≤ K) : b * (x + x * (K - b * x) / K) ≤ K := by
  obtain ⟨t, ht⟩ : ∃ t, b * x = t := ⟨_, rfl⟩
  rw [ht] at hx ⊢
  have h1 : b * (x * (K - t) / K) ≤ b * (x * (K - t)) / K := Nat.mul_div_le_mul_div_assoc _ _ _
  have h2 : b * (x * (K - t)) / K ≤ K - t := by
    rw [← Nat.mul_assoc, ht]
    refine Nat.div_le_of_le_mul ?_
    exact Nat.mul_le_mul_right _ hx
  rw [Nat.mul_add, ht]
  omega
/-- The border of the mending loops. -/
structure FixInv (a b q r : Nat) : Prop where
  eq : q * b + r = a
theorem FixInv.start {a b q : Nat} (h : q * b ≤ a) : FixInv a b q (a - q * b) := ⟨by omega⟩
theorem FixInv.step {a b q r : Nat} (h : FixInv a b q r) (hr : b ≤ r) : FixInv a b (q + 1) (r - b) := ⟨by have := h.eq; rw [Nat.add_mul]; omega⟩
theorem FixInv.fin {a b q r : Nat} (h : FixInv a b q r) (hr : r < b) : q = a / b ∧ r = a % b := by
  have := h.eq
  have h1 : a / b = q := by
    rw [← this, Nat.mul_comm, Nat.mul_add_div (by omega), Nat.div_eq_of_lt hr, Nat.add_zero]
  refine ⟨h1.symm, ?_⟩
  have h2 := Nat.div_add_mod a b
  rw [h1, Nat.mul_comm] at h2
  omega
theorem FixInv.le {a b q r : Nat} (hb : 0 < b) (h : FixInv a b q r) : q ≤ a ∧ r ≤ a := by
  have := h.eq
  have h1 : q ≤ q * b := Nat.le_mul_of_pos_right _ hb
  omega
theorem FixInv.flip {a b x : Nat} (h : b * x ≤ a) : FixInv a b x (a - b * x) := by rw [Nat.mul_comm] at h ⊢; exact FixInv.start h
/-- Newton's quotient is not too great. -/
theorem newton_low {a b k R : Nat} (hb : 0 < b) (hR : R = 2 ^ k / b) : a * R / 2 ^ k * b ≤ a := by
  have h1 := quo_le_pow hb hR
  have h2 : a * R / 2 ^ k * b ≤ a * R * b / 2 ^ k := by
    rw [Nat.mul_comm _ b, Nat.mul_comm _ b]; exact Nat.mul_div_le_mul_div_assoc _ _ _
  refine Nat.le_trans h2 ?_
  refine Nat.div_le_of_le_mul ?_
  rw [Nat.mul_comm (2 ^ k) a, Nat.mul_assoc, Nat.mul_comm R b]
  exact Nat.mul_le_mul_left _ h1
theorem len_pow2 (k : Nat) : (dg (2 ^ k)).length = k / 32 + 1 := by
  have h1 := len_shl 1 k
  rw [Nat.one_mul, dg_one, List.length_singleton] at h1
  refine Nat.le_antisymm ?_ ?_
  · refine len_of_lt ?_
    rw [show (4294967296 : Nat) = 2 ^ 32 by decide, ← Nat.pow_mul]
    exact Nat.pow_lt_pow_right (by decide) (by omega)
  · show k / 32 < _
    rw [dg_len_lt, BB_nat, show (4294967296 : Nat) = 2 ^ 32 by decide, ← Nat.pow_mul]
    have : (2 : Nat) ^ (32 * (k / 32)) ≤ 2 ^ k := Nat.pow_le_pow_right (by decide) (by omega)
    omega
end Go.Proofs.YtfcfejlffmddnaaGreatDoor
end
