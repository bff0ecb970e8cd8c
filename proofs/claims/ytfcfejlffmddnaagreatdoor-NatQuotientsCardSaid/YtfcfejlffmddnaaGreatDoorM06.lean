/- Package nat, its reference and its laws' helpers, part 6 (NBJ NBK NCA NCB NCD NCE NCF NCG). -/
import Derived.Defers
import Derived.OneCell
import Derived.Test.YtfcfejlffmddnaaGreatDoorM05
section
/- Contracts: reciprocal. -/
namespace Go.Proofs.YtfcfejlffmddnaaGreatDoor
open Go.RowKit
set_option linter.unusedSimpArgs false
set_option linter.unusedVariables false

def RecSaid (N : Nat) : Prop := ∀ (k : Nat), k < N → ∀ (w0 w : World) (l : List (Option Addr × Nat × Nat × Nat)), Has w0 w l → ∀ (A1 : Option Addr) (k1 c1 b : Nat), (A1, k1, c1, b) ∈ l → k1 ≤ 1048576 → 0 < b → k ≤ 67108864 →
  Calls Tryz.prog 131 #[.slice A1 k1 c1, .int .i64 k] w (Made w0 l (2 ^ k / b) (k / 32 + 1))
set_option maxRecDepth 10000 in
set_option maxHeartbeats 2000000 in
theorem rec_base {w0 w : World} {l : List (Option Addr × Nat × Nat × Nat)} (H : Has w0 w l) (A1 : Option Addr) (k1 c1 b k : Nat) (h1 : (A1, k1, c1, b) ∈ l) (b1 : k1 ≤ 1048576) (hb : 0 < b) (hk : k ≤ 67108864) (hs : (k : Int) - bl b < 40) :
    Calls Tryz.prog 131 #[.slice A1 k1 c1, .int .i64 k] w (Made w0 l (2 ^ k / b) (k / 32 + 1)) := by
  have hbl : bl b ≤ 32 * k1 := by rw [← H.len h1]; exact bl_len b
  have ht : (dg (2 ^ k / b)).length ≤ k / 32 + 1 := by rw [← len_pow2 k]; exact len_div _ _
  have HT := Lib.hid ht
  have HB := Lib.hid hb
  have HH := Lib.hid H
  clear H hb ht
  go_enter Tryz.func131, Tryz.ntmps131
  go_wp2_with fail
  refine (size_h HH.out A1 k1 c1 b h1 (by omega)).mono ?_
  rintro e w1 ⟨rfl, rfl⟩
  have hone := HH.out.one 1 (by decide) (by decide)
  have HO := Lib.hid hone
  clear hone
  go_wp2_with fail
  refine (shl_h HO.out _ 1 1 1 _ (by simp) (by omega) (by omega) (by omega)).mono ?_
  rintro e w1 ⟨A3, k3, c3, n3, rfl, hn3, b3, H3⟩
  rw [Int.toNat_natCast, Nat.one_mul] at hn3
  rw [Int.toNat_natCast] at b3
  go_wp2_with fail
  refine (long_h H3 A3 k3 c3 n3 A1 k1 c1 b (by simp) (by simp [h1]) (by omega) (by omega) HB.out).mono ?_
  rintro e w2 ⟨A5, k5, c5, n5, A6, k6, c6, n6, rfl, hn5, hn6, b5, b6, H5⟩
  rw [hn3.out] at hn5
  go_wp2_with fail
  go_ret
  refine Made.tight (K := k5) ⟨A5, k5, c5, n5, rfl, hn5, Nat.le_refl _, H5.keep (fun p hp => ?_)⟩ _ HT.out
  simp only [List.mem_cons] at hp ⊢
  rcases hp with rfl | hp <;> simp [*]
set_option maxRecDepth 10000 in
set_option maxHeartbeats 4000000 in
theorem rec_step_said (N : Nat) (ih : RecSaid N) : RecSaid (N + 1) := by
  intro k hkN w0 w l H A1 k1 c1 b h1 b1 hb hk
  by_cases hs : (k : Int) - bl b < 40
  · exact rec_base H A1 k1 c1 b k h1 b1 hb hk hs
  · have hbl : bl b ≤ 32 * k1 := by rw [← H.len h1]; exact bl_len b
    have ht : (dg (2 ^ k / b)).length ≤ k / 32 + 1 := by rw [← len_pow2 k]; exact len_div _ _
    obtain ⟨d, hd⟩ : ∃ d : Nat, (k : Int) - bl b = d := ⟨k - bl b, by omega⟩
    rw [hd] at hs
    obtain ⟨e, he⟩ : ∃ e : Nat, (d : Int) / 2 = e := ⟨d / 2, by omega⟩
    obtain ⟨h, hh⟩ : ∃ h : Nat, (k : Int) - e = h := ⟨k - e, by omega⟩
    have hkh : (k : Int) - h = e := by omega
    have hhe : h + e = k := by omega
    have hkk : h < N ∧ h ≤ k := by omega
    have hsh : (e : Int).toNat = e := by omega
    have hskk : (k : Int).toNat = k := by omega
    have HSH := Lib.hid hsh
    have HSK := Lib.hid hskk
    have HHE := Lib.hid hhe
    have HHN := Lib.hid hkk
    have HT := Lib.hid ht
    have HB := Lib.hid hb
    have HH := Lib.hid H
    have IH := Lib.hid ih
    have HHB : h ≤ 67108864 := by omega
    have HEB : e ≤ 67108864 := by omega
    have hlk : ∀ x, x ≤ 2 ^ k → (dg x).length ≤ k / 32 + 1 := fun x hx => by rw [← len_pow2 k]; exact len_mono hx
    have HLK := Lib.hid hlk
    have hkp : 0 < 2 ^ k := Nat.two_pow_pos k
    have HKP := Lib.hid hkp
    clear H hb ht ih hkk hkN hhe hsh hskk hlk hkp
    go_enter Tryz.func131, Tryz.ntmps131
    go_wp2_with fail
    refine (size_h HH.out A1 k1 c1 b h1 (by omega)).mono ?_
    rintro r w1 ⟨rfl, rfl⟩
    go_wp2_with fail
    refine (size_h HH.out A1 k1 c1 b h1 (by omega)).mono ?_
    rintro r w1 ⟨rfl, rfl⟩
    go_wp2_with fail
    refine (IH.out h HHN.out.1 _ _ _ HH.out A1 k1 c1 b h1 b1 HB.out HHB).mono ?_
    rintro r w1 ⟨A3, k3, c3, n3, rfl, hn3, b3, H3⟩
    clear hd hs he hh
    go_wp2_with fail
    refine (shl_h H3 A3 k3 c3 n3 _ (by simp) (by omega) (by omega) (by omega)).mono ?_
    rintro r w2 ⟨A4, k4, c4, x0, rfl, hx0, b4, H4⟩
    rw [HSH.out] at hx0 b4
    have hup : b * x0 ≤ 2 ^ k := by rw [hx0.out]; exact rec_up HB.out hn3.out HHE.out
    have hxl : x0 ≤ 2 ^ k := Nat.le_trans (Nat.le_mul_of_pos_left _ HB.out) hup
    have hk4 : k4 ≤ k / 32 + 1 := by rw [← H4.len (A := A4) (k := k4) (c := c4) (n := x0) (by simp)]; exact HLK.out _ hxl
    have HUP := Lib.hid hup
    have hone := H4.one 1 (by decide) (by decide)
    have HO := Lib.hid hone
    clear hup hxl hone
    go_wp2_with fail
    refine (shl_h HO.out _ 1 1 1 _ (by simp) (by omega) (by omega) (by omega)).mono ?_
    rintro r w3 ⟨A5, k5, c5, n5, rfl, hn5, b5, H5⟩
    rw [HSK.out, Nat.one_mul] at hn5
    rw [HSK.out] at b5
    go_wp2_with fail
    refine (mul_h H5 A1 k1 c1 b A4 k4 c4 x0 (by simp [h1]) (by simp) (by omega) (by omega)).mono ?_
    rintro r w4 ⟨A6, k6, c6, n6, rfl, hn6, b6, H6⟩
    go_wp2_with fail
    refine (sub_h H6 A5 k5 c5 n5 A6 k6 c6 n6 (by simp) (by simp) (by omega) (by omega) (by rw [hn5.out, hn6.out]; exact HUP.out)).mono ?_
    rintro r w5 ⟨A7, k7, c7, n7, rfl, hn7, b7, H7⟩
    rw [hn5.out, hn6.out] at hn7
    go_wp2_with fail
    refine (mul_h H7 A4 k4 c4 x0 A7 k7 c7 n7 (by simp) (by simp) (by omega) (by omega)).mono ?_
    rintro r w6 ⟨A8, k8, c8, n8, rfl, hn8, b8, H8⟩
    rw [hn7.out] at hn8
    go_wp2_with fail
    refine (shr_h H8 A8 k8 c8 n8 _ (by simp) (by omega) (by omega)).mono ?_
    rintro r w7 ⟨A9, k9, c9, n9, rfl, hn9, b9, H9⟩
    rw [HSK.out, hn8.out] at hn9
    go_wp2_with fail
    refine (add_h H9 A4 k4 c4 x0 A9 k9 c9 n9 (by simp) (by simp) (by omega) (by omega)).mono ?_
    rintro r w8 ⟨A10, k10, c10, x1, rfl, hx1, b10, H10⟩
    rw [hn9.out] at hx1
    have hup1 : b * x1 ≤ 2 ^ k := by rw [hx1.out]; exact rec_step HKP.out HUP.out
    have hxl1 : x1 ≤ 2 ^ k := Nat.le_trans (Nat.le_mul_of_pos_left _ HB.out) hup1
    have hk10 : k10 ≤ k / 32 + 1 := by rw [← H10.len (A := A10) (k := k10) (c := c10) (n := x1) (by simp)]; exact HLK.out _ hxl1
    have HUP1 := Lib.hid hup1
    have H10' := Lib.hid (H10.keep (l' := (A10, k10, c10, x1) :: l) (by
      intro p hp
      simp only [List.mem_cons] at hp ⊢
      rcases hp with rfl | hp <;> simp [*]))
    have hone := H10'.out.one 1 (by decide) (by decide)
    have HO2 := Lib.hid hone
    clear hup1 hxl1 hone H3 H4 H5 H6 H7 H8 H9 H10 hn5 hn6 hn7 hn8 hn9 hx0 hx1 hn3 b3 b4 b5 b6 b7 b8 b9 b10 HUP HO HHE HHN
    go_wp2_with fail
    refine (shl_h HO2.out _ 1 1 1 _ (by simp) (by omega) (by omega) (by omega)).mono ?_
    rintro r w9 ⟨A11, k11, c11, n11, rfl, hn11, b11, H11⟩
    rw [HSK.out, Nat.one_mul] at hn11
    rw [HSK.out] at b11
    go_wp2_with fail
    refine (mul_h H11 A1 k1 c1 b A10 k10 c10 x1 (by simp [h1]) (by simp) (by omega) (by omega)).mono ?_
    rintro r w10 ⟨A12, k12, c12, n12, rfl, hn12, b12, H12⟩
    go_wp2_with fail
    refine (sub_h H12 A11 k11 c11 n11 A12 k12 c12 n12 (by simp) (by simp) (by omega) (by omega) (by rw [hn11.out, hn12.out]; exact HUP1.out)).mono ?_
    rintro r w11 ⟨A13, k13, c13, n13, rfl, hn13, b13, H13⟩
    rw [hn11.out, hn12.out] at hn13
    have hst : FixInv (2 ^ k) b x1 n13 := by rw [hn13.out]; exact FixInv.flip HUP1.out
    have HST := Lib.hid hst
    have H13' := Lib.hid (H13.keep (l' := (A10, k10, c10, x1) :: (A13, k13, c13, n13) :: l) (by
      intro p hp
      simp only [List.mem_cons] at hp ⊢
      rcases hp with rfl | rfl | hp <;> simp [*]))
    clear hst H11 H12 H13 hn11 hn12 hn13 b11 b12 b13 HUP1 HO2
    go_wp2_with fail
    go_loopw [8, 9] (fun v8 v9 wr => ∃ (A : Option Addr) (kx c x : Nat) (A' : Option Addr) (k' c' y : Nat), v8 = .slice A kx c ∧ v9 = .slice A' k' c' ∧ Hid (FixInv (2 ^ k) b x y) ∧ Hid (Has w0 wr ((A, kx, c, x) :: (A', k', c', y) :: l))) (fun v8 v9 wr => numOf wr v9)
    case atStart => exact ⟨A10, k10, c10, x1, A13, k13, c13, n13, rfl, rfl, HST, H13'⟩
    case round =>
      obtain ⟨A, kx, c, x, A', k', c', y, rfl, rfl, HI, HX⟩ := hrel
      have hzq : Hid (numOf wr (.slice A' k' c') = y) := Lib.hid (HX.out.numOf (by simp))
      have hkx : kx ≤ k / 32 + 1 := by
        rw [← HX.out.len (A := A) (k := kx) (c := c) (n := x) (by simp)]
        exact HLK.out _ (HI.out.le HB.out).1
      have hk' : k' ≤ k / 32 + 1 := by
        rw [← HX.out.len (A := A') (k := k') (c := c') (n := y) (by simp)]
        exact HLK.out _ (HI.out.le HB.out).2
      obtain ⟨r, hr⟩ : ∃ r, cmpI y b = r := ⟨_, rfl⟩
      have hrc := cmp_case y b
      rw [hr] at hrc
      have HR := Lib.hid hr
      clear hr
      go_wp2_with fail
      refine (cmp_h HX.out A' k' c' y A1 k1 c1 b (by simp) (by simp [h1]) (by omega) (by omega) r HR).mono ?_
      rintro e' w12 ⟨rfl, H12⟩
      rcases hrc with ⟨hc1, hc2⟩ | ⟨hc1, hc2⟩
      · subst hc2
        obtain ⟨hf, _⟩ := HI.out.fin hc1
        have HF := Lib.hid hf
        clear hf hc1
        go_wp2_with fail
        go_ret
        refine ⟨A, kx, c, x, rfl, HF, hkx, H12.keep (fun p hp => ?_)⟩
        simp only [List.mem_cons] at hp ⊢
        rcases hp with rfl | hp <;> simp [*]
      · have hc3 : 0 ≤ r := by rcases hc2 with h | h <;> omega
        have HS := Lib.hid (HI.out.step hc1)
        have HC := Lib.hid hc1
        have HHX := Lib.hid H12
        have hone := H12.one 1 (by decide) (by decide)
        have HO := Lib.hid hone
        clear hc1 hc2 hone H12
        go_wp2_with fail
        refine (add_h HO.out A kx c x _ 1 1 1 (by simp) (by simp) (by omega) (by omega)).mono ?_
        rintro e' w13 ⟨A14, k14, c14, n14, rfl, hn14, b14, H14⟩
        go_wp2_with fail
        refine (sub_h H14 A' k' c' y A1 k1 c1 b (by simp) (by simp [h1]) (by omega) (by omega) HC.out).mono ?_
        rintro e' w14 ⟨A15, k15, c15, n15, rfl, hn15, b15, H15⟩
        have H15' : Hid (Has w0 w14 ((A14, k14, c14, n14) :: (A15, k15, c15, n15) :: l)) := Lib.hid (H15.keep (by
          intro p hp
          simp only [List.mem_cons] at hp ⊢
          rcases hp with rfl | rfl | hp <;> simp [*]))
        have HS2 : Hid (FixInv (2 ^ k) b n14 n15) := Lib.hid (by rw [hn14.out, hn15.out]; exact HS.out)
        go_wp2_with fail
        refine ⟨⟨A14, k14, c14, n14, A15, k15, c15, n15, rfl, rfl, HS2, H15'⟩, ?_⟩
        rw [hzq.out, H15'.out.numOf (A := A15) (k := k15) (c := c15) (n := n15) (by simp), hn15.out]
        have h2 := HC.out
        have h3 := HB.out
        omega
theorem rec_said (N : Nat) : RecSaid N := by
  induction N with
  | zero => intro k h; omega
  | succ N ih => exact rec_step_said N ih
theorem rec_h {w0 w : World} {l : List (Option Addr × Nat × Nat × Nat)} (H : Has w0 w l) (A1 : Option Addr) (k1 c1 b k : Nat) (h1 : (A1, k1, c1, b) ∈ l) (b1 : k1 ≤ 1048576) (hb : 0 < b) (hk : k ≤ 67108864) :
    Calls Tryz.prog 131 #[.slice A1 k1 c1, .int .i64 k] w (Made w0 l (2 ^ k / b) (k / 32 + 1)) := rec_said (k + 1) k (Nat.lt_succ_self k) w0 w l H A1 k1 c1 b h1 b1 hb hk
end Go.Proofs.YtfcfejlffmddnaaGreatDoor
end
section
/- Contracts: newton. -/
namespace Go.Proofs.YtfcfejlffmddnaaGreatDoor
open Go.RowKit
set_option linter.unusedSimpArgs false
set_option linter.unusedVariables false

variable {w0 w : World} {l : List (Option Addr × Nat × Nat × Nat)}
set_option maxRecDepth 10000 in
set_option maxHeartbeats 4000000 in
theorem newton_h (H : Has w0 w l) (A1 : Option Addr) (k1 c1 a : Nat) (A2 : Option Addr) (k2 c2 b : Nat) (h1 : (A1, k1, c1, a) ∈ l) (h2 : (A2, k2, c2, b) ∈ l) (b1 : k1 ≤ 1048576) (b2 : k2 ≤ 1048576) (hb : 0 < b) :
    Calls Tryz.prog 105 #[.slice A1 k1 c1, .slice A2 k2 c2] w (Made2 w0 l (a / b) (a % b) k1 k2) := by
  have e1 := (H.at h1).2.1
  have e2 := (H.at h2).2.1
  have t1 : (dg (a / b)).length ≤ k1 := by rw [← e1]; exact len_div a b
  have t2 : (dg (a % b)).length ≤ k2 := by rw [← e2]; exact len_mono (Nat.le_of_lt (Nat.mod_lt _ hb))
  have hbl : bl a ≤ 32 * k1 := by rw [← e1]; exact bl_len a
  refine Calls.mono (R := Made2 w0 l (a / b) (a % b) (k1 + 1) (k1 + k2 + 1)) ?_ (fun e w' h => h.tight _ _ t1 t2)
  obtain ⟨r, hr⟩ : ∃ r, cmpI a b = r := ⟨_, rfl⟩
  have hrc := cmp_case a b
  rw [hr] at hrc
  have HR := Lib.hid hr
  have HH := Lib.hid H
  have HB := Lib.hid hb
  have HE1 := Lib.hid e1
  have hla : ∀ x, x ≤ a → (dg x).length ≤ k1 := fun x hx => by rw [← e1]; exact len_mono hx
  have HLA := Lib.hid hla
  clear H hb hr e1 e2 t1 t2 hla
  rcases hrc with ⟨hc1, hc2⟩ | ⟨hc1, hc2⟩
  · subst hc2
    have hq : a / b = 0 := Nat.div_eq_of_lt hc1
    have hm : a % b = a := Nat.mod_eq_of_lt hc1
    have HQ := Lib.hid hq
    have HM := Lib.hid hm
    clear hq hm hc1
    go_enter Tryz.func105, Tryz.ntmps105
    go_wp2_with fail
    refine (cmp_h HH.out A1 k1 c1 a A2 k2 c2 b h1 h2 (by omega) (by omega) _ HR).mono ?_
    rintro e w1 ⟨rfl, H1⟩
    go_wp2_with fail
    go_ret2
    obtain ⟨r1, e1, q1, q2⟩ := H1.at h1
    exact ⟨none, 0, 0, 0, A1, k1, c1, a, rfl, Lib.hid HQ.out.symm, Lib.hid HM.out.symm, by omega, by omega, (H1.cons r1 e1 q1 q2).cons (by rw [dg_zero]; exact Rd.nil) (by rw [dg_zero]; rfl) (Nat.le_refl _) (by omega)⟩
  · have hc3 : ¬ r < 0 := by rcases hc2 with h | h <;> omega
    obtain ⟨k, hk⟩ : ∃ k : Nat, (bl a : Int) + 1 = k := ⟨bl a + 1, by omega⟩
    have hkb : k ≤ 33554433 := by omega
    have hkt : (k : Int).toNat = k := by omega
    have HKT := Lib.hid hkt
    have hk32 : k / 32 + 1 ≤ k1 + 2 := by omega
    clear hc1 hc2 hkt
    go_enter Tryz.func105, Tryz.ntmps105
    go_wp2_with fail
    refine (cmp_h HH.out A1 k1 c1 a A2 k2 c2 b h1 h2 (by omega) (by omega) _ HR).mono ?_
    rintro e w1 ⟨rfl, H1⟩
    go_wp2_with fail
    refine (size_h H1 A1 k1 c1 a h1 (by omega)).mono ?_
    rintro e w2 ⟨rfl, rfl⟩
    go_wp2_with fail
    refine (rec_h H1 A2 k2 c2 b k h2 b2 HB.out (by omega)).mono ?_
    rintro e w2 ⟨A3, k3, c3, R, rfl, hR, b3, H3⟩
    clear hk
    go_wp2_with fail
    refine (mul_h H3 A1 k1 c1 a A3 k3 c3 R (by simp [h1]) (by simp) (by omega) (by omega)).mono ?_
    rintro e w3 ⟨A4, k4, c4, n4, rfl, hn4, b4, H4⟩
    go_wp2_with fail
    refine (shr_h H4 A4 k4 c4 n4 _ (by simp) (by omega) (by omega)).mono ?_
    rintro e w4 ⟨A5, k5, c5, q, rfl, hq, b5, H5⟩
    rw [HKT.out, hn4.out] at hq
    have hlow : q * b ≤ a := by rw [hq.out]; exact newton_low HB.out hR.out
    have HLOW := Lib.hid hlow
    have hk5 : k5 ≤ k1 := by
      rw [← H5.len (A := A5) (k := k5) (c := c5) (n := q) (by simp)]
      exact HLA.out _ (Nat.le_trans (Nat.le_mul_of_pos_right _ HB.out) hlow)
    clear hlow
    go_wp2_with fail
    refine (mul_h H5 A5 k5 c5 q A2 k2 c2 b (by simp) (by simp [h2]) (by omega) (by omega)).mono ?_
    rintro e w5 ⟨A6, k6, c6, n6, rfl, hn6, b6, H6⟩
    go_wp2_with fail
    refine (sub_h H6 A1 k1 c1 a A6 k6 c6 n6 (by simp [h1]) (by simp) (by omega) (by omega) (by rw [hn6.out]; exact HLOW.out)).mono ?_
    rintro e w6 ⟨A7, k7, c7, n7, rfl, hn7, b7, H7⟩
    rw [hn6.out] at hn7
    have HST : Hid (FixInv a b q n7) := Lib.hid (by rw [hn7.out]; exact FixInv.start HLOW.out)
    have H7' := Lib.hid (H7.keep (l' := (A5, k5, c5, q) :: (A7, k7, c7, n7) :: l) (by
      intro p hp
      simp only [List.mem_cons] at hp ⊢
      rcases hp with rfl | rfl | hp <;> simp [*]))
    clear H1 H3 H4 H5 H6 H7 hn4 hn6 hn7 hq hR b3 b4 b5 b6 b7 HLOW
    go_wp2_with fail
    go_loopw [7, 8] (fun v7 v8 wr => ∃ (A : Option Addr) (kx c x : Nat) (A' : Option Addr) (k' c' y : Nat), v7 = .slice A kx c ∧ v8 = .slice A' k' c' ∧ Hid (FixInv a b x y) ∧ Hid (Has w0 wr ((A, kx, c, x) :: (A', k', c', y) :: l))) (fun v7 v8 wr => numOf wr v8)
    case atStart => exact ⟨A5, k5, c5, q, A7, k7, c7, n7, rfl, rfl, HST, H7'⟩
    case round =>
      obtain ⟨A, kx, c, x, A', k', c', y, rfl, rfl, HI, HX⟩ := hrel
      have hzq : Hid (numOf wr (.slice A' k' c') = y) := Lib.hid (HX.out.numOf (by simp))
      have hkx : kx ≤ k1 := by
        rw [← HX.out.len (A := A) (k := kx) (c := c) (n := x) (by simp)]
        exact HLA.out _ (HI.out.le HB.out).1
      have hk' : k' ≤ k1 := by
        rw [← HX.out.len (A := A') (k := k') (c := c') (n := y) (by simp)]
        exact HLA.out _ (HI.out.le HB.out).2
      obtain ⟨s, hs⟩ : ∃ s, cmpI y b = s := ⟨_, rfl⟩
      have hsc := cmp_case y b
      rw [hs] at hsc
      have HS := Lib.hid hs
      clear hs
      go_wp2_with fail
      refine (cmp_h HX.out A' k' c' y A2 k2 c2 b (by simp) (by simp [h2]) (by omega) (by omega) s HS).mono ?_
      rintro e' w12 ⟨rfl, H12⟩
      rcases hsc with ⟨hs1, hs2⟩ | ⟨hs1, hs2⟩
      · subst hs2
        obtain ⟨hf1, hf2⟩ := HI.out.fin hs1
        have HF1 := Lib.hid hf1
        have HF2 := Lib.hid hf2
        clear hf1 hf2 hs1
        go_wp2_with fail
        go_ret2
        exact ⟨A, kx, c, x, A', k', c', y, rfl, HF1, HF2, by omega, by omega, H12⟩
      · have hs3 : 0 ≤ s := by rcases hs2 with h | h <;> omega
        have HSS := Lib.hid (HI.out.step hs1)
        have HC := Lib.hid hs1
        have hone := H12.one 1 (by decide) (by decide)
        have HO := Lib.hid hone
        clear hs1 hs2 hone H12
        go_wp2_with fail
        refine (add_h HO.out A kx c x _ 1 1 1 (by simp) (by simp) (by omega) (by omega)).mono ?_
        rintro e' w13 ⟨A14, k14, c14, n14, rfl, hn14, b14, H14⟩
        go_wp2_with fail
        refine (sub_h H14 A' k' c' y A2 k2 c2 b (by simp) (by simp [h2]) (by omega) (by omega) HC.out).mono ?_
        rintro e' w14 ⟨A15, k15, c15, n15, rfl, hn15, b15, H15⟩
        have H15' : Hid (Has w0 w14 ((A14, k14, c14, n14) :: (A15, k15, c15, n15) :: l)) := Lib.hid (H15.keep (by
          intro p hp
          simp only [List.mem_cons] at hp ⊢
          rcases hp with rfl | rfl | hp <;> simp [*]))
        have HS2 : Hid (FixInv a b n14 n15) := Lib.hid (by rw [hn14.out, hn15.out]; exact HSS.out)
        go_wp2_with fail
        refine ⟨⟨A14, k14, c14, n14, A15, k15, c15, n15, rfl, rfl, HS2, H15'⟩, ?_⟩
        rw [hzq.out, H15'.out.numOf (A := A15) (k := k15) (c := c15) (n := n15) (by simp), hn15.out]
        have h2 := HC.out
        have h3 := HB.out
        omega
end Go.Proofs.YtfcfejlffmddnaaGreatDoor
end
section
/- Contracts: failures. -/
namespace Go.Proofs.YtfcfejlffmddnaaGreatDoor
open Go.RowKit
set_option linter.unusedSimpArgs false
set_option linter.unusedVariables false

/-! ### Failures -/
/-- What the program panics with. -/
def fail (e : Int) : Value := .iface 122 (.agg #[.int .i64 e])
theorem ta1 (e : Int) (w : World) : (Instr.typeAssert (.iface 122 (.agg #[.int .i64 e])) 20 122 true).run Tryz.prog w = .ok (.tuple #[.agg #[.int .i64 e], .bool true]) w := by kernel_rfl
theorem np (v : Value) (w : World) : (Instr.panic (.iface 122 v)).run Tryz.prog w = .halt (.panic (.iface 122 v)) w := by kernel_rfl
theorem eqn (v : Value) (w : World) : (binOp .eql 20 (.iface 122 v) .nilIface).run Tryz.prog w = .ok (.bool false) w := by kernel_rfl
attribute [local go_sem] ta1 np eqn
theorem need_ok (e : Int) (w : World) : Calls Tryz.prog 68 #[.bool true, .int .i64 e] w fun r w' => r = .returned (.tuple #[]) ∧ w = w' := by
  go_enter Tryz.func68, Tryz.ntmps68
  go_wp2
  go_end0
  exact ⟨rfl, rfl⟩
theorem need_no (e : Int) (w : World) : Calls Tryz.prog 68 #[.bool false, .int .i64 e] w fun r w' => r = .panicked [{ v := fail e, recovered := false }] ∧ w = w' := by
  go_enter Tryz.func68, Tryz.ntmps68
  go_wp2
  exact ⟨rfl, rfl, rfl⟩
theorem caught_idle (p : Addr) (w : World) :
    CallsD Tryz.prog 66 #[.pointer (some p)] .returning w fun e u' w' => e = .returned (.tuple #[]) ∧ u' = .returning ∧ w = w' := by
  refine callsD_of_wpS Tryz.func66 rfl fun c₀ cs hu => ?_
  simp only [Tryz.ntmps66, List.size_toArray, List.length_cons, List.length_nil, Nat.reduceAdd, Nat.reduceSub, Array.replicate_succ, Array.replicate_zero, List.push_toArray, List.append_toArray, List.nil_append, List.cons_append]
  apply wpS_seq
  apply wpS_region
  simp [wpOpsS, go_sem, recoverD, hu, Exit.thenS]
  refine wpS_of_wp ?_
  go_wp2
  cases c₀
  simp_all [bodyPostS, results, Tryz.results66]
theorem caught_fail (b : Nat) (e x : Int) (w : World) (hE : w.heap[b]? = some (.cells #[.int .i64 x] 26 (0, 0))) :
    CallsD Tryz.prog 66 #[.pointer (some ⟨b, 0, none⟩)] (.panicking [{ v := fail e, recovered := false }]) w fun r u' w' =>
      r = .returned (.tuple #[]) ∧ u' = .panicking [{ v := fail e, recovered := true }] ∧ (w.setCell ⟨b, 0, none⟩ (.int .i64 e)).alloc (.cells #[.int .i64 e] 122) = w' := by
  have hb := lt_of_block hE
  have hc := cell_of_one hE
  have hz := free_of_one hE
  clear hE
  refine callsD_of_wpS Tryz.func66 rfl fun c₀ cs hu => ?_
  simp only [Tryz.ntmps66, List.size_toArray, List.length_cons, List.length_nil, Nat.reduceAdd, Nat.reduceSub, Array.replicate_succ, Array.replicate_zero, List.push_toArray, List.append_toArray, List.nil_append, List.cons_append]
  apply wpS_seq
  apply wpS_region
  simp [wpOpsS, go_sem, recoverD, hu, Exit.thenS, fail]
  refine wpS_of_wp ?_
  go_wp2
  simp [bodyPostS, results, Tryz.results66]

/-- The cell of a named error that a deferred call may set. -/
def ECell (w : World) (b : Nat) (x : Int) : Prop := w.heap[b]? = some (.cells #[.int .i64 x] 26 (0, 0))
theorem ECell.below {w w' : World} {b : Nat} {x : Int} (h : ECell w b x) (hb : Below w.heap.size w w') : ECell w' b x := (hb.block _ (lt_of_block h)).trans h
theorem ECell.set {w : World} {b : Nat} {x : Int} (h : ECell w b x) (y : Int) : (w.setCell ⟨b, 0, none⟩ (.int .i64 y)).cell? ⟨b, 0, none⟩ = some (.int .i64 y) := World.cell?_setCell_same _ _ _ (cell_of_one h)
theorem ECell.setA {w : World} {b : Nat} {x : Int} (h : ECell w b x) (y : Int) (o : Obj) : ((w.setCell ⟨b, 0, none⟩ (.int .i64 y)).alloc o).cell? ⟨b, 0, none⟩ = some (.int .i64 y) := by
  rw [World.cell?_alloc_past (hn := by rw [World.size_setCell]; exact lt_of_block h)]; exact h.set y
theorem below_set {w0 w : World} {b : Nat} (h : Below w0.heap.size w0 w) (hb : w0.heap.size ≤ b) (u : Value) : Below w0.heap.size w0 (w.setCell ⟨b, 0, none⟩ u) := h.setCell (p := ⟨b, 0, none⟩) hb u
theorem below_setA {w0 w : World} {b : Nat} (h : Below w0.heap.size w0 w) (hb : w0.heap.size ≤ b) (u : Value) (o : Obj) : Below w0.heap.size w0 ((w.setCell ⟨b, 0, none⟩ u).alloc o) := (below_set h hb u).alloc (by rw [World.size_setCell]; exact h.size) o
end Go.Proofs.YtfcfejlffmddnaaGreatDoor
end
section
/- Contracts: Valid, taken, given. -/
namespace Go.Proofs.YtfcfejlffmddnaaGreatDoor
open Go.RowKit
set_option linter.unusedSimpArgs false
set_option linter.unusedVariables false

/-- A list that is a number. -/
def validB (g : List Int) : Bool := decide (g.length ≤ 1024 ∧ g.getLast? ≠ some 0)
set_option maxRecDepth 10000 in
theorem valid_calls (A : Option Addr) (c k : Nat) (g : List Int) (w : World) (hk : g.length = k) (hb : k ≤ 9223372036854775807) (hR : Rd .u32 w A g) (b : Bool) (h : Hid (validB g = b)) :
    Calls Tryz.prog 57 #[.slice A k c] w fun e w' => e = .returned (.bool b) ∧ w = w' := by
  have hv := h.out
  unfold validB at hv
  by_cases h1 : k ≤ 1024
  · cases k with
    | zero =>
      have hg : g = [] := List.eq_nil_of_length_eq_zero hk
      obtain rfl : b = true := by rw [← hv, hg]; simp
      clear hv h hR hk hg
      go_enter Tryz.func57, Tryz.ntmps57
      go_wp2
      go_ret
      exact ⟨rfl, rfl⟩
    | succ k =>
      obtain ⟨x, hx⟩ : ∃ x, g[k]? = some x := ⟨_, List.getElem?_eq_getElem (by omega)⟩
      obtain ⟨b1, o, rfl, hcc⟩ := hR (by rintro rfl; simp at hx)
      have hcell := hcc k x hx
      have hl : g.getLast? = some x := by rw [List.getLast?_eq_getElem?, hk]; exact hx
      have hv2 : b = !(x == 0) := by
        rw [← hv, hl, hk]
        by_cases hx0 : x = 0
        · subst hx0; simp
        · rw [show (x == 0) = false from beq_eq_false_iff_ne.2 hx0]
          simp only [Bool.not_false, decide_eq_true_eq]
          exact ⟨h1, fun h => hx0 (Option.some.inj h)⟩
      clear hv h hR hk hcc hx hl
      by_cases hx0 : x = 0
      · subst hx0
        obtain rfl : b = false := by rw [hv2]; rfl
        clear hv2
        go_enter Tryz.func57, Tryz.ntmps57
        go_wp2
        go_ret
        exact ⟨rfl, rfl⟩
      · have hxb : (x == 0) = false := beq_eq_false_iff_ne.2 hx0
        obtain rfl : b = true := by rw [hv2, hxb]; rfl
        clear hv2
        go_enter Tryz.func57, Tryz.ntmps57
        go_wp2
        go_ret
        exact ⟨by simp [hx0, hxb], rfl⟩
  · obtain rfl : b = false := by rw [← hv, hk]; simp [h1]
    clear hv h hR hk
    go_enter Tryz.func57, Tryz.ntmps57
    go_wp2
    go_ret
    exact ⟨rfl, rfl⟩
theorem taken1_calls (A : Option Addr) (c k : Nat) (g : List Int) (w : World) (hk : g.length = k) (hb : k ≤ 9223372036854775807) (hR : Rd .u32 w A g) (b : Bool) (h : Hid (validB g = b)) :
    Calls Tryz.prog 108 #[.slice A k c] w fun e w' => e = .returned (.bool (!b)) ∧ w = w' := by
  have h1 := valid_calls A c k g w hk hb hR b h
  have H1 := Lib.hid h1
  clear h1 hk hb hR h
  cases b
  all_goals
    go_enter Tryz.func108, Tryz.ntmps108
    go_wp2_with fail
    refine H1.out.mono ?_
    rintro e w' ⟨rfl, rfl⟩
    go_wp2_with fail
    go_ret
    exact ⟨rfl, rfl⟩
/-- What lies in a list of lists. -/
structure Lists (w : World) (b n : Nat) (vs : List (Option Addr × Nat × Nat × List Int)) : Prop where
  len : vs.length = n
  cell : ∀ (j : Nat) p, vs[j]? = some p → w.cell? ⟨b, j, none⟩ = some (.slice p.1 p.2.1 p.2.2.1)
  rd : ∀ p, p ∈ vs → p.2.2.2.length = p.2.1 ∧ p.2.1 ≤ 9223372036854775807 ∧ Rd .u32 w p.1 p.2.2.2
set_option maxHeartbeats 1000000 in
theorem index_calls (b n c : Nat) (vs : List (Option Addr × Nat × Nat × List Int)) (w : World) (hL : Lists w b n vs) (hn : n ≤ 9223372036854775807) :
    Calls Tryz.prog 132 #[.slice (some ⟨b, 0, none⟩) n c, .func (.func 108) #[] #[]] w fun e w' => ∃ r : Int, e = .returned (.int .i64 r) ∧ Hid (decide (0 ≤ r) = vs.any fun p => !validB p.2.2.2) ∧ w = w' := by
  have HL := Lib.hid hL
  clear hL
  go_enter Tryz.func132, Tryz.ntmps132
  go_wp2_with fail
  go_loop [8] (fun v => ∃ i : Nat, i ≤ n ∧ v = .int .i64 i ∧ Hid ((vs.take i).any (fun p => !validB p.2.2.2) = false)) (fun v => n - (intOf v).toNat)
  case atStart => exact ⟨0, Nat.zero_le _, rfl, Lib.hid (by simp)⟩
  case round =>
    obtain ⟨i, hi, rfl, HA⟩ := hrel
    by_cases hlt : i < n
    · obtain ⟨p, hp⟩ : ∃ p, vs[i]? = some p := ⟨_, List.getElem?_eq_getElem (by rw [HL.out.len]; exact hlt)⟩
      obtain ⟨A, k, c', g⟩ := p
      have hcell := HL.out.cell i _ hp
      obtain ⟨h1, h2, h3⟩ := HL.out.rd _ (List.mem_of_getElem? hp)
      dsimp only at hcell h1 h2 h3
      obtain ⟨bv, hbv⟩ : ∃ bv, validB g = bv := ⟨_, rfl⟩
      have ht := taken1_calls A c' k g w h1 h2 h3 bv (Lib.hid hbv)
      have HT := Lib.hid ht
      have htk : vs.take (i + 1) = vs.take i ++ [(A, k, c', g)] := by rw [List.take_add_one, hp]; rfl
      have HTK := Lib.hid htk
      have HBV := Lib.hid hbv
      have HP := Lib.hid hp
      clear ht h1 h2 h3 hbv htk hp
      cases bv
      · go_wp2_with fail
        refine HT.out.mono ?_
        rintro e w' ⟨rfl, rfl⟩
        go_wp2_with fail
        go_ret
        refine ⟨(i : Int), rfl, Lib.hid ?_, rfl⟩
        rw [show decide ((0 : Int) ≤ i) = true by simp, eq_comm, List.any_eq_true]
        exact ⟨_, List.mem_of_getElem? HP.out, by simp [HBV.out]⟩
      · go_wp2_with fail
        refine HT.out.mono ?_
        rintro e w' ⟨rfl, rfl⟩
        go_wp2_with fail
        go_round
        case rel => exact ⟨i + 1, by omega, by go_num, Lib.hid (by rw [HTK.out, List.any_append, HA.out]; simp [HBV.out])⟩
        case measure => simp [intOf]; omega
    · obtain rfl : i = n := by omega
      have hA : vs.any (fun p => !validB p.2.2.2) = false := by
        have := HA.out
        rwa [List.take_of_length_le (by rw [HL.out.len]; exact Nat.le_refl _)] at this
      have HA2 := Lib.hid hA
      clear hA
      go_wp2_with fail
      go_ret
      exact ⟨-1, rfl, Lib.hid (by rw [HA2.out]; rfl), rfl⟩
theorem contains_calls (b n c : Nat) (vs : List (Option Addr × Nat × Nat × List Int)) (w : World) (hL : Lists w b n vs) (hn : n ≤ 9223372036854775807) (bv : Bool) (hb : Hid ((vs.any fun p => !validB p.2.2.2) = bv)) :
    Calls Tryz.prog 107 #[.slice (some ⟨b, 0, none⟩) n c, .func (.func 108) #[] #[]] w fun e w' => e = .returned (.bool bv) ∧ w = w' := by
  have h1 := index_calls b n c vs w hL hn
  have H1 := Lib.hid h1
  clear h1 hL
  go_enter Tryz.func107, Tryz.ntmps107
  go_wp2_with fail
  refine H1.out.mono ?_
  rintro e w' ⟨r, rfl, hr, rfl⟩
  have hr2 : decide (0 ≤ r) = bv := by rw [hr.out, hb.out]
  go_wp2_with fail
  go_ret
  exact ⟨rfl, rfl⟩
theorem taken_yes (b n c : Nat) (vs : List (Option Addr × Nat × Nat × List Int)) (w : World) (hL : Lists w b n vs) (hn : n ≤ 9223372036854775807) (hb : Hid ((vs.any fun p => !validB p.2.2.2) = false)) :
    Calls Tryz.prog 67 #[.slice (some ⟨b, 0, none⟩) n c] w fun e w' => e = .returned (.tuple #[]) ∧ w = w' := by
  have h1 := contains_calls b n c vs w hL hn false hb
  have H1 := Lib.hid h1
  clear h1 hL
  go_enter Tryz.func67, Tryz.ntmps67
  go_wp2_with fail
  refine H1.out.mono ?_
  rintro e w' ⟨rfl, rfl⟩
  go_wp2_with fail
  refine (need_ok _ _).mono ?_
  rintro e w' ⟨rfl, rfl⟩
  go_wp2_with fail
  go_end0
  exact ⟨rfl, rfl⟩
theorem taken_no (b n c : Nat) (vs : List (Option Addr × Nat × Nat × List Int)) (w : World) (hL : Lists w b n vs) (hn : n ≤ 9223372036854775807) (hb : Hid ((vs.any fun p => !validB p.2.2.2) = true)) :
    Calls Tryz.prog 67 #[.slice (some ⟨b, 0, none⟩) n c] w fun e w' => e = .panicked [{ v := fail 1, recovered := false }] ∧ w = w' := by
  have h1 := contains_calls b n c vs w hL hn true hb
  have H1 := Lib.hid h1
  clear h1 hL
  go_enter Tryz.func67, Tryz.ntmps67
  go_wp2_with fail
  refine H1.out.mono ?_
  rintro e w' ⟨rfl, rfl⟩
  go_wp2_with fail
  refine (need_no _ _).mono ?_
  rintro e w' ⟨rfl, rfl⟩
  go_wp2_with fail
  exact ⟨rfl, rfl, rfl⟩
end Go.Proofs.YtfcfejlffmddnaaGreatDoor
end
section
/- Contracts: given; what exported functions give. -/
namespace Go.Proofs.YtfcfejlffmddnaaGreatDoor
open Go.RowKit
set_option linter.unusedSimpArgs false
set_option linter.unusedVariables false

variable {w0 w : World} {l : List (Option Addr × Nat × Nat × Nat)}
set_option maxRecDepth 10000 in
theorem given_ok (H : Has w0 w l) (A1 : Option Addr) (k1 c1 n : Nat) (h1 : (A1, k1, c1, n) ∈ l) (b1 : k1 ≤ 1024) :
    Calls Tryz.prog 70 #[.slice A1 k1 c1] w (Made w0 l n 1024) := by
  obtain ⟨r1, e1, p1, p2⟩ := H.at h1
  have R1 := Lib.hid r1
  have E1 := Lib.hid e1
  have HH := Lib.hid H
  have hd : decide ((k1 : Int) ≤ 1024) = true := decide_eq_true (by omega)
  clear r1 e1 H
  go_enter Tryz.func70, Tryz.ntmps70
  go_wp2_with fail
  refine (need_ok _ _).mono ?_
  rintro e w' ⟨rfl, rfl⟩
  go_wp2_with fail
  refine (clone_calls A1 c1 k1 (dg n) w E1.out (by omega) R1.out).mono ?_
  rintro e w1 ⟨A', c', rfl, r', q1, q2, hb⟩
  go_wp2_with fail
  go_ret
  exact ⟨A', k1, c', n, rfl, Lib.hid rfl, b1, (HH.out.below hb).cons r' E1.out q1 q2⟩
set_option maxRecDepth 10000 in
theorem given_no (A1 : Option Addr) (k1 c1 : Nat) (w : World) (b1 : 1024 < k1) (b2 : k1 ≤ 9223372036854775807) :
    Calls Tryz.prog 70 #[.slice A1 k1 c1] w fun e w' => e = .panicked [{ v := fail 2, recovered := false }] ∧ w = w' := by
  have hd : decide ((k1 : Int) ≤ 1024) = false := decide_eq_false (by omega)
  go_enter Tryz.func70, Tryz.ntmps70
  go_wp2_with fail
  refine (need_no _ _).mono ?_
  rintro e w' ⟨rfl, rfl⟩
  go_wp2_with fail
  exact ⟨rfl, rfl, rfl⟩

/-! ### A cell for an error -/
theorem Rd.setE {w : World} {A : Option Addr} {g : List Int} {b : Nat} {x : Int} (h : Rd .u32 w A g) (hE : ECell w b x) (v : Value) : Rd .u32 (w.setCell ⟨b, 0, none⟩ v) A g := fun hn => by
  obtain ⟨b1, o, e, hc⟩ := h hn
  refine ⟨b1, o, e, fun j y hy => ?_⟩
  rw [World.cell?_setCell_other _ _ _ _ (fun hq => ?_)]
  · exact hc j y hy
  · have := hc j y hy
    rw [← hq, cell_of_one hE] at this
    cases this
theorem Has.setE (H : Has w0 w l) {b : Nat} {x : Int} (hE : ECell w b x) (hb : w0.heap.size ≤ b) (v : Value) : Has w0 (w.setCell ⟨b, 0, none⟩ v) l :=
  ⟨below_set H.b hb v, fun p hp => ⟨(H.r p hp).1.setE hE v, (H.r p hp).2⟩⟩
theorem Rd.alloc {k : IntKind} {w : World} {A : Option Addr} {g : List Int} (h : Rd k w A g) (o : Obj) : Rd k (w.alloc o) A g := h.below ((Below.refl _ w).alloc (Nat.le_refl _) o)
theorem Has.alloc (H : Has w0 w l) (o : Obj) : Has w0 (w.alloc o) l := H.below ((Below.refl _ w).alloc (Nat.le_refl _) o)
theorem ECell.new (w : World) (x : Int) : ECell (w.alloc (.cells #[.int .i64 x] 26)) w.heap.size x := World.alloc_heap_new w _
theorem ECell.alloc {w : World} {b : Nat} {x : Int} (h : ECell w b x) (o : Obj) : ECell (w.alloc o) b x := h.below ((Below.refl _ w).alloc (Nat.le_refl _) o)

/-! ### What exported functions give -/
/-- A number that fits, or the error that it is too large. -/
def giv (n : Nat) : Int × Nat := if (dg n).length ≤ 1024 then (0, n) else (2, 0)
theorem giv_ok {n : Nat} (h : (dg n).length ≤ 1024) : giv n = (0, n) := if_pos h
theorem giv_no {n : Nat} (h : ¬ (dg n).length ≤ 1024) : giv n = (2, 0) := if_neg h
/-- The post of an exported function that makes a number. -/
def Gives (w : World) (x : Int) (n : Nat) (e : Ending) (w' : World) : Prop := ∃ A k c, e = .returned (.tuple #[.slice A k c, .int .i64 x]) ∧ k ≤ 1024 ∧ Has w w' [(A, k, c, n)]
theorem Has.join {w0 w w' : World} {l l' : List (Option Addr × Nat × Nat × Nat)} (H : Has w0 w l) (H' : Has w w' l') : Has w0 w' (l' ++ l) :=
  ⟨H.b.trans (H'.b.mono H.b.size), fun p hp => by
    rcases List.mem_append.1 hp with h | h
    · exact H'.r p h
    · exact ⟨(H.r p h).1.below H'.b, (H.r p h).2⟩⟩
theorem Gives.nil {w w' : World} (x : Int) (hb : Below w.heap.size w w') : Gives w x 0 (.returned (.tuple #[.slice none 0 0, .int .i64 x])) w' :=
  ⟨none, 0, 0, rfl, by omega, hb, fun p hp => by
    obtain rfl := List.mem_singleton.1 hp
    exact ⟨by rw [dg_zero]; exact Rd.nil, by rw [dg_zero]; rfl, Nat.le_refl _, by simp⟩⟩
/-- The post of an exported function that makes two numbers. -/
def Gives2 (w : World) (x : Int) (n m : Nat) (e : Ending) (w' : World) : Prop := ∃ A k c A' k' c', e = .returned (.tuple #[.slice A k c, .slice A' k' c', .int .i64 x]) ∧ k ≤ 1024 ∧ k' ≤ 1024 ∧ Has w w' [(A, k, c, n), (A', k', c', m)]
theorem Gives2.nil {w w' : World} (x : Int) (hb : Below w.heap.size w w') : Gives2 w x 0 0 (.returned (.tuple #[.slice none 0 0, .slice none 0 0, .int .i64 x])) w' :=
  ⟨none, 0, 0, none, 0, 0, rfl, by omega, by omega, hb, fun p hp => by
    simp only [List.mem_cons, List.not_mem_nil, or_false, or_self] at hp
    subst hp
    exact ⟨by rw [dg_zero]; exact Rd.nil, by rw [dg_zero]; rfl, Nat.le_refl _, by simp⟩⟩
/-- The words on two arguments. -/
theorem Lists.two (w : World) (A1 : Option Addr) (k1 c1 : Nat) (g1 : List Int) (A2 : Option Addr) (k2 c2 : Nat) (g2 : List Int) (r1 : Rd .u32 w A1 g1) (r2 : Rd .u32 w A2 g2) (e1 : g1.length = k1) (e2 : g2.length = k2) (b1 : k1 ≤ 9223372036854775807) (b2 : k2 ≤ 9223372036854775807) :
    Lists (w.alloc (.cells #[.slice A1 k1 c1, .slice A2 k2 c2] 23)) w.heap.size 2 [(A1, k1, c1, g1), (A2, k2, c2, g2)] := by
  refine ⟨rfl, fun j p hp => ?_, fun p hp => ?_⟩
  · rw [Lib.cell_of_heap (World.alloc_heap_new w _)]
    match j, hp with
    | 0, hp => simp at hp; subst hp; rfl
    | 1, hp => simp at hp; subst hp; rfl
  · simp only [List.mem_cons, List.not_mem_nil, or_false] at hp
    rcases hp with rfl | rfl
    · exact ⟨e1, b1, r1.alloc _⟩
    · exact ⟨e2, b2, r2.alloc _⟩
theorem Lists.one (w : World) (A1 : Option Addr) (k1 c1 : Nat) (g1 : List Int) (r1 : Rd .u32 w A1 g1) (e1 : g1.length = k1) (b1 : k1 ≤ 9223372036854775807) :
    Lists (w.alloc (.cells #[.slice A1 k1 c1] 23)) w.heap.size 1 [(A1, k1, c1, g1)] := by
  refine ⟨rfl, fun j p hp => ?_, fun p hp => ?_⟩
  · rw [Lib.cell_of_heap (World.alloc_heap_new w _)]
    match j, hp with
    | 0, hp => simp at hp; subst hp; rfl
  · obtain rfl := List.mem_singleton.1 hp
    exact ⟨e1, b1, r1.alloc _⟩
theorem valid_dg (n : Nat) (h : (dg n).length ≤ 1024) : validB (dg n) = true := by
  unfold validB; exact decide_eq_true ⟨h, last_dg n⟩
theorem validB_num {g : List Int} (hd : dgs g) (h : validB g = true) : ∃ n, g = dg n ∧ (dg n).length ≤ 1024 := by
  unfold validB at h
  obtain ⟨h1, h2⟩ := of_decide_eq_true h
  exact ⟨(vl g).toNat, (dg_vl g hd h2).symm, by rw [dg_vl g hd h2]; exact h1⟩
end Go.Proofs.YtfcfejlffmddnaaGreatDoor
end
section
/- Contracts: multiplied. -/
namespace Go.Proofs.YtfcfejlffmddnaaGreatDoor
open Go.RowKit
set_option linter.unusedSimpArgs false
set_option linter.unusedVariables false

/-- What a walk needs of the world at its entry: the box of the road, the cell of the error, the list of arguments. -/
structure Entry2 (w w3 : World) (F G : Value) (A1 : Option Addr) (k1 c1 : Nat) (g1 : List Int) (A2 : Option Addr) (k2 c2 : Nat) (g2 : List Int) : Prop where
  below : Below w.heap.size w w3
  box : w3.heap[w.heap.size]? = some (.cells #[F, G] 81 (0, 0))
  err : ECell w3 (w.heap.size + 1) 0
  lists : Lists w3 (w.heap.size + 2) 2 [(A1, k1, c1, g1), (A2, k2, c2, g2)]
  r1 : Rd .u32 w3 A1 g1
  r2 : Rd .u32 w3 A2 g2
theorem Entry2.new (w : World) (F G : Value) (A1 : Option Addr) (k1 c1 : Nat) (g1 : List Int) (A2 : Option Addr) (k2 c2 : Nat) (g2 : List Int) (r1 : Rd .u32 w A1 g1) (r2 : Rd .u32 w A2 g2) (e1 : g1.length = k1) (e2 : g2.length = k2) (b1 : k1 ≤ 9223372036854775807) (b2 : k2 ≤ 9223372036854775807) :
    Entry2 w (((w.alloc (.cells #[F, G] 81)).alloc (.cells #[.int .i64 0] 26)).alloc (.cells #[.slice A1 k1 c1, .slice A2 k2 c2] 23)) F G A1 k1 c1 g1 A2 k2 c2 g2 := by
  obtain ⟨wa, hwa⟩ : ∃ wa, w.alloc (.cells #[F, G] 81) = wa := ⟨_, rfl⟩
  have ha : Below w.heap.size w wa := by rw [← hwa]; exact (Below.refl _ _).alloc (Nat.le_refl _) _
  have hsa : wa.heap.size = w.heap.size + 1 := by rw [← hwa, World.size_alloc]
  have hba : wa.heap[w.heap.size]? = some (.cells #[F, G] 81 (0, 0)) := by rw [← hwa]; exact World.alloc_heap_new w _
  rw [hwa]
  obtain ⟨wb, hwb⟩ : ∃ wb, wa.alloc (.cells #[.int .i64 0] 26) = wb := ⟨_, rfl⟩
  have hb : Below wa.heap.size wa wb := by rw [← hwb]; exact (Below.refl _ _).alloc (Nat.le_refl _) _
  have hsb : wb.heap.size = w.heap.size + 2 := by rw [← hwb, World.size_alloc, hsa]
  have heb : ECell wb (w.heap.size + 1) 0 := by rw [← hwb, ← hsa]; exact ECell.new wa 0
  have hbb : wb.heap[w.heap.size]? = some (.cells #[F, G] 81 (0, 0)) := (hb.block _ (lt_of_block hba)).trans hba
  have h2 : Below w.heap.size w wb := ha.trans (hb.mono ha.size)
  rw [hwb]
  have hl := Lists.two wb A1 k1 c1 g1 A2 k2 c2 g2 (r1.below h2) (r2.below h2) e1 e2 b1 b2
  rw [hsb] at hl
  exact ⟨h2.alloc (by rw [hsb]; omega) _, (Below.heap_alloc wb _ _ (by rw [hsb]; omega)).trans hbb, heb.alloc _, hl, (r1.below h2).alloc _, (r2.below h2).alloc _⟩
end Go.Proofs.YtfcfejlffmddnaaGreatDoor
end
section
/- Contracts: multiplied. -/
namespace Go.Proofs.YtfcfejlffmddnaaGreatDoor
open Go.RowKit
set_option linter.unusedSimpArgs false
set_option linter.unusedVariables false

set_option maxRecDepth 10000 in
set_option maxHeartbeats 1000000 in
theorem mult_bad (F G : Value) (A1 : Option Addr) (k1 c1 : Nat) (g1 : List Int) (A2 : Option Addr) (k2 c2 : Nat) (g2 : List Int) (w : World) (r1 : Rd .u32 w A1 g1) (r2 : Rd .u32 w A2 g2) (e1 : g1.length = k1) (e2 : g2.length = k2) (b1 : k1 ≤ 9223372036854775807) (b2 : k2 ≤ 9223372036854775807) (hv : Hid ((validB g1 && validB g2) = false)) :
    Calls Tryz.prog 64 #[.slice A1 k1 c1, .slice A2 k2 c2, .agg #[F, G]] w (Gives w 1 0) := by
  have hE := Entry2.new w F G A1 k1 c1 g1 A2 k2 c2 g2 r1 r2 e1 e2 b1 b2
  obtain ⟨w3, hw3⟩ : ∃ w3, (((w.alloc (.cells #[F, G] 81)).alloc (.cells #[.int .i64 0] 26)).alloc (.cells #[.slice A1 k1 c1, .slice A2 k2 c2] 23)) = w3 := ⟨_, rfl⟩
  rw [hw3] at hE
  have HE := Lib.hid hE
  have hany : Hid (([(A1, k1, c1, g1), (A2, k2, c2, g2)].any fun p => !validB p.2.2.2) = true) := Lib.hid (by
    have := hv.out
    simp only [List.any_cons, List.any_nil, Bool.or_false]
    cases h1 : validB g1 <;> cases h2 : validB g2 <;> simp_all)
  clear hE r1 r2 e1 e2
  go_enter_defers Tryz.func64, Tryz.ntmps64
  go_wp2_with fail
  refine (taken_no _ _ _ _ w3 HE.out.lists (by omega) hany).mono ?_
  rintro r w1 ⟨rfl, rfl⟩
  refine leaves_cons (f := 66) (args := #[.pointer (some ⟨w.heap.size + 1, 0, none⟩)]) (by simp) (by simp [go_sem]) ?_
  refine (caught_fail (w.heap.size + 1) 1 0 _ HE.out.err).mono ?_
  rintro r u' w'' ⟨rfl, rfl, rfl⟩
  have hc := HE.out.err.setA 1 (.cells #[.int .i64 1] 122)
  have hb := below_setA HE.out.below (Nat.le_succ _) (.int .i64 1) (.cells #[.int .i64 1] 122)
  exact ⟨.tuple #[.slice none 0 0, .int .i64 1], by simp [results, Tryz.results64, go_sem, hc], Gives.nil 1 hb⟩

/-- A function value makes a number, or fails. -/
def Times (w : World) (kf : Nat) (caps : Array Value) (A1 : Option Addr) (k1 c1 a : Nat) (A2 : Option Addr) (k2 c2 b : Nat) (x : Int) (n K : Nat) : Prop :=
  (∀ args W, (callFunc kf args).run Tryz.prog W = .ok (.enter kf args) W) ∧ ∀ W, Below w.heap.size w W → Has W W [(A1, k1, c1, a), (A2, k2, c2, b)] → Calls Tryz.prog kf (#[.slice A1 k1 c1, .slice A2 k2 c2] ++ caps) W fun e W' =>
    (x = 0 ∧ Made W [(A1, k1, c1, a), (A2, k2, c2, b)] n K e W') ∨ (x ≠ 0 ∧ e = .panicked [{ v := fail x, recovered := false }] ∧ Below W.heap.size W W')
set_option maxRecDepth 10000 in
set_option maxHeartbeats 1000000 in
theorem mult_fail (kf : Nat) (caps : Array Value) (G : Value) (A1 : Option Addr) (k1 c1 a : Nat) (A2 : Option Addr) (k2 c2 b : Nat) (w : World) (H : Has w w [(A1, k1, c1, a), (A2, k2, c2, b)]) (b1 : k1 ≤ 1024) (b2 : k2 ≤ 1024) (x : Int) (n K : Nat) (hx : x ≠ 0) (hF : Times w kf caps A1 k1 c1 a A2 k2 c2 b x n K) :
    Calls Tryz.prog 64 #[.slice A1 k1 c1, .slice A2 k2 c2, .agg #[.func (.func kf) #[] caps, G]] w (Gives w x 0) := by
  obtain ⟨r1, e1, p1, q1⟩ := H.at (A := A1) (k := k1) (c := c1) (n := a) (by simp)
  obtain ⟨r2, e2, p2, q2⟩ := H.at (A := A2) (k := k2) (c := c2) (n := b) (by simp)
  have hE := Entry2.new w (.func (.func kf) #[] caps) G A1 k1 c1 (dg a) A2 k2 c2 (dg b) r1 r2 e1 e2 (by omega) (by omega)
  obtain ⟨w3, hw3⟩ : ∃ w3, (((w.alloc (.cells #[.func (.func kf) #[] caps, G] 81)).alloc (.cells #[.int .i64 0] 26)).alloc (.cells #[.slice A1 k1 c1, .slice A2 k2 c2] 23)) = w3 := ⟨_, rfl⟩
  rw [hw3] at hE
  have HE := Lib.hid hE
  have hany : Hid (([(A1, k1, c1, dg a), (A2, k2, c2, dg b)].any fun p => !validB p.2.2.2) = false) := Lib.hid (by
    simp [valid_dg a (by omega), valid_dg b (by omega)])
  have h3 : Has w w3 [(A1, k1, c1, a), (A2, k2, c2, b)] := H.below hE.below
  have HF := Lib.hid (hF.2 w3 hE.below h3.rebase)
  have hent := hF.1
  have hbox : w3.cell? ⟨w.heap.size, 0, none⟩ = some (.func (.func kf) #[] caps) := Lib.cell_of_heap hE.box 0
  clear hE r1 r2 e1 e2 hF h3 H
  go_enter_defers Tryz.func64, Tryz.ntmps64
  go_wp2_with fail
  refine (taken_yes _ _ _ _ w3 HE.out.lists (by omega) hany).mono ?_
  rintro r w1 ⟨rfl, rfl⟩
  go_wp2_with fail
  refine HF.out.mono ?_
  rintro r w4 (⟨h, _⟩ | ⟨_, rfl, hb4⟩)
  · exact absurd h hx
  have hE4 := HE.out.err.below hb4
  refine leaves_cons (f := 66) (args := #[.pointer (some ⟨w.heap.size + 1, 0, none⟩)]) (by simp) (by simp [go_sem]) ?_
  refine (caught_fail (w.heap.size + 1) x 0 _ hE4).mono ?_
  rintro r u' w'' ⟨rfl, rfl, rfl⟩
  have hc := hE4.setA x (.cells #[.int .i64 x] 122)
  have hb := below_setA (HE.out.below.trans (hb4.mono HE.out.below.size)) (Nat.le_succ _) (.int .i64 x) (.cells #[.int .i64 x] 122)
  exact ⟨.tuple #[.slice none 0 0, .int .i64 x], by simp [results, Tryz.results64, go_sem, hc], Gives.nil x hb⟩
set_option maxRecDepth 10000 in
set_option maxHeartbeats 1000000 in
theorem mult_done (kf : Nat) (caps : Array Value) (G : Value) (A1 : Option Addr) (k1 c1 a : Nat) (A2 : Option Addr) (k2 c2 b : Nat) (w : World) (H : Has w w [(A1, k1, c1, a), (A2, k2, c2, b)]) (b1 : k1 ≤ 1024) (b2 : k2 ≤ 1024) (n K : Nat) (hK : K ≤ 9223372036854775807) (x' : Int) (n' : Nat) (hg : Hid (giv n = (x', n'))) (hF : Times w kf caps A1 k1 c1 a A2 k2 c2 b 0 n K) :
    Calls Tryz.prog 64 #[.slice A1 k1 c1, .slice A2 k2 c2, .agg #[.func (.func kf) #[] caps, G]] w (Gives w x' n') := by
  obtain ⟨r1, e1, p1, q1⟩ := H.at (A := A1) (k := k1) (c := c1) (n := a) (by simp)
  obtain ⟨r2, e2, p2, q2⟩ := H.at (A := A2) (k := k2) (c := c2) (n := b) (by simp)
  have hE := Entry2.new w (.func (.func kf) #[] caps) G A1 k1 c1 (dg a) A2 k2 c2 (dg b) r1 r2 e1 e2 (by omega) (by omega)
  obtain ⟨w3, hw3⟩ : ∃ w3, (((w.alloc (.cells #[.func (.func kf) #[] caps, G] 81)).alloc (.cells #[.int .i64 0] 26)).alloc (.cells #[.slice A1 k1 c1, .slice A2 k2 c2] 23)) = w3 := ⟨_, rfl⟩
  rw [hw3] at hE
  have HE := Lib.hid hE
  have hany : Hid (([(A1, k1, c1, dg a), (A2, k2, c2, dg b)].any fun p => !validB p.2.2.2) = false) := Lib.hid (by
    simp [valid_dg a (by omega), valid_dg b (by omega)])
  have h3 : Has w w3 [(A1, k1, c1, a), (A2, k2, c2, b)] := H.below hE.below
  have HF := Lib.hid (hF.2 w3 hE.below h3.rebase)
  have hent := hF.1
  have hbox : w3.cell? ⟨w.heap.size, 0, none⟩ = some (.func (.func kf) #[] caps) := Lib.cell_of_heap hE.box 0
  clear hE r1 r2 e1 e2 hF h3 H
  go_enter_defers Tryz.func64, Tryz.ntmps64
  go_wp2_with fail
  refine (taken_yes _ _ _ _ w3 HE.out.lists (by omega) hany).mono ?_
  rintro r w1 ⟨rfl, rfl⟩
  go_wp2_with fail
  refine HF.out.mono ?_
  rintro r w4 (⟨_, A4, k4, c4, n4, rfl, hn4, b4, H4⟩ | ⟨h, _⟩)
  rotate_left
  · exact absurd rfl h
  obtain rfl : n4 = n := hn4.out
  have hl4 := H4.len (A := A4) (k := k4) (c := c4) (n := n4) (by simp)
  have hE4 := HE.out.err.below H4.b
  by_cases hk : k4 ≤ 1024
  · have hg2 := giv_ok (n := n4) (by omega)
    rw [hg.out] at hg2
    injection hg2 with hx hn
    subst hx hn
    have HE4 := Lib.hid hE4
    have HH4 := Lib.hid H4
    clear hE4 H4 hbox hl4 hn4 hw3
    go_wp2_with fail
    refine (given_ok HH4.out A4 k4 c4 n' (by simp) hk).mono ?_
    rintro r w5 ⟨A5, k5, c5, n5, rfl, hn5, b5, H5⟩
    obtain rfl : n5 = n' := hn5.out
    have hb5 := H5.b
    have hE5 : ECell w5 (w.heap.size + 1) 0 := HE.out.err.below hb5
    have c5' := cell_of_one hE5
    have z5' := free_of_one hE5
    have l5' := lt_of_block hE5
    have HE5 := Lib.hid hE5
    have HH5 := Lib.hid H5
    clear hE5 H5 hb5 hn5
    go_wp2_with fail
    refine leaves_cons (f := 66) (args := #[.pointer (some ⟨w.heap.size + 1, 0, none⟩)]) (by simp) (by simp [go_sem]) ?_
    refine (caught_idle _ _).mono ?_
    rintro r u' w'' ⟨rfl, rfl, rfl⟩
    have hc := HE5.out.set 0
    have hh : Has w w5 [(A5, k5, c5, n5)] := ⟨HE.out.below.trans (HH5.out.b.mono HE.out.below.size), fun p hp => HH5.out.r p (by
      obtain rfl := List.mem_singleton.1 hp; simp)⟩
    exact ⟨.tuple #[.slice A5 k5 c5, .int .i64 0], by simp [results, Tryz.results64, go_sem, hc], A5, k5, c5, rfl, b5, hh.setE HE5.out (Nat.le_succ _) _⟩
  · have hg2 := giv_no (n := n4) (by omega)
    rw [hg.out] at hg2
    injection hg2 with hx hn
    subst hx hn
    have HE4 := Lib.hid hE4
    have HH4 := Lib.hid H4
    clear hE4 H4 hbox hl4 hn4 hw3
    go_wp2_with fail
    refine (given_no A4 k4 c4 w4 (by omega) (by omega)).mono ?_
    rintro r w5 ⟨rfl, rfl⟩
    refine leaves_cons (f := 66) (args := #[.pointer (some ⟨w.heap.size + 1, 0, none⟩)]) (by simp) (by simp [go_sem]) ?_
    refine (caught_fail (w.heap.size + 1) 2 0 _ HE4.out).mono ?_
    rintro r u' w'' ⟨rfl, rfl, rfl⟩
    have hc := HE4.out.setA 2 (.cells #[.int .i64 2] 122)
    have hb := below_setA (HE.out.below.trans (HH4.out.b.mono HE.out.below.size)) (Nat.le_succ _) (.int .i64 2) (.cells #[.int .i64 2] 122)
    exact ⟨.tuple #[.slice none 0 0, .int .i64 2], by simp [results, Tryz.results64, go_sem, hc], Gives.nil 2 hb⟩
end Go.Proofs.YtfcfejlffmddnaaGreatDoor
end
section
/- Contracts: divided. -/
namespace Go.Proofs.YtfcfejlffmddnaaGreatDoor
open Go.RowKit
set_option linter.unusedSimpArgs false
set_option linter.unusedVariables false

set_option maxRecDepth 10000 in
set_option maxHeartbeats 1000000 in
theorem div_bad (F G : Value) (A1 : Option Addr) (k1 c1 : Nat) (g1 : List Int) (A2 : Option Addr) (k2 c2 : Nat) (g2 : List Int) (w : World) (r1 : Rd .u32 w A1 g1) (r2 : Rd .u32 w A2 g2) (e1 : g1.length = k1) (e2 : g2.length = k2) (b1 : k1 ≤ 9223372036854775807) (b2 : k2 ≤ 9223372036854775807) (hv : Hid ((validB g1 && validB g2) = false)) :
    Calls Tryz.prog 75 #[.slice A1 k1 c1, .slice A2 k2 c2, .agg #[F, G]] w (Gives2 w 1 0 0) := by
  have hE := Entry2.new w F G A1 k1 c1 g1 A2 k2 c2 g2 r1 r2 e1 e2 b1 b2
  obtain ⟨w3, hw3⟩ : ∃ w3, (((w.alloc (.cells #[F, G] 81)).alloc (.cells #[.int .i64 0] 26)).alloc (.cells #[.slice A1 k1 c1, .slice A2 k2 c2] 23)) = w3 := ⟨_, rfl⟩
  rw [hw3] at hE
  have HE := Lib.hid hE
  have hany : Hid (([(A1, k1, c1, g1), (A2, k2, c2, g2)].any fun p => !validB p.2.2.2) = true) := Lib.hid (by
    have := hv.out
    simp only [List.any_cons, List.any_nil, Bool.or_false]
    cases h1 : validB g1 <;> cases h2 : validB g2 <;> simp_all)
  clear hE r1 r2 e1 e2
  go_enter_defers Tryz.func75, Tryz.ntmps75
  go_wp2_with fail
  refine (taken_no _ _ _ _ w3 HE.out.lists (by omega) hany).mono ?_
  rintro r w1 ⟨rfl, rfl⟩
  refine leaves_cons (f := 66) (args := #[.pointer (some ⟨w.heap.size + 1, 0, none⟩)]) (by simp) (by simp [go_sem]) ?_
  refine (caught_fail (w.heap.size + 1) 1 0 _ HE.out.err).mono ?_
  rintro r u' w'' ⟨rfl, rfl, rfl⟩
  have hc := HE.out.err.setA 1 (.cells #[.int .i64 1] 122)
  have hb := below_setA HE.out.below (Nat.le_succ _) (.int .i64 1) (.cells #[.int .i64 1] 122)
  exact ⟨.tuple #[.slice none 0 0, .slice none 0 0, .int .i64 1], by simp [results, Tryz.results75, go_sem, hc], Gives2.nil 1 hb⟩
set_option maxRecDepth 10000 in
set_option maxHeartbeats 1000000 in
theorem div_zero (F G : Value) (A1 : Option Addr) (k1 c1 a : Nat) (A2 : Option Addr) (c2 : Nat) (w : World) (H : Has w w [(A1, k1, c1, a), (A2, 0, c2, 0)]) (b1 : k1 ≤ 1024) :
    Calls Tryz.prog 75 #[.slice A1 k1 c1, .slice A2 0 c2, .agg #[F, G]] w (Gives2 w 8 0 0) := by
  obtain ⟨r1, e1, p1, q1⟩ := H.at (A := A1) (k := k1) (c := c1) (n := a) (by simp)
  obtain ⟨r2, e2, p2, q2⟩ := H.at (A := A2) (k := 0) (c := c2) (n := 0) (by simp)
  have hE := Entry2.new w F G A1 k1 c1 (dg a) A2 0 c2 (dg 0) r1 r2 e1 e2 (by omega) (by omega)
  obtain ⟨w3, hw3⟩ : ∃ w3, (((w.alloc (.cells #[F, G] 81)).alloc (.cells #[.int .i64 0] 26)).alloc (.cells #[.slice A1 k1 c1, .slice A2 0 c2] 23)) = w3 := ⟨_, rfl⟩
  rw [hw3] at hE
  have HE := Lib.hid hE
  have hany : Hid (([(A1, k1, c1, dg a), (A2, 0, c2, dg 0)].any fun p => !validB p.2.2.2) = false) := Lib.hid (by
    simp [valid_dg a (by omega), valid_dg 0 (by omega)])
  clear hE r1 r2 e1 e2 H
  go_enter_defers Tryz.func75, Tryz.ntmps75
  go_wp2_with fail
  refine (taken_yes _ _ _ _ w3 HE.out.lists (by omega) hany).mono ?_
  rintro r w1 ⟨rfl, rfl⟩
  go_wp2_with fail
  refine (need_no _ _).mono ?_
  rintro e w' ⟨rfl, rfl⟩
  refine leaves_cons (f := 66) (args := #[.pointer (some ⟨w.heap.size + 1, 0, none⟩)]) (by simp) (by simp [go_sem]) ?_
  refine (caught_fail (w.heap.size + 1) 8 0 _ HE.out.err).mono ?_
  rintro r u' w'' ⟨rfl, rfl, rfl⟩
  have hc := HE.out.err.setA 8 (.cells #[.int .i64 8] 122)
  have hb := below_setA HE.out.below (Nat.le_succ _) (.int .i64 8) (.cells #[.int .i64 8] 122)
  exact ⟨.tuple #[.slice none 0 0, .slice none 0 0, .int .i64 8], by simp [results, Tryz.results75, go_sem, hc], Gives2.nil 8 hb⟩
/-- A function value makes a quotient and a rest. -/
def Over (w : World) (kf : Nat) (caps : Array Value) (A1 : Option Addr) (k1 c1 a : Nat) (A2 : Option Addr) (k2 c2 b : Nat) : Prop :=
  (∀ args W, (callFunc kf args).run Tryz.prog W = .ok (.enter kf args) W) ∧ ∀ W, Below w.heap.size w W → Has W W [(A1, k1, c1, a), (A2, k2, c2, b)] → Calls Tryz.prog kf (#[.slice A1 k1 c1, .slice A2 k2 c2] ++ caps) W (Made2 W [(A1, k1, c1, a), (A2, k2, c2, b)] (a / b) (a % b) k1 k2)
set_option maxRecDepth 10000 in
set_option maxHeartbeats 1000000 in
theorem div_done (kf : Nat) (caps : Array Value) (F : Value) (A1 : Option Addr) (k1 c1 a : Nat) (A2 : Option Addr) (k2 c2 b : Nat) (w : World) (H : Has w w [(A1, k1, c1, a), (A2, k2, c2, b)]) (b1 : k1 ≤ 1024) (b2 : k2 ≤ 1024) (hb0 : 0 < k2) (hF : Over w kf caps A1 k1 c1 a A2 k2 c2 b) :
    Calls Tryz.prog 75 #[.slice A1 k1 c1, .slice A2 k2 c2, .agg #[F, .func (.func kf) #[] caps]] w (Gives2 w 0 (a / b) (a % b)) := by
  obtain ⟨r1, e1, p1, q1⟩ := H.at (A := A1) (k := k1) (c := c1) (n := a) (by simp)
  obtain ⟨r2, e2, p2, q2⟩ := H.at (A := A2) (k := k2) (c := c2) (n := b) (by simp)
  have hE := Entry2.new w F (.func (.func kf) #[] caps) A1 k1 c1 (dg a) A2 k2 c2 (dg b) r1 r2 e1 e2 (by omega) (by omega)
  obtain ⟨w3, hw3⟩ : ∃ w3, (((w.alloc (.cells #[F, .func (.func kf) #[] caps] 81)).alloc (.cells #[.int .i64 0] 26)).alloc (.cells #[.slice A1 k1 c1, .slice A2 k2 c2] 23)) = w3 := ⟨_, rfl⟩
  rw [hw3] at hE
  have HE := Lib.hid hE
  have hany : Hid (([(A1, k1, c1, dg a), (A2, k2, c2, dg b)].any fun p => !validB p.2.2.2) = false) := Lib.hid (by
    simp [valid_dg a (by omega), valid_dg b (by omega)])
  have h3 : Has w w3 [(A1, k1, c1, a), (A2, k2, c2, b)] := H.below hE.below
  have HF := Lib.hid (hF.2 w3 hE.below h3.rebase)
  have hent := hF.1
  have hbox : w3.cell? ⟨w.heap.size, 1, none⟩ = some (.func (.func kf) #[] caps) := Lib.cell_of_heap hE.box 1
  have hd : decide ((0 : Int) < (k2 : Int)) = true := decide_eq_true (by omega)
  clear hE r1 r2 e1 e2 hF h3 H
  go_enter_defers Tryz.func75, Tryz.ntmps75
  go_wp2_with fail
  refine (taken_yes _ _ _ _ w3 HE.out.lists (by omega) hany).mono ?_
  rintro r w1 ⟨rfl, rfl⟩
  go_wp2_with fail
  refine (need_ok _ _).mono ?_
  rintro e w' ⟨rfl, rfl⟩
  go_wp2_with fail
  refine HF.out.mono ?_
  rintro r w4 ⟨A4, k4, c4, n4, A5, k5, c5, n5, rfl, hn4, hn5, b4, b5, H4⟩
  have HE4 := Lib.hid (HE.out.err.below H4.b)
  have HB4 := Lib.hid H4.b
  have HH4 := Lib.hid H4.rebase
  clear H4 hbox hw3
  go_wp2_with fail
  refine (given_ok HH4.out A4 k4 c4 n4 (by simp) (by omega)).mono ?_
  rintro r w5 ⟨A6, k6, c6, n6, rfl, hn6, b6, H5⟩
  go_wp2_with fail
  refine (given_ok H5 A5 k5 c5 n5 (by simp) (by omega)).mono ?_
  rintro r w6 ⟨A7, k7, c7, n7, rfl, hn7, b7, H6⟩
  have hE6 : ECell w6 (w.heap.size + 1) 0 := HE4.out.below H6.b
  have c6' := cell_of_one hE6
  have z6' := free_of_one hE6
  have l6' := lt_of_block hE6
  have HE6 := Lib.hid hE6
  have HH6 := Lib.hid H6
  clear hE6 H6 H5
  go_wp2_with fail
  refine leaves_cons (f := 66) (args := #[.pointer (some ⟨w.heap.size + 1, 0, none⟩)]) (by simp) (by simp [go_sem]) ?_
  refine (caught_idle _ _).mono ?_
  rintro r u' w'' ⟨rfl, rfl, rfl⟩
  have hc := HE6.out.set 0
  have h34 := HE.out.below.trans (HB4.out.mono HE.out.below.size)
  have hh : Has w w6 [(A6, k6, c6, a / b), (A7, k7, c7, a % b)] := ⟨h34.trans (HH6.out.b.mono h34.size), fun p hp => HH6.out.r p (by
    simp only [List.mem_cons, List.not_mem_nil, or_false] at hp
    rcases hp with rfl | rfl
    · rw [← hn4.out, ← hn6.out]; simp
    · rw [← hn5.out, ← hn7.out]; simp)⟩
  exact ⟨.tuple #[.slice A6 k6 c6, .slice A7 k7 c7, .int .i64 0], by simp [results, Tryz.results75, go_sem, hc], A6, k6, c6, A7, k7, c7, rfl, b6, b7, hh.setE HE6.out (Nat.le_succ _) _⟩
end Go.Proofs.YtfcfejlffmddnaaGreatDoor
end
