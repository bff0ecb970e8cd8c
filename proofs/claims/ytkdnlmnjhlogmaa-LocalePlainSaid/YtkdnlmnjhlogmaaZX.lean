/- The law LocaleRoom: the walk. -/
import Derived.Test.YtkdnlmnjhlogmaaZG
import Derived.Test.YtkdnlmnjhlogmaaZU
namespace Go.Proofs.Ytkdnlmnjhlogmaa
open Go.RowKit Go.Shelf
set_option linter.unusedSimpArgs false
set_option linter.unusedVariables false

theorem errB_zero {b : Bool} {n : Int} (h0 : 0 ≤ n) (h1 : n ≤ 20000) : errB b n = if b then 0 else 1 := by
  unfold errB; cases b
  · rfl
  · rw [if_pos rfl, if_neg (by omega), if_neg (by omega)]; rfl
theorem mul_small (la sl : Nat) (h1 : la ≤ 3001) (h2 : sl ≤ 4) : ((la : Int) - 1) * sl ≤ 20000 ∧ -4 ≤ ((la : Int) - 1) * sl := by
  rcases Nat.eq_zero_or_pos la with h | h
  · subst h
    have : (((0 : Nat) : Int) - 1) * (sl : Int) = -(sl : Int) := by rw [show (((0 : Nat) : Int) - 1) = -1 by omega]; omega
    omega
  · have h3 := Int.mul_le_mul (show ((la : Int) - 1) ≤ 3000 by omega) (show (sl : Int) ≤ 4 by omega) (by omega) (by omega)
    have h4 := Int.mul_nonneg (show (0 : Int) ≤ (la : Int) - 1 by omega) (show (0 : Int) ≤ sl by omega)
    omega

set_option maxRecDepth 10000 in
set_option maxHeartbeats 2000000 in
theorem roomLaw_calls (p s : ByteArray) (A : Option Addr) (c : Nat) (g : List Int) (e bt mr : Int) (w : World) (hp : p.size ≤ maxLen) (hs : s.size ≤ maxLen) (hg : g.length ≤ maxLen) (hbt : (Lit.int .i64 bt).wf = true) (hmr : (Lit.int .i64 mr).wf = true) (hR : Rd .i64 w A g) :
    Calls Try.prog 8 #[Loc p s A c g e, .int .i64 bt, .int .i64 mr] w fun r w' => r = .returned (.bool true) ∧ Below w.heap.size w w' := by
  have hI := InBox.new w p s A c g e hR
  have HI := Lib.hid hI
  obtain ⟨c0, c1, c2, c3⟩ := hI.bx.cells
  clear hI hR hbt hmr
  have main : (bt < 0 ∨ (0 ≤ bt ∧ 400 < bt) ∨ (0 ≤ bt ∧ bt ≤ 400 ∧ mr < 0) ∨ (0 ≤ bt ∧ bt ≤ 400 ∧ 0 ≤ mr ∧ 400 < mr)) ∨ (0 ≤ bt ∧ bt ≤ 400 ∧ 0 ≤ mr ∧ mr ≤ 400) := by omega
  rcases main with m | ⟨m1, m2, m3, m4⟩
  · clear hp hs hg
    rcases m with m1 | ⟨m1, m2⟩ | ⟨m1, m2, m3⟩ | ⟨m1, m2, m3, m4⟩
    all_goals
      go_enter Try.func8, Try.ntmps8
      go_wp2_with fail
      refine (awake_calls _).mono ?_
      rintro r w1 ⟨rfl, hb1⟩
      have Hb1 := Lib.hid (HI.out.step hb1)
      clear hb1
      go_wp2_with fail
      go_ret
      exact ⟨rfl, Hb1.out.b⟩
  · obtain ⟨ok, hok⟩ : ∃ b, okB (L p) (L s) g e = b := ⟨_, rfl⟩
    have hS := fun W n hR => sizes_prog p s A c g e n W hp hs hg hR
    have hM := fun W n hR => room_prog p s A c g e n W hp hs hg hR
    rw [hok] at hS hM
    cases ok
    · have hm1 : ∀ W n, 0 ≤ n → n ≤ 800 → Rd .i64 W A g → Calls Try.prog 23 #[Loc p s A c g e, .int .i64 n] W fun r w' => r = .returned (.tuple #[.int .i64 0, .int .i64 1]) ∧ Below W.heap.size W w' := fun W n h0 h1 hR => hM W n hR 1 0 (by rw [errB_zero h0 (by omega)]; rfl) (by rw [if_neg (by decide)])
      have hs1 : ∀ W n, 0 ≤ n → n ≤ 800 → Rd .i64 W A g → Calls Try.prog 21 #[Loc p s A c g e, .int .i64 n] W fun r w' => ∃ v, r = .returned (.tuple #[v, .int .i64 1]) ∧ Below W.heap.size W w' := fun W n h0 h1 hR => (hS W n hR).mono (by
        rintro r w' ⟨v, rfl, _, hb⟩
        exact ⟨v, by rw [errB_zero h0 (by omega)]; rfl, hb⟩)
      have HM := Lib.hid hm1
      have HS := Lib.hid hs1
      clear hm1 hs1 hS hM hok hp hs hg
      go_enter Try.func8, Try.ntmps8
      go_wp2_with fail
      refine (awake_calls _).mono ?_
      rintro r w1 ⟨rfl, hb1⟩
      have I1 := Lib.hid (HI.out.step hb1)
      clear hb1 c0 c1 c2 c3
      obtain ⟨c0, c1, c2, c3⟩ := I1.out.bx.cells
      go_wp2_with fail
      refine (HM.out _ _ (by omega) (by omega) I1.out.rd).mono ?_
      rintro r w2 ⟨rfl, hb2⟩
      have I2 := Lib.hid (I1.out.step hb2)
      clear hb2 c0 c1 c2 c3
      obtain ⟨c0, c1, c2, c3⟩ := I2.out.bx.cells
      go_wp2_with fail
      refine (HM.out _ _ (by omega) (by omega) I2.out.rd).mono ?_
      rintro r w3 ⟨rfl, hb3⟩
      have I3 := Lib.hid (I2.out.step hb3)
      clear hb3 c0 c1 c2 c3
      obtain ⟨c0, c1, c2, c3⟩ := I3.out.bx.cells
      go_wp2_with fail
      refine (HS.out _ _ (by omega) (by omega) I3.out.rd).mono ?_
      rintro r w4 ⟨v4, rfl, hb4⟩
      have I4 := Lib.hid (I3.out.step hb4)
      clear hb4 c0 c1 c2 c3
      obtain ⟨c0, c1, c2, c3⟩ := I4.out.bx.cells
      go_wp2_with fail
      refine (HS.out _ _ (by omega) (by omega) I4.out.rd).mono ?_
      rintro r w5 ⟨v5, rfl, hb5⟩
      have I5 := Lib.hid (I4.out.step hb5)
      clear hb5 c0 c1 c2 c3
      go_wp2_with fail
      go_ret
      exact ⟨rfl, I5.out.b⟩
    · obtain ⟨_, hsl, hgl, hgp⟩ := ok_facts hok
      rw [L_length] at hsl
      have hf := sz_nonneg (s := L s) hgp
      obtain ⟨f, hff⟩ : ∃ f, sz (oneB (L s) g) g = f := ⟨_, rfl⟩
      rw [hff] at hf hM
      obtain ⟨R1, a1, a2, a3, a4⟩ := room_law f hf (s.size : Int) bt (by omega) m1
      obtain ⟨R2, b1, b2, b3, b4⟩ := room_law f hf (s.size : Int) (bt + mr) (by omega) (by omega)
      have hm1 : ∀ W, Rd .i64 W A g → Calls Try.prog 23 #[Loc p s A c g e, .int .i64 bt] W fun r w' => r = .returned (.tuple #[.int .i64 R1, .int .i64 0]) ∧ Below W.heap.size W w' := fun W hR => hM W bt hR 0 R1 (by rw [errB_zero m1 (by omega)]; rfl) (by rw [if_pos rfl, a1])
      have hm2 : ∀ W, Rd .i64 W A g → Calls Try.prog 23 #[Loc p s A c g e, .int .i64 (bt + mr)] W fun r w' => r = .returned (.tuple #[.int .i64 R2, .int .i64 0]) ∧ Below W.heap.size W w' := fun W hR => hM W (bt + mr) hR 0 R2 (by rw [errB_zero (by omega) (by omega)]; rfl) (by rw [if_pos rfl, b1])
      have hs1 : ∀ W (n : Int), 0 ≤ n → n ≤ 801 → Rd .i64 W A g → Calls Try.prog 21 #[Loc p s A c g e, .int .i64 n] W fun r w' => ∃ v, r = .returned (.tuple #[v, .int .i64 0]) ∧ Out w' v (grp f n) ∧ Below W.heap.size W w' := fun W n h0 h1 hR => (hS W n hR).mono (by
        rintro r w' ⟨v, rfl, ho, hb⟩
        rw [errB_zero h0 (by omega), if_pos rfl] at ho ⊢
        rw [if_pos rfl, sizesL, hff] at ho
        exact ⟨v, rfl, ho, hb⟩)
      have r1 : R1 ≤ R2 := by
        rcases a3 with h | h
        · omega
        · rcases Nat.lt_or_ge R2 R1 with h2 | h2
          · exact absurd (by have := fits_less f hf s.size bt (by omega) R1 R2 h2 h; rw [fits_byt] at this ⊢; omega) b4
          · exact h2
      have r2 : (R2 : Int) ≤ R1 + mr := by
        rcases b3 with h | h
        · omega
        · rcases Int.lt_or_le (R1 + mr) R2 with h2 | h2
          · exfalso
            apply a4
            rw [fits_byt] at h ⊢
            have := byt_more f hf s.size (by omega) (R1 + 1) (R2 - (R1 + 1))
            rw [show R1 + 1 + (R2 - (R1 + 1)) = R2 by omega] at this
            omega
          · exact h2
      obtain ⟨_, _, l1⟩ := grp_sum f hf (R1 : Int) (by omega)
      obtain ⟨_, _, l2⟩ := grp_sum f hf ((R1 : Int) + 1) (by omega)
      rw [fitsIn, show ((R1 + 1 : Nat) : Int) = (R1 : Int) + 1 by omega] at a4
      have a3' : R1 = 0 ∨ (R1 : Int) + (((grp f R1).length : Int) - 1) * s.size ≤ bt := a3
      obtain ⟨ga, hga⟩ : ∃ x, grp f (R1 : Int) = x := ⟨_, rfl⟩
      obtain ⟨gb, hgb⟩ : ∃ x, grp f ((R1 : Int) + 1) = x := ⟨_, rfl⟩
      have hsa := fun W hR => hs1 W R1 (by omega) (by omega) hR
      have hsb := fun W hR => hs1 W (R1 + 1) (by omega) (by omega) hR
      rw [hga] at hsa l1 a3'
      rw [hgb] at hsb l2 a4
      have ga1 : ga.length ≤ 801 := by omega
      have gb1 : gb.length ≤ 801 := by omega
      obtain ⟨ma1, ma2⟩ := mul_small ga.length s.size (by omega) hsl
      obtain ⟨mb1, mb2⟩ := mul_small gb.length s.size (by omega) hsl
      obtain ⟨ma, hma⟩ : ∃ m, ((ga.length : Int) - 1) * s.size = m := ⟨_, rfl⟩
      obtain ⟨mb, hmb⟩ : ∃ m, ((gb.length : Int) - 1) * s.size = m := ⟨_, rfl⟩
      rw [hma] at ma1 ma2 a3'
      rw [hmb] at mb1 mb2 a4
      have hno : bt < (R1 : Int) + 1 + mb := by omega
      have HM1 := Lib.hid hm1
      have HM2 := Lib.hid hm2
      have HSA := Lib.hid hsa
      have HSB := Lib.hid hsb
      clear hm1 hm2 hs1 hS hM hok hp hs hg hsl hgl hgp hf hff a1 a3 a4 b1 b3 b4 l1 l2 hga hgb hsa hsb
      have cs : R1 = 0 ∨ (0 < R1 ∧ (R1 : Int) + ma ≤ bt) := by omega
      clear a3'
      rcases cs with rfl | ⟨n1, n2⟩
      all_goals try (have r4 : (R2 : Int) ≤ mr := by omega)
      all_goals
        go_enter Try.func8, Try.ntmps8
        go_wp2_with fail
        refine (awake_calls _).mono ?_
        rintro r w1 ⟨rfl, hb1⟩
        have I1 := Lib.hid (HI.out.step hb1)
        clear hb1 c0 c1 c2 c3
        obtain ⟨c0, c1, c2, c3⟩ := I1.out.bx.cells
        go_wp2_with fail
        refine (HM1.out _ I1.out.rd).mono ?_
        rintro r w2 ⟨rfl, hb2⟩
        have I2 := Lib.hid (I1.out.step hb2)
        clear hb2 c0 c1 c2 c3
        obtain ⟨c0, c1, c2, c3⟩ := I2.out.bx.cells
        go_wp2_with fail
        refine (HM2.out _ I2.out.rd).mono ?_
        rintro r w3 ⟨rfl, hb3⟩
        have I3 := Lib.hid (I2.out.step hb3)
        clear hb3 c0 c1 c2 c3
        obtain ⟨c0, c1, c2, c3⟩ := I3.out.bx.cells
        go_wp2_with fail
        refine (HSA.out _ I3.out.rd).mono ?_
        rintro r w4 ⟨_, rfl, ⟨A4, k4, rfl, _, _, _⟩, hb4⟩
        have I4 := Lib.hid (I3.out.step hb4)
        clear hb4 c0 c1 c2 c3
        obtain ⟨c0, c1, c2, c3⟩ := I4.out.bx.cells
        go_wp2_with fail
        refine (HSB.out _ I4.out.rd).mono ?_
        rintro r w5 ⟨_, rfl, ⟨A5, k5, rfl, _, _, _⟩, hb5⟩
        have I5 := Lib.hid (I4.out.step hb5)
        clear hb5 c0 c1 c2 c3
        obtain ⟨c0, c1, c2, c3⟩ := I5.out.bx.cells
        go_wp2_with fail
        go_ret
        exact ⟨rfl, I5.out.b⟩
end Go.Proofs.Ytkdnlmnjhlogmaa
