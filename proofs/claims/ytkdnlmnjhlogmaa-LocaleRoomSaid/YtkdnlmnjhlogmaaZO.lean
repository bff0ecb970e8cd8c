/- Room, by the reference. -/
import Derived.Test.YtkdnlmnjhlogmaaZG
namespace Go.Proofs.Ytkdnlmnjhlogmaa
open Go.RowKit Go.Shelf
set_option linter.unusedSimpArgs false
set_option linter.unusedVariables false

/-- So many digits, grouped, have at most so many bytes. -/
def fitsIn (f : Nat → Int) (sl b : Int) (n : Nat) : Prop := (n : Int) + (((grp f n).length : Int) - 1) * sl ≤ b

set_option maxRecDepth 10000 in
set_option maxHeartbeats 1000000 in
theorem room_ref (p s : ByteArray) (A : Option Addr) (c : Nat) (g : List Int) (e bt : Int) (w : World) (hp : p.size ≤ maxLen) (hs : s.size ≤ maxLen) (hg : g.length ≤ maxLen) (hR : Rd .i64 w A g) (x : Int) (R : Nat)
    (hx : errB (okB (L p) (L s) g e) bt = x) (hR0 : x ≠ 0 → R = 0) (hR1 : x = 0 → R ≤ 20000 ∧ (∀ m, m < R → fitsIn (sz (oneB (L s) g) g) s.size bt (m + 1)) ∧ ¬ fitsIn (sz (oneB (L s) g) g) s.size bt (R + 1)) :
    Calls Try.prog 26 #[Loc p s A c g e, .int .i64 bt] w fun r w' => r = .returned (.tuple #[.int .i64 R, .int .i64 x]) ∧ Below w.heap.size w w' := by
  have hI := InBox.new w p s A c g e hR
  have hft := fits_calls p s A c g e bt _ hp hs hg hI.rd
  rw [hx] at hft
  obtain ⟨c0, c1, c2, c3⟩ := hI.bx.cells
  have Hft := Lib.hid hft
  have Hy := Lib.hid hx
  have HI := Lib.hid hI
  have Hg := Lib.hid hg
  clear hft hx hI hR hp hs hg
  by_cases hx0 : x = 0
  · have hx1 : (x == 0) = true := beq_iff_eq.2 hx0
    have hx2 : (x != 0) = false := by simp [hx0]
    obtain ⟨hok, hn0, hn1⟩ := errB_ok (by rw [Hy.out]; exact hx0)
    obtain ⟨⟨_, hpl⟩, hsl, hgl, hgp⟩ := ok_facts hok
    rw [L_length] at hpl hsl
    obtain ⟨hR20, hfit, hnot⟩ := hR1 hx0
    have Hgp := Lib.hid hgp
    have Hfit := Lib.hid hfit
    have Hnot := Lib.hid hnot
    have Hx0 := Lib.hid hx0
    clear hx0 hok hgp hR0 hR1 hfit hnot
    go_enter Try.func26, Try.ntmps26
    go_wp2_with fail
    refine Hft.out.mono ?_
    rintro r w1 ⟨rfl, hb1⟩
    have HI1 := Lib.hid (HI.out.step hb1)
    clear c0 c1 c2 c3 hb1
    obtain ⟨c0, c1, c2, c3⟩ := HI1.out.bx.cells
    go_wp2_with fail
    clear c0 c1 c2 c3
    go_loopw [7] (fun v7 wr => ∃ n : Nat, n ≤ R ∧ v7 = .int .i64 n ∧ Hid (InBox w wr w.heap.size p s A c g e)) (fun v7 wr => R + 1 - (intOf v7).toNat)
    case atStart => exact ⟨0, Nat.zero_le _, rfl, HI1⟩
    case round =>
      obtain ⟨n, hn, rfl, HI2⟩ := hrel
      obtain ⟨c0, c1, c2, c3⟩ := HI2.out.bx.cells
      have hgr := groups_ref p s A c g e ((n + 1 : Nat) : Int) wr Hg.out HI2.out.rd (oneB (L s) g) rfl (szN_pos Hgp.out) (by omega) (by omega)
      obtain ⟨_, _, hl2⟩ := grp_sum (sz (oneB (L s) g) g) (sz_nonneg Hgp.out) ((n + 1 : Nat) : Int) (by omega)
      obtain ⟨gs, hgs⟩ : ∃ gs, grp (sz (oneB (L s) g) g) ((n + 1 : Nat) : Int) = gs := ⟨_, rfl⟩
      have hgl2 : gs.length ≤ n + 1 := by rw [hgs] at hl2; omega
      have hfi : fitsIn (sz (oneB (L s) g) g) s.size bt (n + 1) ↔ ((n : Int) + 1) + ((gs.length : Int) - 1) * s.size ≤ bt := by rw [fitsIn, hgs]; exact Iff.rfl
      rw [hgs] at hgr
      have hgr2 : Calls Try.prog 47 #[Loc p s A c g e, .int .i64 ((n : Int) + 1)] wr fun r w' => ∃ v, r = .returned v ∧ Out w' v gs ∧ Below wr.heap.size wr w' := hgr
      have Hgr := Lib.hid hgr2
      have Hfi := Lib.hid hfi
      have hmul : ((gs.length : Int) - 1) * s.size ≤ 20000 * 4 := by
        have h1 : ((gs.length : Int) - 1) ≤ 20000 := by omega
        have h2 : (s.size : Int) ≤ 4 := by omega
        rcases Int.lt_or_le ((gs.length : Int) - 1) 0 with h | h
        · have : ((gs.length : Int) - 1) * s.size ≤ 0 := Int.mul_nonpos_of_nonpos_of_nonneg (by omega) (by omega)
          omega
        · exact Int.mul_le_mul h1 h2 (by omega) (by omega)
      have hmul2 : -4 ≤ ((gs.length : Int) - 1) * s.size := by
        rcases Int.lt_or_le ((gs.length : Int) - 1) 0 with h | h
        · have : ((gs.length : Int) - 1) = -1 := by omega
          rw [this]; omega
        · have := Int.mul_nonneg h (show (0 : Int) ≤ s.size by omega)
          omega
      obtain ⟨mm, hmm⟩ : ∃ mm, ((gs.length : Int) - 1) * s.size = mm := ⟨_, rfl⟩
      rw [hmm] at hmul hmul2
      have hfi2 : fitsIn (sz (oneB (L s) g) g) s.size bt (n + 1) ↔ ((n : Int) + 1) + mm ≤ bt := by rw [Hfi.out, hmm]
      have Hfi2 := Lib.hid hfi2
      clear hgr hgr2 hfi hfi2 hgs hl2 Hfi
      by_cases hlt : n < R
      · have hd : ¬ (bt < ((n : Int) + 1) + mm) := by have := Hfi2.out.1 (Hfit.out n hlt); omega
        go_wp2_with fail
        clear c0 c1 c2 c3
        refine Hgr.out.mono ?_
        rintro r w2 ⟨v, rfl, ⟨A1, cc, rfl, _, hl1, -⟩, hb2⟩
        have HI3 := Lib.hid (HI2.out.step hb2)
        obtain ⟨c0, c1, c2, c3⟩ := HI3.out.bx.cells
        clear hb2
        go_wp2_with fail
        go_roundw
        case rel => exact ⟨n + 1, by omega, by go_num, HI3⟩
        case measure => simp [intOf]; omega
      · obtain rfl : n = R := by omega
        have hd : bt < ((n : Int) + 1) + mm := by
          rcases Int.lt_or_le bt (((n : Int) + 1) + mm) with h | h
          · exact h
          · exact absurd (Hfi2.out.2 h) Hnot.out
        go_wp2_with fail
        clear c0 c1 c2 c3
        refine Hgr.out.mono ?_
        rintro r w2 ⟨v, rfl, ⟨A1, cc, rfl, _, hl1, -⟩, hb2⟩
        have HI3 := Lib.hid (HI2.out.step hb2)
        obtain ⟨c0, c1, c2, c3⟩ := HI3.out.bx.cells
        clear hb2
        go_wp2_with fail
        go_ret2
        exact ⟨by rw [Hx0.out]; rfl, HI3.out.b⟩
  · have hx1 : (x == 0) = false := beq_eq_false_iff_ne.2 hx0
    have hx2 : (x != 0) = true := by simp [hx0]
    have hRR := hR0 hx0
    subst hRR
    clear hx0 hR0 hR1
    go_enter Try.func26, Try.ntmps26
    go_wp2_with fail
    refine Hft.out.mono ?_
    rintro r w1 ⟨rfl, hb1⟩
    have HI1 := Lib.hid (HI.out.step hb1)
    clear hb1
    go_wp2_with fail
    go_ret2
    exact ⟨rfl, HI1.out.b⟩
end Go.Proofs.Ytkdnlmnjhlogmaa
