/- Digits grouped, by the reference. -/
import Derived.Test.YtkdnlmnjhlogmaaP
namespace Go.Proofs.Ytkdnlmnjhlogmaa
open Go.RowKit Go.Shelf
set_option linter.unusedSimpArgs false
set_option linter.unusedVariables false

set_option maxHeartbeats 4000000 in
theorem grouped_ref (p s : ByteArray) (A : Option Addr) (c : Nat) (g : List Int) (e : Int) (d : ByteArray) (w : World) (hg : g.length ≤ maxLen) (hR : Rd .i64 w A g) (one : Bool) (hone : one = ((L s).isEmpty || g.isEmpty))
    (hf : ∀ k, 0 ≤ sz one g k) (hpos1 : g ≠ [] → ∀ k, 1 ≤ szN g k) (hd : d.size ≤ 30000) (hs : s.size ≤ 4) :
    Calls Try.prog 38 #[Loc p s A c g e, .string d] w fun r w' => r = .returned (.string (S (groupL one g (L s) (L d)))) ∧ Below w.heap.size w w' := by
  obtain ⟨gs, hgs⟩ : ∃ gs, grp (sz one g) (d.size : Int) = gs := ⟨_, rfl⟩
  rw [groupL, L_length, hgs]
  obtain ⟨hsum, hpos, hglen⟩ := grp_sum (sz one g) hf (d.size : Int) (by omega)
  rw [hgs] at hsum hpos hglen
  have hdl : (L d).length = d.size := L_length d
  have hfit := gstate_fits (L s) (L d) gs hpos (by rw [hdl]; exact hsum)
  have hlens := gstate_len (L s) (L d) gs
  have hfst := gstate_first (L s) (L d) gs
  have hall := gstate_all (L s) (L d) gs
  have hgl : gs.length ≤ 30000 := by omega
  have hI := InBox.new w p s A c g e hR
  have hgr := groups_ref p s A c g e (d.size : Int) _ hg hI.rd one hone hpos1 (by omega) (by omega)
  rw [hgs] at hgr
  have Hgr := Lib.hid hgr
  have Hfit := Lib.hid hfit
  have Hlens := Lib.hid hlens
  have Hfst := Lib.hid hfst
  have Hall := Lib.hid hall
  have Hdl := Lib.hid hdl
  have HI := Lib.hid hI
  obtain ⟨c0, c1, c2, c3⟩ := hI.bx.cells
  clear hfit hlens hfst hall hgr hI hsum hpos hglen hgs hf hone hR hg hdl hpos1
  go_enter Try.func38, Try.ntmps38
  go_wp2_with fail
  refine Hgr.out.mono ?_
  rintro r w1 ⟨v, rfl, ⟨A1, cc, rfl, hrd, hl1, -⟩, hb1⟩
  have Hrd := Lib.hid hrd
  have HI1 := Lib.hid (HI.out.step hb1)
  clear c0 c1 c2 c3 hrd hb1
  obtain ⟨c0, c1, c2, c3⟩ := HI1.out.bx.cells
  go_wp2_with fail
  go_loop [5, 6, 8] (fun vo va vi => ∃ (k a : Nat) (b : ByteArray), k ≤ gs.length ∧ vi = .int .i64 k ∧ va = .int .i64 a ∧ vo = .string b ∧ a ≤ d.size ∧
      Hid (L b = (gstate (L s) (L d) gs k).1) ∧ Hid ((gstate (L s) (L d) gs k).2.1 = (L d).drop a) ∧ b.size ≤ 200000) (fun _ _ vi => gs.length - (intOf vi).toNat)
  case atStart => exact ⟨0, 0, ⟨#[]⟩, Nat.zero_le _, rfl, rfl, rfl, Nat.zero_le _, rfl, rfl, by show (0 : Nat) ≤ _; omega⟩
  case round =>
    obtain ⟨k, a, b, hk, rfl, rfl, rfl, ha, Hb, Hr, hbs⟩ := hrel
    by_cases hlt : k < gs.length
    · obtain ⟨x, hx⟩ : ∃ x, gs[k]? = some x := ⟨gs[k], List.getElem?_eq_getElem hlt⟩
      obtain ⟨hx1, hx2⟩ := Hfit.out k x hx
      rw [Hr.out, List.length_drop, L_length] at hx2
      obtain ⟨ba, oa, rfl, hc⟩ := Hrd.out (fun e => by rw [e] at hlt; simp at hlt)
      have hck := hc k x hx
      have Hx := Lib.hid hx
      clear hc hx
      have hx3 : (a : Int) + x ≤ d.size := by omega
      have hx5 : (a : Int) ≤ a + x := by omega
      have hx6 : (0 : Int) ≤ a + x := by omega
      have hn1 : (gstate (L s) (L d) gs (k + 1)).1 = (gstate (L s) (L d) gs k).1 ++ ((if decide (k = 0) then [] else L s) ++ L (d.extract a (a + x.toNat))) := by
        rw [gstate_succ _ _ _ _ x Hx.out, gstep, Hfst.out k (by omega), Hr.out, L_extract, List.drop_take]
        simp
      have hn2 : (gstate (L s) (L d) gs (k + 1)).2.1 = (L d).drop (a + x.toNat) := by
        rw [gstate_succ _ _ _ _ x Hx.out, gstep, Hr.out, List.drop_drop]
      have hln := Hlens.out (k + 1) (by omega)
      have hmul : (k + 1) * (L s).length ≤ 30000 * 4 := Nat.mul_le_mul (by omega) (by rw [L_length]; exact hs)
      have hbk : b.size ≤ 150000 := by
        have h1 := Hlens.out k (by omega)
        have h2 : k * (L s).length ≤ 30000 * 4 := Nat.mul_le_mul (by omega) (by rw [L_length]; exact hs)
        rw [← Hb.out, L_length, L_length] at h1
        omega
      have Hn1 := Lib.hid hn1
      have Hn2 := Lib.hid hn2
      have hln2 : (gstate (L s) (L d) gs (k + 1)).1.length ≤ 200000 := by rw [L_length] at hln; omega
      have Hln := Lib.hid hln2
      clear hn1 hn2 hln hln2 hmul
      have ht : ((a : Int) + x).toNat = a + x.toNat := by omega
      have Ht := Lib.hid ht
      clear ht
      by_cases hk0 : 0 < k
      · have hk1 : (0 : Int) < k := by omega
        have hcat : ¬ (9223372036854775807 < b.size + s.size) := by omega
        have hcat2 : ¬ (9223372036854775807 < (b ++ s).size + (d.extract a ((a : Int) + x).toNat).size) := by rw [ByteArray.size_append, ByteArray.size_extract]; omega
        go_wp2_with fail
        go_round
        case rel =>
          refine ⟨k + 1, a + x.toNat, (b ++ s) ++ d.extract a (a + x.toNat), by omega, by go_num, ?_, ?_, by omega, ?_, Hn2.out, ?_⟩
          · rw [← Ht.out, Int.toNat_of_nonneg hx6]
          · rw [← Ht.out]
          · show L _ = _
            rw [Hn1.out, L_append, L_append, Hb.out, decide_eq_false (by omega)]; simp
          · have := Hln.out
            rw [Hn1.out, decide_eq_false (by omega)] at this
            rw [← L_length, L_append, L_append, Hb.out]
            simpa using this
        case measure => simp [intOf]; omega
      · have hk1 : ¬ (0 : Int) < k := by omega
        have hcat2 : ¬ (9223372036854775807 < b.size + (d.extract a ((a : Int) + x).toNat).size) := by rw [ByteArray.size_extract]; omega
        go_wp2_with fail
        go_round
        case rel =>
          refine ⟨k + 1, a + x.toNat, b ++ d.extract a (a + x.toNat), by omega, by go_num, ?_, ?_, by omega, ?_, Hn2.out, ?_⟩
          · rw [← Ht.out, Int.toNat_of_nonneg hx6]
          · rw [← Ht.out]
          · show L _ = _
            rw [Hn1.out, L_append, Hb.out, decide_eq_true (by omega)]; simp
          · have := Hln.out
            rw [Hn1.out, decide_eq_true (by omega)] at this
            rw [← L_length, L_append, Hb.out]
            simpa using this
        case measure => simp [intOf]; omega
    · obtain rfl : k = gs.length := by omega
      go_wp2_with fail
      go_ret
      refine ⟨ret_str ?_, HI1.out.b⟩
      rw [Hb.out, Hall.out]
end Go.Proofs.Ytkdnlmnjhlogmaa
