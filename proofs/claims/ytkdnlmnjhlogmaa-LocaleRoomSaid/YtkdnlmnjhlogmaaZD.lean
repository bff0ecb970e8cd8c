/- Localize, by the reference. -/
import Derived.Test.YtkdnlmnjhlogmaaZC
namespace Go.Proofs.Ytkdnlmnjhlogmaa
open Go.RowKit Go.Shelf
set_option linter.unusedSimpArgs false
set_option linter.unusedVariables false

set_option maxRecDepth 10000 in
set_option maxHeartbeats 1000000 in
theorem localize_ref (p s : ByteArray) (A : Option Addr) (c : Nat) (g : List Int) (e : Int) (t : ByteArray) (w : World) (hp : p.size ≤ maxLen) (hs : s.size ≤ maxLen) (hg : g.length ≤ maxLen) (ht : t.size ≤ maxLen) (hR : Rd .i64 w A g) (x : Int) (R : List UInt8)
    (hx : x = if errB (okB (L p) (L s) g e) t.size = 0 then (if (locL (L p) (L s) g (L t)).isSome then 0 else 6) else errB (okB (L p) (L s) g e) t.size)
    (hRR : R = if x = 0 then (locL (L p) (L s) g (L t)).getD [] else []) :
    Calls Try.prog 16 #[Loc p s A c g e, .string t] w fun r w' => r = .returned (.tuple #[.string (S R), .int .i64 x]) ∧ Below w.heap.size w w' := by
  have hI := InBox.new w p s A c g e hR
  have hft := fits_calls p s A c g e t.size _ hp hs hg hI.rd
  obtain ⟨y, hy⟩ : ∃ y, errB (okB (L p) (L s) g e) t.size = y := ⟨_, rfl⟩
  rw [hy] at hft hx
  obtain ⟨c0, c1, c2, c3⟩ := hI.bx.cells
  have Hft := Lib.hid hft
  have Hy := Lib.hid hy
  have HI := Lib.hid hI
  have Hg := Lib.hid hg
  have Hrr := Lib.hid hRR
  unfold maxLen at ht
  clear hft hy hI hR hp hs hg hRR
  by_cases hy0 : y = 0
  · have hy1 : (y == 0) = true := beq_iff_eq.2 hy0
    have hy2 : (y != 0) = false := by simp [hy0]
    rw [if_pos hy0] at hx
    obtain ⟨hok, hn0, hn1⟩ := errB_ok (by rw [Hy.out]; exact hy0)
    obtain ⟨⟨_, hpl⟩, hsl, hgl, hgp⟩ := ok_facts hok
    rw [L_length] at hpl hsl
    have Hgp := Lib.hid hgp
    have Hx := Lib.hid hx
    clear hy0 hok hgp hx
    go_enter Try.func16, Try.ntmps16
    go_wp2_with fail
    refine Hft.out.mono ?_
    rintro r w1 ⟨rfl, hb1⟩
    have HI1 := Lib.hid (HI.out.step hb1)
    clear c0 c1 c2 c3 hb1
    obtain ⟨c0, c1, c2, c3⟩ := HI1.out.bx.cells
    go_wp2_with fail
    go_loop [7] (fun i => ∃ k : Nat, k ≤ t.size ∧ i = .int .i64 k ∧ Hid (∀ j y, j < k → (L t)[j]? = some y → dg y = true)) (fun i => t.size - (intOf i).toNat)
    case atStart => exact ⟨0, Nat.zero_le _, rfl, Lib.hid (fun j x hj => by omega)⟩
    case round =>
      obtain ⟨k, hk, rfl, Hd⟩ := hrel
      by_cases hlt : k < t.size
      · obtain ⟨b, hb⟩ : ∃ b, digB t[k].toNat = b := ⟨_, rfl⟩
        have Hb := Lib.hid hb
        clear hb
        cases b
        · have hlead : lead (L t) = k := lead_at (L t) k Hd.out (by rw [L_length]; exact hk) (fun x hx => by rw [L_get t k hlt] at hx; injection hx with hx; subst hx; exact Hb.out)
          have hne : ¬ (k = t.size) := by omega
          have hloc : locL (L p) (L s) g (L t) = if t[k] = 46 ∧ ((L t).drop (k + 1)).all dg = true then some (grpL (L s) g ((L t).take k) ++ L p ++ (L t).drop (k + 1)) else none := by
            rw [locL, hlead, L_length, if_neg hne, L_get t k hlt]; simp
          obtain ⟨b46, h46⟩ : ∃ b46, decide (t[k] = 46) = b46 := ⟨_, rfl⟩
          have h46b : ((t[k].toNat : Int) == 46) = b46 := by
            rw [← h46, Bool.eq_iff_iff, beq_iff_eq, decide_eq_true_eq]
            constructor
            · intro h; exact UInt8.toNat_inj.1 (by have : (46 : UInt8).toNat = 46 := rfl; omega)
            · intro h; rw [h]; rfl
          have h46n : ((t[k].toNat : Int) != 46) = !b46 := by rw [bne, h46b]
          obtain ⟨b2, hb2⟩ : ∃ b2, ((L t).drop (k + 1)).all dg = b2 := ⟨_, rfl⟩
          have hloc2 : locL (L p) (L s) g (L t) = if b46 && b2 then some (grpL (L s) g ((L t).take k) ++ L p ++ (L t).drop (k + 1)) else none := by
            rw [hloc, hb2, ← h46]
            by_cases h : t[k] = 46 <;> cases b2 <;> simp [h]
          have Hloc := Lib.hid hloc2
          have hke : ((k : Int) == (t.size : Int)) = false := by rw [beq_eq_false_iff_ne]; omega
          have v1 : (0 : Int) ≤ (k : Int) + 1 := by omega
          have v2 : ((k : Int) + 1).toNat = k + 1 := by omega
          have v3 : (k : Int) + 1 ≤ t.size := by omega
          have hal := fun W => (allDigits_calls (t.extract (k + 1) t.size) W (by rw [ByteArray.size_extract]; unfold maxLen; omega))
          have hLx : L (t.extract (k + 1) t.size) = (L t).drop (k + 1) := by rw [L_extract, ← L_length t, List.take_length]
          rw [hLx, hb2] at hal
          have Hal := Lib.hid hal
          clear hlead hne hloc h46 hb2 hloc2 hal hLx
          cases b46
          · have hxx : x = 6 := by rw [Hx.out, Hloc.out]; rfl
            have hR0 : R = [] := by rw [Hrr.out, hxx]; rfl
            subst hR0 hxx
            clear Hx Hrr
            go_wp2_with fail
            refine (IsDigit_calls _ _).mono ?_
            rintro r w4 ⟨rfl, rfl⟩
            rw [Hb.out]
            go_wp2_with fail
            go_ret2
            exact ⟨rfl, HI1.out.b⟩
          · cases b2
            · have hxx : x = 6 := by rw [Hx.out, Hloc.out]; rfl
              have hR0 : R = [] := by rw [Hrr.out, hxx]; rfl
              subst hR0 hxx
              clear Hx Hrr
              go_wp2_with fail
              refine (IsDigit_calls _ _).mono ?_
              rintro r w4 ⟨rfl, rfl⟩
              rw [Hb.out]
              go_wp2_with fail
              refine (Hal.out _).mono ?_
              rintro r w4 ⟨rfl, rfl⟩
              go_wp2_with fail
              go_ret2
              exact ⟨rfl, HI1.out.b⟩
            · have hxx : x = 0 := by rw [Hx.out, Hloc.out]; rfl
              have hR0 : R = grpL (L s) g ((L t).take k) ++ L p ++ (L t).drop (k + 1) := by rw [Hrr.out, hxx, Hloc.out]; rfl
              subst hxx
              have hgl2 := grpL_len (L s) g ((L t).take k) Hgp.out (by rw [List.length_take, L_length]; omega) (by rw [L_length]; exact hsl)
              have hgr := fun W hR => grouped_ref p s A c g e (t.extract 0 k) W Hg.out hR (oneB (L s) g) rfl (sz_nonneg Hgp.out) (szN_pos Hgp.out) (by rw [ByteArray.size_extract]; omega) hsl
              have hLe : L (t.extract 0 k) = (L t).take k := by rw [L_extract, List.drop_zero]
              obtain ⟨G, hG⟩ : ∃ G, grpL (L s) g ((L t).take k) = G := ⟨_, rfl⟩
              rw [hLe, show groupL (oneB (L s) g) g (L s) ((L t).take k) = grpL (L s) g ((L t).take k) from rfl, hG] at hgr
              rw [hG] at hgl2 hR0
              have Hgr := Lib.hid hgr
              have HR0 := Lib.hid hR0
              have hfin : S R = S G ++ p ++ t.extract (k + 1) t.size := by rw [hR0, ← S_L (S G ++ p ++ t.extract (k + 1) t.size), L_append, L_append, L_S, L_extract, ← L_length t, List.take_length]
              have Hfin := Lib.hid hfin
              clear hfin
              have hts : (t.extract (k + 1) t.size).size ≤ 20000 := by rw [ByteArray.size_extract]; omega
              have hcat : ¬ (9223372036854775807 < (S G).size + p.size) := by rw [S_size]; omega
              have hcat2 : ¬ (9223372036854775807 < (S G ++ p).size + (t.extract (k + 1) t.size).size) := by rw [ByteArray.size_append, S_size]; omega
              have hcat3 : ¬ (9223372036854775807 < (S G).size + p.size + (t.extract (k + 1) t.size).size) := by rw [S_size]; omega
              have hcat4 : (S G).size + p.size + (t.extract (k + 1) t.size).size ≤ 9223372036854775807 := by omega
              have hcat5 : (S G ++ p).size + (t.extract (k + 1) t.size).size ≤ 9223372036854775807 := by omega
              have hcat6 : (S G).size + p.size + (t.size - (k + 1)) ≤ 9223372036854775807 := by rw [S_size]; omega
              have hcat7 : ¬ (9223372036854775807 < (S G).size + p.size + (t.size - (k + 1))) := by omega
              have hcat8 : ¬ (9223372036854775807 < (S G ++ p).size + (t.size - (k + 1))) := by rw [ByteArray.size_append]; omega
              clear hgr hR0 hgl2 hG hLe hts Hx Hrr
              go_wp2_with fail
              refine (IsDigit_calls _ _).mono ?_
              rintro r w4 ⟨rfl, rfl⟩
              rw [Hb.out]
              go_wp2_with fail
              refine (Hal.out _).mono ?_
              rintro r w4 ⟨rfl, rfl⟩
              go_wp2_with fail
              have v4 : IntKind.i64.wrap ((k : Int) + 1) = (k : Int) + 1 := IntWalk.i64_in _ (by omega)
              refine wp_calm ?_
              go_region_with (refine (Hgr.out w1.drew (show Rd .i64 w1.drew A g from HI1.out.rd)).mono ?_; rintro r w6 ⟨rfl, hb6⟩; have hb6' : Below w1.heap.size w1 w6 := ⟨hb6.os, hb6.tape, hb6.output, hb6.size, hb6.block⟩; obtain ⟨d0, d1, d2, d3⟩ := (HI1.out.step hb6').bx.cells)
              all_goals
                dsimp only
                have Hb6 := Lib.hid hb6'
                clear hb6 hb6'
                go_simp
                go_wp2_with fail
                go_ret2
                refine ⟨?_, HI1.out.b.trans (Hb6.out.mono HI1.out.b.size)⟩
                show Ending.returned (.tuple #[.string (S G ++ p ++ t.extract (k + 1) t.size), .int .i64 0]) = _
                rw [Hfin.out]
        · go_wp2_with fail
          refine (IsDigit_calls _ _).mono ?_
          rintro r w4 ⟨rfl, rfl⟩
          rw [Hb.out]
          go_wp2_with fail
          go_round
          case rel =>
            refine ⟨k + 1, by omega, by go_num, Lib.hid (fun j y hj hy => ?_)⟩
            by_cases e : j = k
            · subst e; rw [L_get t j hlt] at hy; injection hy with hy; subst hy; exact Hb.out
            · exact Hd.out j y (by omega) hy
          case measure => simp [intOf]; omega
      · obtain rfl : k = t.size := by omega
        have hlead : lead (L t) = (L t).length := by
          rw [L_length]; exact lead_at (L t) t.size Hd.out (by rw [L_length]; exact Nat.le_refl _) (fun x hx => by have := (List.getElem?_eq_some_iff.1 hx).1; rw [L_length] at this; omega)
        have hloc : locL (L p) (L s) g (L t) = some (grpL (L s) g (L t)) := by rw [locL, if_pos hlead]
        have hxx : x = 0 := by rw [Hx.out, hloc]; rfl
        have hR0 : R = grpL (L s) g (L t) := by rw [Hrr.out, hxx, hloc]; rfl
        subst hxx
        have hgr := grouped_ref p s A c g e t w1 Hg.out HI1.out.rd (oneB (L s) g) rfl (sz_nonneg Hgp.out) (szN_pos Hgp.out) (by omega) hsl
        rw [show groupL (oneB (L s) g) g (L s) (L t) = grpL (L s) g (L t) from rfl, ← hR0] at hgr
        have Hgr := Lib.hid hgr
        clear hgr hlead hloc hR0 Hx Hrr
        go_wp2_with fail
        refine Hgr.out.mono ?_
        rintro r w2 ⟨rfl, hb2⟩
        have Hb2 := Lib.hid hb2
        clear hb2
        go_wp2_with fail
        go_ret2
        exact ⟨rfl, HI1.out.b.trans (Hb2.out.mono HI1.out.b.size)⟩
  · have hy1 : (y == 0) = false := beq_eq_false_iff_ne.2 hy0
    have hy2 : (y != 0) = true := by simp [hy0]
    rw [if_neg hy0] at hx
    subst hx
    have hR0 : R = [] := by rw [Hrr.out, if_neg hy0]
    subst hR0
    clear hy0
    go_enter Try.func16, Try.ntmps16
    go_wp2_with fail
    refine Hft.out.mono ?_
    rintro r w1 ⟨rfl, hb1⟩
    have HI1 := Lib.hid (HI.out.step hb1)
    clear hb1
    go_wp2_with fail
    go_ret2
    exact ⟨rfl, HI1.out.b⟩
end Go.Proofs.Ytkdnlmnjhlogmaa
