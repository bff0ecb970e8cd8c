/- The law LocaleBack: the walk. -/
import Derived.Test.YtkdnlmnjhlogmaaZG
import Derived.Test.YtkdnlmnjhlogmaaZP
namespace Go.Proofs.Ytkdnlmnjhlogmaa
open Go.RowKit Go.Shelf
set_option linter.unusedSimpArgs false
set_option linter.unusedVariables false

theorem sep_dg {p s : List UInt8} {g : List Int} {e : Int} (h : okB p s g e = true) : s.all (fun c => !dg c) = true := by
  simp only [okB, Bool.and_eq_true, apartB, Bool.or_eq_true] at h
  obtain ⟨⟨⟨_, h2⟩, _⟩, _⟩ := h
  rcases h2 with h2 | h2
  · rw [List.isEmpty_iff] at h2; rw [h2]; rfl
  · have hm := h2.1.1
    simp only [markB, Bool.and_eq_true, Bool.not_eq_true', List.any_eq_false] at hm
    rw [List.all_eq_true]
    intro c hc
    have := hm.1 c hc
    simp only [badB, Bool.or_eq_true, not_or] at this
    have h3 := this.1.1.1
    rw [dg]
    cases h4 : digB c.toNat
    · rfl
    · rw [h4] at h3; exact absurd rfl h3
theorem only_at (a : ByteArray) (w : World) (hs : a.size ≤ maxLen) (d : ByteArray) (h : Hid ((L a).filter dg = L d)) : Calls Try.prog 17 #[.string a] w fun e w' => e = .returned (.string d) ∧ w = w' := by
  have := only_calls a w hs
  rw [h.out, S_L] at this
  exact this
theorem isDigit_at (c : Int) (w : World) (b : Bool) (h : Hid (digB c = b)) : Calls Try.prog 18 #[.int .u8 c] w fun e w' => e = .returned (.bool b) ∧ w = w' := by
  rw [← h.out]; exact isDigit_calls c w
theorem begins_lat (s t : ByteArray) (w : World) (hs : s.size ≤ maxLen) (ht : t.size ≤ maxLen) (b : Bool) (h : Hid (pre (L t) (L s) = b)) : Calls Try.prog 19 #[.string s, .string t] w fun e w' => e = .returned (.bool b) ∧ w = w' := by
  rw [← h.out]; exact begins_law s t w hs ht
theorem grpL_short (s : List UInt8) (hsd : s.all (fun c => !dg c) = true) (g : List Int) (hg : ∀ x ∈ g, (1 : Int) ≤ x ∧ x ≤ 127) (d : List UInt8) (hd : d.all dg = true) (hs : s.length ≤ 4) : (grpL s g d).length ≤ 5 * d.length := by
  obtain ⟨g1, g2, g3⟩ := grp_sum (sz (oneB s g) g) (sz_nonneg (s := s) hg) (d.length : Int) (by omega)
  have h := (joined_filter s hsd _ d hd g2 g1).2
  have e : (grpL s g d).length = d.length + ((grp (sz (oneB s g) g) (d.length : Int)).length - 1) * s.length := h
  have h2 : ((grp (sz (oneB s g) g) (d.length : Int)).length - 1) * s.length ≤ d.length * 4 := Nat.mul_le_mul (by omega) hs
  omega
theorem errB_small {b : Bool} {n m : Int} (h : errB b n = 0) (h0 : 0 ≤ m) (h1 : m ≤ 20000) : errB b m = 0 := by
  have := (errB_ok h).1
  unfold errB
  rw [this, if_pos rfl, if_neg (by omega), if_neg (by omega)]
theorem toList_empty {t : ByteArray} (h : t.size = 0) : t.toList.isEmpty = true := by
  rw [toList_L, show L t = [] from List.eq_nil_of_length_eq_zero (by rw [L_length]; exact h)]; rfl
theorem toList_full {t : ByteArray} (h : t.size ≠ 0) : t.toList.isEmpty = false := by
  rw [toList_L]; cases h2 : L t with
  | nil => exact absurd (by rw [← L_length, h2]; rfl) h
  | cons a l => rfl
theorem empty_of {t : ByteArray} (h : t.size = 0) : t = ⟨#[]⟩ := by
  rw [← S_L t, show L t = [] from List.eq_nil_of_length_eq_zero (by rw [L_length]; exact h)]; rfl

set_option maxRecDepth 10000 in
set_option maxHeartbeats 2000000 in
theorem back_calls (p s : ByteArray) (A : Option Addr) (c : Nat) (g : List Int) (e : Int) (d t : ByteArray) (w : World) (hp : p.size ≤ maxLen) (hs : s.size ≤ maxLen) (hg : g.length ≤ maxLen) (hd : d.size ≤ maxLen) (ht : t.size ≤ maxLen) (hR : Rd .i64 w A g) :
    Calls Try.prog 4 #[Loc p s A c g e, .string d, .string t] w fun r w' => r = .returned (.bool true) ∧ Below w.heap.size w w' := by
  have hI := InBox.new w p s A c g e hR
  have HI := Lib.hid hI
  obtain ⟨c0, c1, c2, c3⟩ := hI.bx.cells
  clear hI hR
  have main : (1000 < d.size) ∨ (d.size ≤ 1000 ∧ 100 < t.size) ∨ (d.size ≤ 1000 ∧ t.size ≤ 100) := by omega
  rcases main with m | ⟨m1, m2⟩ | ⟨m1, m2⟩
  · unfold maxLen at hd ht
    clear hp hs hg
    go_enter Try.func4, Try.ntmps4
    go_wp2_with fail
    refine (awake_calls _).mono ?_
    rintro r w1 ⟨rfl, hb1⟩
    have Hb1 := Lib.hid (HI.out.step hb1)
    clear hb1
    go_wp2_with fail
    go_ret
    exact ⟨rfl, Hb1.out.b⟩
  · unfold maxLen at hd ht
    clear hp hs hg
    go_enter Try.func4, Try.ntmps4
    go_wp2_with fail
    refine (awake_calls _).mono ?_
    rintro r w1 ⟨rfl, hb1⟩
    have Hb1 := Lib.hid (HI.out.step hb1)
    clear hb1
    go_wp2_with fail
    go_ret
    exact ⟨rfl, Hb1.out.b⟩
  · obtain ⟨x1, hx1⟩ : ∃ x1, x1 = if errB (okB (L p) (L s) g e) d.size = 0 then (if (L d).all dg then 0 else 6) else errB (okB (L p) (L s) g e) d.size := ⟨_, rfl⟩
    have h11 := fun W hR => group_prog p s A c g e d W hp hs hg hd hR x1 hx1
    by_cases hx0 : x1 = 0
    · subst hx0
      have he0 : errB (okB (L p) (L s) g e) d.size = 0 := by
        by_cases h : errB (okB (L p) (L s) g e) d.size = 0
        · exact h
        · rw [if_neg h] at hx1; exact absurd hx1.symm h
      have hall : (L d).all dg = true := by
        rw [if_pos he0] at hx1
        cases h : (L d).all dg
        · rw [h] at hx1; cases hx1
        · rfl
      have hok := (errB_ok he0).1
      have hsd := sep_dg hok
      obtain ⟨_, hsl, hgl, hgp⟩ := ok_facts hok
      rw [if_pos rfl] at h11
      obtain ⟨a, ha⟩ : ∃ a, S (grpL (L s) g (L d)) = a := ⟨_, rfl⟩
      rw [ha] at h11
      have H11 := Lib.hid h11
      clear h11
      by_cases hd0 : d.size = 0
      · have hd1 := toList_empty hd0
        obtain rfl : a = ⟨#[]⟩ := by rw [← ha, empty_of hd0]; rfl
        unfold maxLen at hd ht
        clear hx1 hp hs hg he0 hall hok hsd hsl hgl hgp ha hd0
        go_enter Try.func4, Try.ntmps4
        go_wp2_with fail
        refine (awake_calls _).mono ?_
        rintro r w1 ⟨rfl, hb1⟩
        have I1 := Lib.hid (HI.out.step hb1)
        clear hb1 c0 c1 c2 c3
        obtain ⟨c0, c1, c2, c3⟩ := I1.out.bx.cells
        go_wp2_with fail
        refine (H11.out _ I1.out.rd).mono ?_
        rintro r w2 ⟨rfl, hb2⟩
        have I2 := Lib.hid (I1.out.step hb2)
        clear hb2 c0 c1 c2 c3
        go_wp2_with fail
        go_ret
        exact ⟨rfl, I2.out.b⟩
      · have hd1 := toList_full hd0
        have hla : L a = grpL (L s) g (L d) := by rw [← ha, L_S]
        have hlen : a.size ≤ 5000 := by
          have := grpL_short (L s) hsd g hgp (L d) hall hsl
          rw [← hla, L_length, L_length] at this; omega
        have Hfil : Hid ((L a).filter dg = L d) := Lib.hid (by rw [hla]; exact grpL_filter (L s) hsd g hgp (L d) hall)
        have hma : a.size ≤ maxLen := by unfold maxLen; omega
        have HU : dgAt (L t) 0 = false → ((L s).isEmpty = true ∨ pre (L s) (L t) = false) → Hid (∀ W, Rd .i64 W A g → Calls Try.prog 13 #[Loc p s A c g e, .string (a ++ t)] W fun r w' => r = .returned (.tuple #[.string d, .int .i64 a.size, .int .i64 0]) ∧ Below W.heap.size W w') := fun k1 k2 => Lib.hid (fun W hR => by
          obtain ⟨b1, b2⟩ := back_eq g hgp (L s) (L d) (L t) hsd hall (fun h => hd0 (by rw [← L_length, h]; rfl)) k1 k2
          have hsz : (a ++ t).size = a.size + t.size := by rw [← L_length, L_append, List.length_append, L_length, L_length]
          have hll : L (a ++ t) = grpL (L s) g (L d) ++ L t := by rw [L_append, hla]
          exact ungroup_prog p s A c g e (a ++ t) W hp hs hg (by rw [hsz]; unfold maxLen; omega) hR 0 (L d, a.size)
            (by rw [if_pos (errB_small he0 (by omega) (by rw [hsz]; omega)), hll, if_neg b2])
            (by rw [if_pos rfl, hll, b1, ← hla, L_length]))
        have H17 : Hid (∀ w, Calls Try.prog 17 #[.string a] w fun e w' => e = .returned (.string d) ∧ w = w') := Lib.hid (fun w => only_at a w hma d Hfil)
        have H19 : ∀ b, pre (L s) (L t) = b → Hid (∀ w, Calls Try.prog 19 #[.string t, .string s] w fun e w' => e = .returned (.bool b) ∧ w = w') := fun b h => Lib.hid (fun w => begins_lat t s w ht hs b (Lib.hid h))
        clear hx1 hp hs hg he0 hall hok hsd hgp ha hd0 hla Hfil
        unfold maxLen at hd ht hma
        by_cases ht0 : t.size = 0
        · have ht1 := toList_empty ht0
          have HU := HU (by rw [dgAt, List.getElem?_eq_none (by rw [L_length]; omega)]) (by
            cases h : (L s).isEmpty
            · right
              have : L t = [] := List.eq_nil_of_length_eq_zero (by rw [L_length]; exact ht0)
              rw [this, pre]; cases h2 : L s with
              | nil => rw [h2] at h; cases h
              | cons x l => rfl
            · exact .inl rfl)
          obtain rfl := empty_of ht0
          clear ht0 H19
          go_enter Try.func4, Try.ntmps4
          go_wp2_with fail
          refine (awake_calls _).mono ?_
          rintro r w1 ⟨rfl, hb1⟩
          have I1 := Lib.hid (HI.out.step hb1)
          clear hb1 c0 c1 c2 c3
          obtain ⟨c0, c1, c2, c3⟩ := I1.out.bx.cells
          go_wp2_with fail
          refine (H11.out _ I1.out.rd).mono ?_
          rintro r w2 ⟨rfl, hb2⟩
          have I2 := Lib.hid (I1.out.step hb2)
          clear hb2 c0 c1 c2 c3
          obtain ⟨c0, c1, c2, c3⟩ := I2.out.bx.cells
          go_wp2_with fail
          refine (H17.out _).mono ?_
          rintro r w3 ⟨rfl, rfl⟩
          go_wp2_with fail
          refine (HU.out _ I2.out.rd).mono ?_
          rintro r w3 ⟨rfl, hb3⟩
          have I3 := Lib.hid (I2.out.step hb3)
          clear hb3 c0 c1 c2 c3
          go_wp2_with fail
          go_ret
          exact ⟨rfl, I3.out.b⟩
        · have ht1 := toList_full ht0
          have hts : 0 < t.size := by omega
          have hdt : dgAt (L t) 0 = digB t[0].toNat := dgAt_get t 0 hts
          obtain ⟨b0, hb0⟩ : ∃ b0, digB t[0].toNat = b0 := ⟨_, rfl⟩
          rw [hb0] at hdt
          have Hb0 := Lib.hid hb0
          clear hb0 ht0
          cases b0
          · have HU := HU hdt
            clear hdt
            obtain ⟨em, hem⟩ : ∃ em, (L s).isEmpty = em := ⟨_, rfl⟩
            have hs1 : s.toList.isEmpty = em := by rw [toList_L]; exact hem
            obtain ⟨pr, hpr⟩ : ∃ pr, pre (L s) (L t) = pr := ⟨_, rfl⟩
            have H19 := H19 pr hpr
            rw [hem, hpr] at HU
            clear hem hpr
            cases em
            · cases pr
              · have HU2 := HU (by decide)
                clear HU
                go_enter Try.func4, Try.ntmps4
                go_wp2_with fail
                refine (awake_calls _).mono ?_
                rintro r w1 ⟨rfl, hb1⟩
                have I1 := Lib.hid (HI.out.step hb1)
                clear hb1 c0 c1 c2 c3
                obtain ⟨c0, c1, c2, c3⟩ := I1.out.bx.cells
                go_wp2_with fail
                refine (H11.out _ I1.out.rd).mono ?_
                rintro r w2 ⟨rfl, hb2⟩
                have I2 := Lib.hid (I1.out.step hb2)
                clear hb2 c0 c1 c2 c3
                obtain ⟨c0, c1, c2, c3⟩ := I2.out.bx.cells
                go_wp2_with fail
                refine (H17.out _).mono ?_
                rintro r w3 ⟨rfl, rfl⟩
                go_wp2_with fail
                refine (isDigit_at _ _ _ Hb0).mono ?_
                rintro r w3 ⟨rfl, rfl⟩
                go_wp2_with fail
                refine (H19.out _).mono ?_
                rintro r w3 ⟨rfl, rfl⟩
                go_wp2_with fail
                refine (HU2.out _ I2.out.rd).mono ?_
                rintro r w3 ⟨rfl, hb3⟩
                have I3 := Lib.hid (I2.out.step hb3)
                clear hb3 c0 c1 c2 c3
                go_wp2_with fail
                go_ret
                exact ⟨rfl, I3.out.b⟩
              · clear HU
                go_enter Try.func4, Try.ntmps4
                go_wp2_with fail
                refine (awake_calls _).mono ?_
                rintro r w1 ⟨rfl, hb1⟩
                have I1 := Lib.hid (HI.out.step hb1)
                clear hb1 c0 c1 c2 c3
                obtain ⟨c0, c1, c2, c3⟩ := I1.out.bx.cells
                go_wp2_with fail
                refine (H11.out _ I1.out.rd).mono ?_
                rintro r w2 ⟨rfl, hb2⟩
                have I2 := Lib.hid (I1.out.step hb2)
                clear hb2 c0 c1 c2 c3
                obtain ⟨c0, c1, c2, c3⟩ := I2.out.bx.cells
                go_wp2_with fail
                refine (H17.out _).mono ?_
                rintro r w3 ⟨rfl, rfl⟩
                go_wp2_with fail
                refine (isDigit_at _ _ _ Hb0).mono ?_
                rintro r w3 ⟨rfl, rfl⟩
                go_wp2_with fail
                refine (H19.out _).mono ?_
                rintro r w3 ⟨rfl, rfl⟩
                go_wp2_with fail
                go_ret
                exact ⟨rfl, I2.out.b⟩
            · have HU2 := HU (by simp)
              clear HU
              clear H19
              go_enter Try.func4, Try.ntmps4
              go_wp2_with fail
              refine (awake_calls _).mono ?_
              rintro r w1 ⟨rfl, hb1⟩
              have I1 := Lib.hid (HI.out.step hb1)
              clear hb1 c0 c1 c2 c3
              obtain ⟨c0, c1, c2, c3⟩ := I1.out.bx.cells
              go_wp2_with fail
              refine (H11.out _ I1.out.rd).mono ?_
              rintro r w2 ⟨rfl, hb2⟩
              have I2 := Lib.hid (I1.out.step hb2)
              clear hb2 c0 c1 c2 c3
              obtain ⟨c0, c1, c2, c3⟩ := I2.out.bx.cells
              go_wp2_with fail
              refine (H17.out _).mono ?_
              rintro r w3 ⟨rfl, rfl⟩
              go_wp2_with fail
              refine (isDigit_at _ _ _ Hb0).mono ?_
              rintro r w3 ⟨rfl, rfl⟩
              go_wp2_with fail
              refine (HU2.out _ I2.out.rd).mono ?_
              rintro r w3 ⟨rfl, hb3⟩
              have I3 := Lib.hid (I2.out.step hb3)
              clear hb3 c0 c1 c2 c3
              go_wp2_with fail
              go_ret
              exact ⟨rfl, I3.out.b⟩
          · clear HU H19 hdt
            go_enter Try.func4, Try.ntmps4
            go_wp2_with fail
            refine (awake_calls _).mono ?_
            rintro r w1 ⟨rfl, hb1⟩
            have I1 := Lib.hid (HI.out.step hb1)
            clear hb1 c0 c1 c2 c3
            obtain ⟨c0, c1, c2, c3⟩ := I1.out.bx.cells
            go_wp2_with fail
            refine (H11.out _ I1.out.rd).mono ?_
            rintro r w2 ⟨rfl, hb2⟩
            have I2 := Lib.hid (I1.out.step hb2)
            clear hb2 c0 c1 c2 c3
            go_wp2_with fail
            refine (H17.out _).mono ?_
            rintro r w3 ⟨rfl, rfl⟩
            go_wp2_with fail
            refine (isDigit_at _ _ _ Hb0).mono ?_
            rintro r w3 ⟨rfl, rfl⟩
            go_wp2_with fail
            go_ret
            exact ⟨rfl, I2.out.b⟩
    · have hx2 : (x1 != 0) = true := by simp [hx0]
      rw [if_neg hx0] at h11
      have H11 := Lib.hid h11
      unfold maxLen at hd ht
      clear h11 hx1 hp hs hg hx0
      go_enter Try.func4, Try.ntmps4
      go_wp2_with fail
      refine (awake_calls _).mono ?_
      rintro r w1 ⟨rfl, hb1⟩
      have I1 := Lib.hid (HI.out.step hb1)
      clear hb1 c0 c1 c2 c3
      obtain ⟨c0, c1, c2, c3⟩ := I1.out.bx.cells
      go_wp2_with fail
      refine (H11.out _ I1.out.rd).mono ?_
      rintro r w2 ⟨rfl, hb2⟩
      have I2 := Lib.hid (I1.out.step hb2)
      clear hb2 c0 c1 c2 c3
      go_wp2_with fail
      go_ret
      exact ⟨rfl, I2.out.b⟩
end Go.Proofs.Ytkdnlmnjhlogmaa
