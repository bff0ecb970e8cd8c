/- The law LocaleLongest: the walk. -/
import Derived.Test.YtkdnlmnjhlogmaaZQ
import Derived.Test.YtkdnlmnjhlogmaaZR
namespace Go.Proofs.Ytkdnlmnjhlogmaa
open Go.RowKit Go.Shelf
set_option linter.unusedSimpArgs false
set_option linter.unusedVariables false

theorem filter_more (t : List UInt8) (n k : Nat) (h : n ≤ k) (h0 : (t.take n).filter dg ≠ []) : (t.take k).filter dg ≠ [] := by
  obtain ⟨j, rfl⟩ : ∃ j, k = n + j := ⟨k - n, by omega⟩
  rw [take_add, List.filter_append]
  intro h2; exact h0 (List.append_eq_nil_iff.1 h2).1

set_option maxRecDepth 10000 in
set_option maxHeartbeats 2000000 in
theorem longest_calls (p s : ByteArray) (A : Option Addr) (c : Nat) (g : List Int) (e : Int) (t : ByteArray) (w : World) (hp : p.size ≤ maxLen) (hs : s.size ≤ maxLen) (hg : g.length ≤ maxLen) (ht : t.size ≤ maxLen) (hR : Rd .i64 w A g) :
    Calls Try.prog 5 #[Loc p s A c g e, .string t] w fun r w' => r = .returned (.bool true) ∧ Below w.heap.size w w' := by
  have hI := InBox.new w p s A c g e hR
  have HI := Lib.hid hI
  obtain ⟨c0, c1, c2, c3⟩ := hI.bx.cells
  clear hI hR
  rcases Nat.lt_or_ge 60 t.size with m | m
  · unfold maxLen at ht
    clear hp hs hg
    go_enter Try.func5, Try.ntmps5
    go_wp2_with fail
    refine (awake_calls _).mono ?_
    rintro r w1 ⟨rfl, hb1⟩
    have Hb1 := Lib.hid (HI.out.step hb1)
    clear hb1
    go_wp2_with fail
    go_ret
    exact ⟨rfl, Hb1.out.b⟩
  · obtain ⟨x2, hx2⟩ : ∃ x2, x2 = if errB (okB (L p) (L s) g e) t.size = 0 then (if lead (L t) = 0 then 6 else 0) else errB (okB (L p) (L s) g e) t.size := ⟨_, rfl⟩
    obtain ⟨R2, hR2⟩ : ∃ R2, R2 = if x2 = 0 then ungL (sz (oneB (L s) g) g) g (L s) (L t) else ([], 0) := ⟨_, rfl⟩
    have h13 := fun W hR => ungroup_prog p s A c g e t W hp hs hg ht hR x2 R2 hx2 hR2
    by_cases hx0 : x2 = 0
    · subst hx0
      rw [if_pos rfl] at hR2
      have he0 : errB (okB (L p) (L s) g e) t.size = 0 := by
        by_cases h : errB (okB (L p) (L s) g e) t.size = 0
        · exact h
        · rw [if_neg h] at hx2; exact absurd hx2.symm h
      have hld : lead (L t) ≠ 0 := by
        intro h; rw [if_pos he0, if_pos h] at hx2; cases hx2
      have hok := (errB_ok he0).1
      have hsd := sep_dg hok
      obtain ⟨_, hsl, hgl, hgp⟩ := ok_facts hok
      obtain ⟨⟨f1, f2, f3, f4, f5⟩, hlong⟩ := longest g hgp (L s) (L t) hsd hld R2 hR2.symm
      obtain ⟨D, n⟩ := R2
      simp only at f1 f2 f3 f4 f5 hlong
      obtain ⟨dd, hdd⟩ : ∃ dd, S D = dd := ⟨_, rfl⟩
      have h13' : ∀ W, Rd .i64 W A g → Calls Try.prog 13 #[Loc p s A c g e, .string t] W fun r w' => r = .returned (.tuple #[.string dd, .int .i64 n, .int .i64 0]) ∧ Below W.heap.size W w' := fun W hR => by rw [← hdd]; exact h13 W hR
      have H13 := Lib.hid h13'
      rw [L_length] at f2
      have hdf : dd.toList.isEmpty = false := toList_full (by rw [← hdd, S_size]; exact fun h => f4 (List.eq_nil_of_length_eq_zero h))
      have HK : Hid (∀ k, n ≤ k → k ≤ t.size → ∃ xx gx, xx.toList.isEmpty = false ∧ (∀ w, Calls Try.prog 17 #[.string (t.extract 0 k)] w fun e w' => e = .returned (.string xx) ∧ w = w') ∧
          (∀ W, Rd .i64 W A g → Calls Try.prog 11 #[Loc p s A c g e, .string xx] W fun r w' => r = .returned (.tuple #[.string gx, .int .i64 0]) ∧ Below W.heap.size W w') ∧
          (k = n → xx = dd) ∧ ((((t.extract 0 k).toList == xx.toList) || ((t.extract 0 k).toList == gx.toList)) = decide (k = n))) := Lib.hid (fun k k1 k2 => by
        have hle : L (t.extract 0 k) = (L t).take k := by rw [L_extract, List.drop_zero]
        have hne := filter_more (L t) n k k1 (by rw [← f3]; exact f4)
        have hsz : (t.extract 0 k).size ≤ maxLen := by rw [ByteArray.size_extract]; unfold maxLen; omega
        have hfl : ((L t).take k).filter dg = L (S (((L t).take k).filter dg)) := by rw [L_S]
        have hxl : (S (((L t).take k).filter dg)).size ≤ 60 := by
          rw [S_size]
          refine Nat.le_trans (List.length_filter_le _ _) ?_
          rw [List.length_take, L_length]; omega
        refine ⟨S (((L t).take k).filter dg), S (grpL (L s) g (((L t).take k).filter dg)), toList_full (by rw [S_size]; exact fun h => hne (List.eq_nil_of_length_eq_zero h)), fun w => only_at _ w hsz _ (Lib.hid (by rw [hle]; exact hfl)), fun W hR => ?_, fun h => by rw [h, ← f3, hdd], ?_⟩
        · have := group_prog p s A c g e (S (((L t).take k).filter dg)) W hp hs hg (by unfold maxLen; omega) hR 0 (by rw [if_pos (errB_small he0 (by omega) (by omega)), L_S, filter_all]; rfl)
          rw [if_pos rfl, L_S] at this
          exact this
        · rw [toList_L, toList_L, toList_L, hle, L_S, L_S]
          by_cases hkn : k = n
          · subst hkn
            rw [decide_eq_true rfl]
            rw [← f3]
            rcases f5 with h | h
            · rw [h]; simp
            · rw [h]; simp
          · rw [decide_eq_false hkn, Bool.or_eq_false_iff]
            have hno := fun h => hkn (Nat.le_antisymm (hlong k (by rw [L_length]; exact k2) hne h) k1)
            exact ⟨beq_eq_false_iff_ne.2 (fun h => hno (.inl h)), beq_eq_false_iff_ne.2 (fun h => hno (.inr h.symm))⟩)
      clear h13 h13' hx2 hR2 hp hs hg he0 hld hok hsd hsl hgl hgp f3 f4 f5 hlong hdd
      unfold maxLen at ht
      have hn1 : decide ((n : Int) < 1) = false := by simp; omega
      have hn2 : decide (t.size < n) = false := by simp; omega
      have hn3 : decide ((60 : Int) < t.size) = false := by simp; omega
      go_enter Try.func5, Try.ntmps5
      go_wp2_with fail
      refine (awake_calls _).mono ?_
      rintro r w1 ⟨rfl, hb1⟩
      have I1 := Lib.hid (HI.out.step hb1)
      clear hb1 c0 c1 c2 c3
      obtain ⟨c0, c1, c2, c3⟩ := I1.out.bx.cells
      go_wp2_with fail
      refine (H13.out _ I1.out.rd).mono ?_
      rintro r w2 ⟨rfl, hb2⟩
      have I2 := Lib.hid (I1.out.step hb2)
      clear hb2 c0 c1 c2 c3
      go_wp2_with fail
      go_loopw [9] (fun v9 wr => ∃ k : Nat, n ≤ k ∧ k ≤ t.size + 1 ∧ v9 = .int .i64 k ∧ Hid (InBox w wr w.heap.size p s A c g e)) (fun v9 wr => t.size + 1 - (intOf v9).toNat)
      case atStart => exact ⟨n, Nat.le_refl _, by omega, rfl, I2⟩
      case round =>
        obtain ⟨k, k1, k2, rfl, J⟩ := hrel
        obtain ⟨c0, c1, c2, c3⟩ := J.out.bx.cells
        by_cases hk : k ≤ t.size
        · obtain ⟨xx, gx, e1, e2, e3, e4, e5⟩ := HK.out k k1 hk
          have E2 := Lib.hid e2
          have E3 := Lib.hid e3
          obtain ⟨b1, hb1⟩ : ∃ b1, ((t.extract 0 k).toList == xx.toList) = b1 := ⟨_, rfl⟩
          obtain ⟨b2, hb2⟩ : ∃ b2, ((t.extract 0 k).toList == gx.toList) = b2 := ⟨_, rfl⟩
          rw [hb1, hb2] at e5
          clear e2 e3
          by_cases hkn : k = n
          · subst hkn
            obtain rfl := e4 rfl
            rw [decide_eq_true rfl] at e5
            clear e4
            cases b1
            · obtain rfl : b2 = true := by simpa using e5
              clear e5
              go_wp2_with fail
              refine (E2.out _).mono ?_
              rintro r w3 ⟨rfl, rfl⟩
              go_wp2_with fail
              refine (E3.out _ J.out.rd).mono ?_
              rintro r w3 ⟨rfl, hb3⟩
              have J3 := Lib.hid (J.out.step hb3)
              clear hb3 c0 c1 c2 c3
              go_wp2_with fail
              go_roundw
              case rel => exact ⟨k + 1, by omega, by omega, by go_num, J3⟩
              case measure => simp [intOf]; omega
            · clear e5
              go_wp2_with fail
              refine (E2.out _).mono ?_
              rintro r w3 ⟨rfl, rfl⟩
              go_wp2_with fail
              refine (E3.out _ J.out.rd).mono ?_
              rintro r w3 ⟨rfl, hb3⟩
              have J3 := Lib.hid (J.out.step hb3)
              clear hb3 c0 c1 c2 c3
              go_wp2_with fail
              go_roundw
              case rel => exact ⟨k + 1, by omega, by omega, by go_num, J3⟩
              case measure => simp [intOf]; omega
          · have hkn2 : ((k : Int) == (n : Int)) = false := beq_eq_false_iff_ne.2 (by omega)
            rw [decide_eq_false hkn, Bool.or_eq_false_iff] at e5
            obtain ⟨rfl, rfl⟩ := e5
            clear e4 hkn
            go_wp2_with fail
            refine (E2.out _).mono ?_
            rintro r w3 ⟨rfl, rfl⟩
            go_wp2_with fail
            refine (E3.out _ J.out.rd).mono ?_
            rintro r w3 ⟨rfl, hb3⟩
            have J3 := Lib.hid (J.out.step hb3)
            clear hb3 c0 c1 c2 c3
            go_wp2_with fail
            go_roundw
            case rel => exact ⟨k + 1, by omega, by omega, by go_num, J3⟩
            case measure => simp [intOf]; omega
        · go_wp2_with fail
          go_ret
          exact ⟨rfl, J.out.b⟩
    · have hx2' : (x2 != 0) = true := by simp [hx0]
      rw [if_neg hx0] at hR2
      subst hR2
      have h13' : ∀ W, Rd .i64 W A g → Calls Try.prog 13 #[Loc p s A c g e, .string t] W fun r w' => r = .returned (.tuple #[.string ⟨#[]⟩, .int .i64 0, .int .i64 x2]) ∧ Below W.heap.size W w' := h13
      have H13 := Lib.hid h13'
      unfold maxLen at ht
      clear h13 h13' hx2 hp hs hg hx0
      go_enter Try.func5, Try.ntmps5
      go_wp2_with fail
      refine (awake_calls _).mono ?_
      rintro r w1 ⟨rfl, hb1⟩
      have I1 := Lib.hid (HI.out.step hb1)
      clear hb1 c0 c1 c2 c3
      obtain ⟨c0, c1, c2, c3⟩ := I1.out.bx.cells
      go_wp2_with fail
      refine (H13.out _ I1.out.rd).mono ?_
      rintro r w2 ⟨rfl, hb2⟩
      have I2 := Lib.hid (I1.out.step hb2)
      clear hb2 c0 c1 c2 c3
      go_wp2_with fail
      go_ret
      exact ⟨rfl, I2.out.b⟩
end Go.Proofs.Ytkdnlmnjhlogmaa
