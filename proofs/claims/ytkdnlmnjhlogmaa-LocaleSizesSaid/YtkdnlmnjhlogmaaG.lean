/- Contracts: the reference's check of a locale; the checks of a locale and a number. -/
import Derived.Test.YtkdnlmnjhlogmaaF
namespace Go.Proofs.Ytkdnlmnjhlogmaa
open Go.RowKit
set_option linter.unusedSimpArgs false
set_option linter.unusedVariables false

theorem isMark_at (s : ByteArray) (w : World) (hs : s.size ≤ maxLen) (b : Bool) (h : Hid (markB (L s) = b)) : Calls Try.prog 65 #[.string s] w fun e w' => e = .returned (.bool b) ∧ w = w' := by
  rw [← h.out]; exact isMark_calls s w hs
theorem begins_at (s t : ByteArray) (w : World) (hs : s.size ≤ maxLen) (ht : t.size ≤ maxLen) (b : Bool) (h : Hid (pre (L t) (L s) = b)) : Calls Try.prog 42 #[.string s, .string t] w fun e w' => e = .returned (.bool b) ∧ w = w' := by
  rw [← h.out]; exact begins_ref s t w hs ht

set_option maxHeartbeats 8000000 in
theorem valid_calls (p s : ByteArray) (A : Option Addr) (c : Nat) (g : List Int) (e : Int) (w : World) (hp : p.size ≤ maxLen) (hs : s.size ≤ maxLen) (hg : g.length ≤ maxLen) (hR : Rd .i64 w A g) :
    Calls Try.prog 52 #[Loc p s A c g e] w fun r w' => r = .returned (.bool (okB (L p) (L s) g e)) ∧ Below w.heap.size w w' := by
  have hI := InBox.new w p s A c g e hR
  clear hR
  obtain ⟨c0, c1, c2, c3⟩ := hI.bx.cells
  obtain ⟨ap, hap⟩ : ∃ b, apartB (L p) (L s) = b := ⟨_, rfl⟩
  obtain ⟨gb, hgb⟩ : ∃ b, groupsB g = b := ⟨_, rfl⟩
  obtain ⟨mp, hmp⟩ : ∃ b, markB (L p) = b := ⟨_, rfl⟩
  obtain ⟨ms, hms⟩ : ∃ b, markB (L s) = b := ⟨_, rfl⟩
  obtain ⟨p1, hp1⟩ : ∃ b, pre (L p) (L s) = b := ⟨_, rfl⟩
  obtain ⟨p2, hp2⟩ : ∃ b, pre (L s) (L p) = b := ⟨_, rfl⟩
  obtain ⟨ga, hga⟩ : ∃ b, g.any grpB = b := ⟨_, rfl⟩
  have hap' : (L s).isEmpty = false → ap = (ms && !p1 && !p2) := fun h => by rw [← hap, apartB, h, hms, hp1, hp2]; rfl
  have hap0 : (L s).isEmpty = true → ap = true := fun h => by rw [← hap, apartB, h]; rfl
  have hgb' : gb = (decide (g.length ≤ 8) && !ga) := by rw [← hgb, groupsB, hga]
  have hok : okB (L p) (L s) g e = (mp && ap && gb && decide (1 ≤ e ∧ e ≤ 3)) := by rw [okB, hmp, hap, hgb]
  rw [hok]
  obtain ⟨R, hRr⟩ : ∃ b, (mp && ap && gb && decide (1 ≤ e ∧ e ≤ 3)) = b := ⟨_, rfl⟩
  rw [hRr]
  have HR := Lib.hid hRr
  clear hRr
  have Hap := Lib.hid hap'
  have Hap0 := Lib.hid hap0
  have Hgb := Lib.hid hgb'
  have Hmp := Lib.hid hmp
  have Hms := Lib.hid hms
  have Hp1 := Lib.hid hp1
  have Hp2 := Lib.hid hp2
  have Hga := Lib.hid hga
  have Hp := Lib.hid hp
  have Hs := Lib.hid hs
  unfold maxLen at hg
  have HI := Lib.hid hI
  clear hp hs hok hap hgb hmp hms hp1 hp2 hga hap' hgb' hap0 hI
  go_enter Try.func52, Try.ntmps52
  go_upto_region 1 with fail
  go_cut [32] (fun v wc => v = .bool (!(mp && ap)) ∧ Hid (InBox w wc w.heap.size p s A c g e))
  case first =>
    clear Hgb
    go_wp2_with fail
    refine (isMark_at p _ Hp.out _ Hmp).mono ?_
    rintro r w1 ⟨rfl, rfl⟩
    cases mp
    · clear Hap Hap0
      go_wp2_with fail
      go_meet
      case rel => exact ⟨rfl, HI⟩
    · cases hse : (L s).isEmpty
      · have hs1 : s.toList.isEmpty = false := by rw [toList_L]; exact hse
        have hv := Hap.out hse
        have Hv := Lib.hid hv
        clear Hap Hap0 hse hv
        go_wp2_with fail
        refine (isMark_at s _ Hs.out _ Hms).mono ?_
        rintro r w1 ⟨rfl, rfl⟩
        cases ms
        · go_wp2_with fail
          go_meet
          case rel => exact ⟨by rw [Hv.out]; rfl, HI⟩
        · go_wp2_with fail
          refine (begins_at p s _ Hp.out Hs.out _ Hp2).mono ?_
          rintro r w2 ⟨rfl, rfl⟩
          cases p2
          · go_wp2_with fail
            refine (begins_at s p _ Hs.out Hp.out _ Hp1).mono ?_
            rintro r w2 ⟨rfl, rfl⟩
            cases p1
            all_goals
              go_wp2_with fail
              go_meet
              case rel => exact ⟨by rw [Hv.out]; rfl, HI⟩
          · go_wp2_with fail
            go_meet
            case rel => exact ⟨by rw [Hv.out]; simp, HI⟩
      · have hs1 : s.toList.isEmpty = true := by rw [toList_L]; exact hse
        have Hv := Lib.hid (Hap0.out hse)
        clear Hap Hap0 hse
        go_wp2_with fail
        go_meet
        case rel => exact ⟨by rw [Hv.out]; rfl, HI⟩
  case rest =>
    clear Hap Hap0 Hms Hp1 Hp2 c0 c1 c2 c3 HI
    obtain ⟨rfl, HI⟩ := hcut
    obtain ⟨c0, c1, c2, c3⟩ := HI.out.bx.cells
    cases hq : (mp && ap)
    · have Hq := Lib.hid hq
      clear hq
      clear Hgb
      go_wp2_with fail
      go_ret
      exact ⟨ret_bool (by rw [← HR.out, Hq.out]; rfl), HI.out.b⟩
    · have Hq := Lib.hid hq
      clear hq
      go_upto_region 3 with fail
      go_cut [46] (fun v wc => v = .bool (!(decide (g.length ≤ 8) && decide (1 ≤ e ∧ e ≤ 3))) ∧ Hid (InBox w wc w.heap.size p s A c g e))
      case first =>
        clear Hgb
        by_cases h1 : g.length ≤ 8
        · have h1' : ¬ (8 < (g.length : Int)) := by omega
          by_cases h2 : e < 1
          · go_wp2_with fail
            go_meet
            case rel => exact ⟨by simp [h1]; omega, HI⟩
          · by_cases h3 : 3 < e
            all_goals
              go_wp2_with fail
              go_meet
              case rel => exact ⟨by simp [h1]; omega, HI⟩
        · have h1' : (8 < (g.length : Int)) := by omega
          go_wp2_with fail
          go_meet
          case rel => exact ⟨by simp [h1], HI⟩
      case rest =>
        clear c0 c1 c2 c3 HI
        obtain ⟨rfl, HI⟩ := hcut
        obtain ⟨c0, c1, c2, c3⟩ := HI.out.bx.cells
        by_cases h1 : g.length ≤ 8 ∧ (1 ≤ e ∧ e ≤ 3)
        · obtain ⟨h1, h2⟩ := h1
          have hfin : (mp && ap && gb && decide (1 ≤ e ∧ e ≤ 3)) = !ga := by rw [Hq.out, Hgb.out, decide_eq_true h1, decide_eq_true h2]; simp
          have Hfin := Lib.hid hfin
          clear hfin
          have e1 : decide (g.length ≤ 8) = true := decide_eq_true h1
          have e2 : decide (1 ≤ e ∧ e ≤ 3) = true := decide_eq_true h2
          rw [e1, e2]
          clear Hgb e1 e2
          go_wp2_with fail
          go_loop [3] (fun i => ∃ k : Nat, k ≤ g.length ∧ i = .int .i64 k ∧ Hid (∀ j x, j < k → g[j]? = some x → grpB x = false)) (fun i => g.length - (intOf i).toNat)
          case atStart => exact ⟨0, Nat.zero_le _, rfl, fun j x hj => by omega⟩
          case round =>
            obtain ⟨k, hk, rfl, hd⟩ := hrel
            by_cases hlt : k < g.length
            · obtain ⟨x, hx⟩ : ∃ x, g[k]? = some x := ⟨g[k], List.getElem?_eq_getElem hlt⟩
              obtain ⟨b, o, rfl, hc⟩ := HI.out.rd (fun e => by rw [e] at hlt; simp at hlt)
              have hck := hc k x hx
              clear hc
              have Hx := Lib.hid hx
              clear hx
              cases hb : grpB x
              · have hb' : ¬ (x < 1) ∧ ¬ (127 < x) := by simp only [grpB, decide_eq_false_iff_not] at hb; omega
                have Hb := Lib.hid hb
                clear hb
                obtain ⟨hb1, hb2⟩ := hb'
                go_wp2_with fail
                go_round
                case rel =>
                  refine ⟨k + 1, by omega, by go_num, fun j y hj hy => ?_⟩
                  by_cases e : j = k
                  · subst e; rw [Hx.out] at hy; injection hy with hy; subst hy; exact Hb.out
                  · exact hd.out j y (by omega) hy
                case measure => simp [intOf]; omega
              · have hga1 : ga = true := by
                  rw [← Hga.out, List.any_eq_true]
                  exact ⟨x, List.mem_of_getElem? Hx.out, hb⟩
                have Hga1 := Lib.hid hga1
                have hb' : x < 1 ∨ (¬ (x < 1) ∧ 127 < x) := by simp only [grpB, decide_eq_true_eq] at hb; omega
                clear hb hga1
                rcases hb' with hb1 | ⟨hb1, hb2⟩
                all_goals
                  go_wp2_with fail
                  go_ret
                  exact ⟨ret_bool (by rw [← HR.out, Hfin.out, Hga1.out]; rfl), HI.out.b⟩
            · have hga1 : ga = false := by
                rw [← Hga.out, List.any_eq_false]
                intro x hx
                obtain ⟨j, hj, rfl⟩ := List.getElem_of_mem hx
                simp [hd.out j _ (by omega) (List.getElem?_eq_getElem hj)]
              have Hga1 := Lib.hid hga1
              clear hga1
              go_wp2_with fail
              go_ret
              exact ⟨ret_bool (by rw [← HR.out, Hfin.out, Hga1.out]; rfl), HI.out.b⟩
        · have e1 : (!(decide (g.length ≤ 8) && decide (1 ≤ e ∧ e ≤ 3))) = true := by
            rw [Bool.not_eq_true', Bool.and_eq_false_iff, decide_eq_false_iff_not, decide_eq_false_iff_not]
            by_cases q : g.length ≤ 8
            · exact .inr (fun h => h1 ⟨q, h⟩)
            · exact .inl q
          have hfin : (mp && ap && gb && decide (1 ≤ e ∧ e ≤ 3)) = false := by
            rw [Hq.out, Hgb.out]
            rw [Bool.not_eq_true', Bool.and_eq_false_iff] at e1
            rcases e1 with e1 | e1 <;> rw [e1] <;> simp
          have Hfin := Lib.hid hfin
          rw [e1]
          clear Hgb e1 hfin h1
          go_wp2_with fail
          go_ret
          exact ⟨ret_bool (by rw [← HR.out, Hfin.out]), HI.out.b⟩

theorem refCheck_calls (p s : ByteArray) (A : Option Addr) (c : Nat) (g : List Int) (e : Int) (w : World) (hp : p.size ≤ maxLen) (hs : s.size ≤ maxLen) (hg : g.length ≤ maxLen) (hR : Rd .i64 w A g) :
    Calls Try.prog 28 #[Loc p s A c g e] w fun r w' => r = .returned (.int .i64 (if okB (L p) (L s) g e then 0 else 1)) ∧ Below w.heap.size w w' := by
  have hI := InBox.new w p s A c g e hR
  obtain ⟨c0, c1, c2, c3⟩ := hI.bx.cells
  have HI := Lib.hid hI
  clear hI
  have h52 := valid_calls p s A c g e _ hp hs hg HI.out.rd
  obtain ⟨b, hb⟩ : ∃ b, okB (L p) (L s) g e = b := ⟨_, rfl⟩
  rw [hb] at h52 ⊢
  have H52 := Lib.hid h52
  clear h52 hb
  go_enter Try.func28, Try.ntmps28
  go_wp2_with fail
  refine H52.out.mono ?_
  rintro r w1 ⟨rfl, hb1⟩
  have HI1 := Lib.hid (HI.out.step hb1)
  clear hb1
  cases b
  all_goals
    go_wp2_with fail
    go_ret
    exact ⟨rfl, HI1.out.b⟩

/-- The error of a locale and a number. -/
def errB (ok : Bool) (n : Int) : Int := if ok then (if 20000 < n then 2 else if n < 0 then 1 else 0) else 1
theorem fits_calls (p s : ByteArray) (A : Option Addr) (c : Nat) (g : List Int) (e n : Int) (w : World) (hp : p.size ≤ maxLen) (hs : s.size ≤ maxLen) (hg : g.length ≤ maxLen) (hR : Rd .i64 w A g) :
    Calls Try.prog 36 #[Loc p s A c g e, .int .i64 n] w fun r w' => r = .returned (.int .i64 (errB (okB (L p) (L s) g e) n)) ∧ Below w.heap.size w w' := by
  have hI := InBox.new w p s A c g e hR
  obtain ⟨c0, c1, c2, c3⟩ := hI.bx.cells
  have HI := Lib.hid hI
  clear hI
  have h52 := valid_calls p s A c g e _ hp hs hg HI.out.rd
  obtain ⟨b, hb⟩ : ∃ b, okB (L p) (L s) g e = b := ⟨_, rfl⟩
  rw [hb] at h52 ⊢
  have H52 := Lib.hid h52
  clear h52 hb
  obtain ⟨R, hRr⟩ : ∃ x, errB b n = x := ⟨_, rfl⟩
  rw [hRr]
  have HR := Lib.hid hRr
  clear hRr
  go_enter Try.func36, Try.ntmps36
  go_wp2_with fail
  refine H52.out.mono ?_
  rintro r w1 ⟨rfl, hb1⟩
  have HI1 := Lib.hid (HI.out.step hb1)
  clear hb1
  cases b
  · go_wp2_with fail
    go_ret
    exact ⟨ret_int (by rw [← HR.out]; rfl), HI1.out.b⟩
  · go_wp2_with fail
    all_goals
      go_ret
      refine ⟨ret_int ?_, HI1.out.b⟩
      rw [← HR.out, errB, if_pos rfl]
      (repeat' split) <;> first | rfl | omega
/-- The program's check: it returns, or panics with the error. -/
theorem check_yes (p s : ByteArray) (A : Option Addr) (c : Nat) (g : List Int) (e n : Int) (w : World) (hp : p.size ≤ maxLen) (hs : s.size ≤ maxLen) (hg : g.length ≤ maxLen) (hR : Rd .i64 w A g) (hok : errB (okB (L p) (L s) g e) n = 0) :
    Calls Try.prog 30 #[Loc p s A c g e, .int .i64 n] w fun r w' => r = .returned (.tuple #[]) ∧ Below w.heap.size w w' := by
  have hI := InBox.new w p s A c g e hR
  obtain ⟨c0, c1, c2, c3⟩ := hI.bx.cells
  have HI := Lib.hid hI
  clear hI
  have h27 := check_calls p s A c g e _ hp hs hg HI.out.rd
  obtain ⟨b, hb⟩ : ∃ b, okB (L p) (L s) g e = b := ⟨_, rfl⟩
  rw [hb] at h27 hok
  have H27 := Lib.hid h27
  clear h27 hb
  have hb : b = true ∧ ¬ 20000 < n ∧ ¬ n < 0 := by
    unfold errB at hok
    repeat' split at hok
    all_goals first | (refine ⟨by assumption, by assumption, by assumption⟩) | omega
  clear hok
  obtain ⟨rfl, h1, h2⟩ := hb
  go_enter Try.func30, Try.ntmps30
  go_wp2_with fail
  refine H27.out.mono ?_
  rintro r w1 ⟨rfl, hb1⟩
  have HI1 := Lib.hid (HI.out.step hb1)
  clear hb1
  go_wp2_with (go_at_call 31; refine (need_ok _ _).mono ?_; rintro r w' ⟨rfl, rfl⟩)
  go_end0
  exact ⟨rfl, HI1.out.b⟩
theorem check_no (p s : ByteArray) (A : Option Addr) (c : Nat) (g : List Int) (e n x : Int) (w : World) (hp : p.size ≤ maxLen) (hs : s.size ≤ maxLen) (hg : g.length ≤ maxLen) (hR : Rd .i64 w A g) (hx : errB (okB (L p) (L s) g e) n = x) (h0 : x ≠ 0) :
    Calls Try.prog 30 #[Loc p s A c g e, .int .i64 n] w fun r w' => r = .panicked [{ v := fail x, recovered := false }] ∧ Below w.heap.size w w' := by
  have hI := InBox.new w p s A c g e hR
  obtain ⟨c0, c1, c2, c3⟩ := hI.bx.cells
  have HI := Lib.hid hI
  clear hI
  have h27 := check_calls p s A c g e _ hp hs hg HI.out.rd
  obtain ⟨b, hb⟩ : ∃ b, okB (L p) (L s) g e = b := ⟨_, rfl⟩
  rw [hb] at h27 hx
  have H27 := Lib.hid h27
  clear h27 hb
  have hb : (b = false ∧ x = 1) ∨ (b = true ∧ 20000 < n ∧ x = 2) ∨ (b = true ∧ ¬ 20000 < n ∧ n < 0 ∧ x = 1) := by
    unfold errB at hx
    repeat' split at hx
    · exact .inr (.inl ⟨by assumption, by assumption, hx.symm⟩)
    · exact .inr (.inr ⟨by assumption, by assumption, by assumption, hx.symm⟩)
    · exact absurd hx.symm h0
    · exact .inl ⟨by simpa using (by assumption : ¬ b = true), hx.symm⟩
  clear hx h0
  have hd : ∃ d1 d2 : Bool, decide (n ≤ 20000) = d1 ∧ decide (0 ≤ n) = d2 ∧ ((b = false ∧ x = 1) ∨ (b = true ∧ d1 = false ∧ x = 2) ∨ (b = true ∧ d1 = true ∧ d2 = false ∧ x = 1)) := by
    refine ⟨_, _, rfl, rfl, ?_⟩
    rcases hb with h | ⟨h, h1, h2⟩ | ⟨h, h1, h2, h3⟩
    · exact .inl h
    · exact .inr (.inl ⟨h, decide_eq_false (by omega), h2⟩)
    · exact .inr (.inr ⟨h, decide_eq_true (by omega), decide_eq_false (by omega), h3⟩)
  clear hb
  obtain ⟨d1, d2, e1, e2, hb⟩ := hd
  rcases hb with ⟨rfl, rfl⟩ | ⟨rfl, rfl, rfl⟩ | ⟨rfl, rfl, rfl, rfl⟩
  all_goals
    go_enter Try.func30, Try.ntmps30
    go_wp2_with fail
    refine H27.out.mono ?_
    rintro r w1 ⟨rfl, hb1⟩
    have HI1 := Lib.hid (HI.out.step hb1)
    clear hb1
    go_wp2_with (go_at_call 31; first | ((with_reducible refine (need_ok _ _).mono ?_); rintro r w2 ⟨rfl, rfl⟩) | ((with_reducible refine (need_no _ _).mono ?_); rintro r w2 ⟨rfl, rfl⟩))
    exact ⟨rfl, rfl, HI1.out.b⟩
end Go.Proofs.Ytkdnlmnjhlogmaa
