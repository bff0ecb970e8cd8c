/- The law LocalePlain: the walk. -/
import Derived.Test.YtkdnlmnjhlogmaaZQ
import Derived.Test.YtkdnlmnjhlogmaaZX
import Derived.Test.YtkdnlmnjhlogmaaZT
namespace Go.Proofs.Ytkdnlmnjhlogmaa
open Go.RowKit Go.Shelf
set_option linter.unusedSimpArgs false
set_option linter.unusedVariables false

theorem grpL_plain (d : List UInt8) : grpL [] [] d = d := by
  have ho : oneB ([] : List UInt8) ([] : List Int) = true := rfl
  rw [grpL, groupL, ho]
  cases d with
  | nil => rfl
  | cons a d =>
    rw [grp_one (sz true []) (fun k => rfl) ((a :: d).length : Int) (by simp)]
    exact joined_one _ _ _ rfl
/-- A decimal number: digits, or digits, a point, and digits. -/
def decB (t : List UInt8) : Bool := decide (lead t = t.length) || (decide (t[lead t]? = some 46) && (t.drop (lead t + 1)).all dg)
theorem locL_some (p s : List UInt8) (g : List Int) (t : List UInt8) : (locL p s g t).isSome = decB t := by
  rw [locL, decB]
  by_cases h : lead t = t.length
  · rw [if_pos h, decide_eq_true h]; rfl
  · rw [if_neg h, decide_eq_false h]
    by_cases h2 : t[lead t]? = some 46 ∧ (t.drop (lead t + 1)).all dg = true
    · rw [if_pos h2, decide_eq_true h2.1, h2.2]; rfl
    · rw [if_neg h2]
      cases h3 : (t.drop (lead t + 1)).all dg
      · simp
      · have : ¬ t[lead t]? = some 46 := fun h => h2 ⟨h, h3⟩
        simp [this]
theorem split_at (t : List UInt8) (h : t[lead t]? = some 46) : t = t.take (lead t) ++ [46] ++ t.drop (lead t + 1) := by
  have h1 := take_snoc_L ⟨t.toArray⟩
  have h2 : t.take (lead t + 1) = t.take (lead t) ++ [46] := by rw [List.take_add_one, h]; rfl
  rw [← h2, List.take_append_drop]
theorem locL_plain (t : List UInt8) (h : decB t = true) : locL [46] [] [] t = some t := by
  rw [locL]
  by_cases hl : lead t = t.length
  · rw [if_pos hl, grpL_plain]
  · rw [decB, decide_eq_false hl, Bool.false_or, Bool.and_eq_true, decide_eq_true_eq] at h
    rw [if_neg hl, if_pos h, grpL_plain, ← split_at t h.1]
theorem lead_take (t : List UInt8) : (t.take (lead t)).all dg = true := by
  rw [List.all_eq_true]
  intro y hy
  obtain ⟨j, hj, rfl⟩ := List.getElem_of_mem hy
  rw [List.length_take] at hj
  exact lead_dg t j _ (by omega) (by rw [List.getElem_take]; exact List.getElem?_eq_getElem _)
theorem point_dg {p s : List UInt8} {g : List Int} {e : Int} (h : okB p s g e = true) : p.all (fun c => !dg c) = true := by
  simp only [okB, Bool.and_eq_true] at h
  obtain ⟨⟨⟨hm, _⟩, _⟩, _⟩ := h
  simp only [markB, Bool.and_eq_true, Bool.not_eq_true', List.any_eq_false] at hm
  rw [List.all_eq_true]
  intro c hc
  have := hm.1 c hc
  simp only [badB, Bool.or_eq_true, not_or] at this
  have h3 := this.1.1.1
  rw [dg]
  cases h4 : digB c.toNat
  · rfl
  · rw [h4] at h3; exact absurd rfl h3
theorem not_point (c : UInt8) (h : dg c = true) : ((c.toNat : Int) == 46) = false := by
  rw [dg, digB, decide_eq_true_eq] at h
  exact beq_eq_false_iff_ne.2 (by omega)

set_option maxRecDepth 10000 in
set_option maxHeartbeats 4000000 in
theorem plainLaw_calls (p s : ByteArray) (A : Option Addr) (c : Nat) (g : List Int) (e : Int) (t : ByteArray) (w : World) (hp : p.size ≤ maxLen) (hs : s.size ≤ maxLen) (hg : g.length ≤ maxLen) (ht : t.size ≤ maxLen) (hR : Rd .i64 w A g) :
    Calls Try.prog 6 #[Loc p s A c g e, .string t] w fun r w' => r = .returned (.bool true) ∧ Below w.heap.size w w' := by
  have hI := InBox.new w p s A c g e hR
  have HI := Lib.hid hI
  obtain ⟨c0, c1, c2, c3⟩ := hI.bx.cells
  clear hI hR
  rcases Nat.lt_or_ge 400 t.size with m | m
  · unfold maxLen at ht
    clear hp hs hg
    go_enter Try.func6, Try.ntmps6
    go_wp2_with fail
    refine (awake_calls _).mono ?_
    rintro r w1 ⟨rfl, hb1⟩
    have Hb1 := Lib.hid (HI.out.step hb1)
    clear hb1
    go_wp2_with fail
    go_ret
    exact ⟨rfl, Hb1.out.b⟩
  · have okp : okB (L ⟨#[46]⟩) (L ⟨#[]⟩) [] 1 = true := by decide
    have he0 : errB (okB (L ⟨#[46]⟩) (L ⟨#[]⟩) [] 1) t.size = 0 := by rw [okp, errB_zero (by omega) (by omega)]; rfl
    have hrd : ∀ W, Rd .i64 W none [] := fun W h => absurd rfl h
    have hlen : ([] : List Int).length ≤ maxLen := by simp
    have h46 : (⟨#[46]⟩ : ByteArray).size ≤ maxLen := by decide
    have h00 : (⟨#[]⟩ : ByteArray).size ≤ maxLen := by decide
    cases hdec : decB (L t)
    · have hL : ∀ W, Calls Try.prog 15 #[Loc ⟨#[46]⟩ ⟨#[]⟩ none 0 [] 1, .string t] W fun r w' => r = .returned (.tuple #[.string ⟨#[]⟩, .int .i64 6]) ∧ Below W.heap.size W w' := fun W =>
        localize_prog ⟨#[46]⟩ ⟨#[]⟩ none 0 [] 1 t W h46 h00 hlen ht (hrd W) 6 [] (by rw [if_pos he0, locL_some, hdec]; rfl) (by rw [if_neg (by decide)])
      have HL := Lib.hid hL
      unfold maxLen at ht
      clear hL okp he0 hrd hlen h46 h00 hdec hp hs hg
      have hm : decide ((400 : Int) < t.size) = false := by simp; omega
      go_enter Try.func6, Try.ntmps6
      go_wp2_with fail
      refine (awake_calls _).mono ?_
      rintro r w1 ⟨rfl, hb1⟩
      have I1 := Lib.hid (HI.out.step hb1)
      clear hb1 c0 c1 c2 c3
      go_wp2_with fail
      refine (plain_prog _).mono ?_
      rintro r w2 ⟨rfl, hb2⟩
      have I2 := Lib.hid (I1.out.step hb2)
      clear hb2
      go_wp2_with fail
      refine (HL.out _).mono ?_
      rintro r w3 ⟨rfl, hb3⟩
      have I3 := Lib.hid (I2.out.step hb3)
      clear hb3
      go_wp2_with fail
      go_ret
      exact ⟨rfl, I3.out.b⟩
    · have hL : ∀ W, Calls Try.prog 15 #[Loc ⟨#[46]⟩ ⟨#[]⟩ none 0 [] 1, .string t] W fun r w' => r = .returned (.tuple #[.string t, .int .i64 0]) ∧ Below W.heap.size W w' := fun W =>
        localize_prog ⟨#[46]⟩ ⟨#[]⟩ none 0 [] 1 t W h46 h00 hlen ht (hrd W) 0 (L t) (by rw [if_pos he0, locL_some, hdec]; rfl) (by rw [if_pos rfl, show locL (L ⟨#[46]⟩) (L ⟨#[]⟩) [] (L t) = some (L t) from locL_plain (L t) hdec]; rfl)
      have HL := Lib.hid hL
      clear hL okp he0 hrd hlen h46 h00
      have hm : decide ((400 : Int) < t.size) = false := by simp; omega
      have hB := fun W hR => localize_prog p s A c g e t W hp hs hg ht hR
      cases hok : okB (L p) (L s) g e
      · have hB1 : ∀ W, Rd .i64 W A g → Calls Try.prog 15 #[Loc p s A c g e, .string t] W fun r w' => r = .returned (.tuple #[.string ⟨#[]⟩, .int .i64 1]) ∧ Below W.heap.size W w' := fun W hR =>
          hB W hR 1 [] (by rw [hok, errB_zero (by omega) (by omega)]; rfl) (by rw [if_neg (by decide)])
        have HB := Lib.hid hB1
        unfold maxLen at ht
        clear hB hB1 hdec hok hp hs hg
        go_enter Try.func6, Try.ntmps6
        go_wp2_with fail
        refine (awake_calls _).mono ?_
        rintro r w1 ⟨rfl, hb1⟩
        have I1 := Lib.hid (HI.out.step hb1)
        clear hb1 c0 c1 c2 c3
        go_wp2_with fail
        refine (plain_prog _).mono ?_
        rintro r w2 ⟨rfl, hb2⟩
        have I2 := Lib.hid (I1.out.step hb2)
        clear hb2
        go_wp2_with fail
        refine (HL.out _).mono ?_
        rintro r w3 ⟨rfl, hb3⟩
        have I3 := Lib.hid (I2.out.step hb3)
        clear hb3
        obtain ⟨c0, c1, c2, c3⟩ := I3.out.bx.cells
        go_wp2_with fail
        refine (HB.out _ I3.out.rd).mono ?_
        rintro r w4 ⟨rfl, hb4⟩
        have I4 := Lib.hid (I3.out.step hb4)
        clear hb4 c0 c1 c2 c3
        go_wp2_with fail
        go_ret
        exact ⟨rfl, I4.out.b⟩
      · obtain ⟨⟨_, hpl⟩, hsl, hgl, hgp⟩ := ok_facts hok
        have hsd := sep_dg hok
        have hpd := point_dg hok
        obtain ⟨bb, hbb⟩ : ∃ bb, S ((locL (L p) (L s) g (L t)).getD []) = bb := ⟨_, rfl⟩
        have hB1 : ∀ W, Rd .i64 W A g → Calls Try.prog 15 #[Loc p s A c g e, .string t] W fun r w' => r = .returned (.tuple #[.string bb, .int .i64 0]) ∧ Below W.heap.size W w' := fun W hR => by
          rw [← hbb]
          exact hB W hR 0 _ (by rw [hok, errB_zero (by omega) (by omega), locL_some, hdec]; rfl) (by rw [if_pos rfl])
        have HB := Lib.hid hB1
        obtain ⟨wh, hwh⟩ : ∃ wh, S ((L t).take (lead (L t))) = wh := ⟨_, rfl⟩
        obtain ⟨gx, hgx⟩ : ∃ gx, S (grpL (L s) g ((L t).take (lead (L t)))) = gx := ⟨_, rfl⟩
        obtain ⟨ob, hob⟩ : ∃ ob, S ((L t).filter dg) = ob := ⟨_, rfl⟩
        have hld := lead_le (L t)
        rw [L_length] at hld hpl hsl
        have hwl : wh.size = lead (L t) := by rw [← hwh, S_size, List.length_take, L_length, Nat.min_eq_left hld]
        have hwsz : wh.size ≤ maxLen := by unfold maxLen; omega
        have hgr : ∀ W, Rd .i64 W A g → Calls Try.prog 11 #[Loc p s A c g e, .string wh] W fun r w' => r = .returned (.tuple #[.string gx, .int .i64 0]) ∧ Below W.heap.size W w' := fun W hR => by
          have := group_prog p s A c g e wh W hp hs hg hwsz hR 0 (by rw [hok, errB_zero (by omega) (by omega), if_pos rfl, ← hwh, L_S, lead_take]; rfl)
          rw [if_pos rfl, ← hwh, L_S, hgx, hwh] at this
          exact this
        have HG := Lib.hid hgr
        have hgl5 : gx.size ≤ 5 * lead (L t) := by
          have := grpL_short (L s) hsd g hgp ((L t).take (lead (L t))) (lead_take _) (by rw [L_length]; exact hsl)
          rw [List.length_take, L_length, Nat.min_eq_left hld] at this
          rw [← hgx, S_size]; exact this
        have hgf : (L gx).filter dg = (L t).take (lead (L t)) := by rw [← hgx, L_S]; exact grpL_filter (L s) hsd g hgp _ (lead_take _)
        have HOT : Hid (∀ w, Calls Try.prog 17 #[.string t] w fun e w' => e = .returned (.string ob) ∧ w = w') := Lib.hid (fun w => only_at t w ht ob (Lib.hid (by rw [← hob, L_S])))
        have HD : Hid (∀ j (h : j < t.size), j < lead (L t) → digB (t[j].toNat : Int) = true ∧ ((t[j].toNat : Int) == 46) = false) := Lib.hid (fun j h hj => by
          have := lead_dg (L t) j _ hj (L_get t j h)
          exact ⟨this, not_point _ this⟩)
        by_cases hlt : lead (L t) = (L t).length
        · have hall : (L t).take (lead (L t)) = L t := by rw [hlt, List.take_length]
          rw [hall, S_L] at hwh
          subst hwh
          rw [locL, if_pos hlt] at hbb
          rw [hall] at hgx hgf
          obtain rfl : bb = gx := by rw [← hbb, ← hgx]; rfl
          rw [L_length] at hlt
          have hms : bb.size ≤ maxLen := by unfold maxLen; omega
          have HOB : Hid (∀ w, Calls Try.prog 17 #[.string bb] w fun e w' => e = .returned (.string ob) ∧ w = w') := Lib.hid (fun w => only_at bb w hms ob (Lib.hid (by rw [← hob, L_S, hgf, ← hall, filter_dg _ (lead_take _)])))
          have HBE : Hid (∀ w, Calls Try.prog 19 #[.string bb, .string bb] w fun e w' => e = .returned (.bool true) ∧ w = w') := Lib.hid (fun w => begins_lat bb bb w hms hms true (Lib.hid (by rw [pre]; simp)))
          have HD2 : Hid (∀ j (h : j < t.size), digB (t[j].toNat : Int) = true ∧ ((t[j].toNat : Int) == 46) = false) := Lib.hid (fun j h => HD.out j h (by omega))
          have hbs : bb.size ≤ 2000 := by omega
          unfold maxLen at ht
          clear hB hB1 hdec hok hp hs hg hwsz hgr hgl5 hgf hall hbb hgx hob hld hpl hsl hgl hgp hsd hpd hlt hwl HD hms
          go_enter Try.func6, Try.ntmps6
          go_wp2_with fail
          refine (awake_calls _).mono ?_
          rintro r w1 ⟨rfl, hb1⟩
          have I1 := Lib.hid (HI.out.step hb1)
          clear hb1 c0 c1 c2 c3
          go_wp2_with fail
          refine (plain_prog _).mono ?_
          rintro r w2 ⟨rfl, hb2⟩
          have I2 := Lib.hid (I1.out.step hb2)
          clear hb2
          go_wp2_with fail
          refine (HL.out _).mono ?_
          rintro r w3 ⟨rfl, hb3⟩
          have I3 := Lib.hid (I2.out.step hb3)
          clear hb3
          obtain ⟨c0, c1, c2, c3⟩ := I3.out.bx.cells
          go_wp2_with fail
          refine (HB.out _ I3.out.rd).mono ?_
          rintro r w4 ⟨rfl, hb4⟩
          have I4 := Lib.hid (I3.out.step hb4)
          clear hb4 c0 c1 c2 c3
          go_wp2_with fail
          go_loop [10, 11] (fun v10 v11 => ∃ k : Nat, k ≤ t.size ∧ v11 = .int .i64 k ∧ v10 = .int .i64 0) (fun v10 v11 => t.size - (intOf v11).toNat)
          case atStart => exact ⟨0, Nat.zero_le _, rfl, rfl⟩
          case round =>
            obtain ⟨k, hk, rfl, rfl⟩ := hrel
            by_cases hlt : k < t.size
            · have hnp := (HD2.out k hlt).2
              go_wp2
              go_round
              case rel => exact ⟨k + 1, by omega, by go_num, rfl⟩
              case measure => simp [intOf]; omega
            · obtain rfl : k = t.size := by omega
              go_wp2_with fail
              go_loop [12, 13] (fun v12 v13 => ∃ (k : Nat) (b : ByteArray), k ≤ t.size ∧ v13 = .int .i64 k ∧ v12 = .string b ∧ b.size ≤ k ∧ Hid (L b = (L t).take k)) (fun v12 v13 => t.size - (intOf v13).toNat)
              case atStart => exact ⟨0, ⟨#[]⟩, Nat.zero_le _, rfl, rfl, Nat.le_refl _, rfl⟩
              case round =>
                obtain ⟨k, b, hk, rfl, rfl, hb, hd⟩ := hrel
                by_cases hlt2 : k < t.size
                · have hz : (k : Int) + 1 ≤ t.size := by omega
                  have hz1 : (k : Int) ≤ k + 1 := by omega
                  have hz2 : b.size + 1 ≤ 9223372036854775807 := by omega
                  have Hp := Lib.hid (HD2.out k hlt2).1
                  go_wp2_with (go_at_call 18; refine (isDigit_at _ _ _ Hp).mono ?_; rintro e w' ⟨rfl, rfl⟩)
                  go_round
                  case rel =>
                    refine ⟨k + 1, _, by omega, by go_num, rfl, ?_, ?_⟩
                    · simp; omega
                    · show L (b ++ t.extract k (k + 1)) = _
                      rw [take_snoc_L t k hlt2, L_append, hd.out, L_extract1 t k hlt2]
                  case measure => simp [intOf]; omega
                · obtain rfl : k = t.size := by omega
                  obtain rfl : b = t := by
                    have := hd.out
                    rw [← L_length, List.take_length] at this
                    rw [← S_L b, this, S_L]
                  clear hd
                  obtain ⟨c0, c1, c2, c3⟩ := I4.out.bx.cells
                  go_wp2_with fail
                  refine (HG.out _ I4.out.rd).mono ?_
                  rintro r w5 ⟨rfl, hb5⟩
                  have I5 := Lib.hid (I4.out.step hb5)
                  clear hb5 c0 c1 c2 c3
                  obtain ⟨c0, c1, c2, c3⟩ := I5.out.bx.cells
                  go_wp2_with fail
                  refine (HOB.out _).mono ?_
                  rintro r w6 ⟨rfl, rfl⟩
                  go_wp2_with fail
                  refine (HOT.out _).mono ?_
                  rintro r w6 ⟨rfl, rfl⟩
                  go_wp2_with fail
                  refine (HBE.out _).mono ?_
                  rintro r w6 ⟨rfl, rfl⟩
                  go_wp2_with fail
                  go_ret
                  exact ⟨rfl, I5.out.b⟩
        · rw [decB, decide_eq_false hlt, Bool.false_or, Bool.and_eq_true, decide_eq_true_eq] at hdec
          obtain ⟨d1, d2⟩ := hdec
          have hlt2 : lead (L t) < t.size := by rw [L_length] at hlt; omega
          have hsp := split_at (L t) d1
          rw [locL, if_neg hlt, if_pos ⟨d1, d2⟩] at hbb
          obtain ⟨ld, hldd⟩ : ∃ ld, lead (L t) = ld := ⟨_, rfl⟩
          have hla := lead_take (L t)
          rw [hldd] at hbb hwh hgx hld hwl hgl5 hgf HD d1 d2 hlt2 hsp hla hlt
          have hbL : L bb = L gx ++ L p ++ (L t).drop (ld + 1) := by rw [← hbb, ← hgx]; simp [L_S]
          obtain ⟨G, hG⟩ : ∃ G, gx ++ p = G := ⟨_, rfl⟩
          have hGL : L G = L gx ++ L p := by rw [← hG, L_append]
          have hGs : G.size = gx.size + p.size := by rw [← L_length, hGL, List.length_append, L_length, L_length]
          have hbs : bb.size = G.size + (t.size - (ld + 1)) := by
            rw [← L_length, hbL, ← hGL, List.length_append, L_length, List.length_drop, L_length]
          have hms : bb.size ≤ maxLen := by unfold maxLen; omega
          have hmG : G.size ≤ maxLen := by unfold maxLen; omega
          have HOB : Hid (∀ w, Calls Try.prog 17 #[.string bb] w fun e w' => e = .returned (.string ob) ∧ w = w') := Lib.hid (fun w => only_at bb w hms ob (Lib.hid (by
            rw [← hob, L_S, hbL, List.filter_append, List.filter_append, hgf, filter_sep (L p) hpd]
            conv => rhs; rw [hsp]
            rw [List.filter_append, List.filter_append]
            have ht1 : ((L t).take ld).filter dg = (L t).take ld := filter_dg _ hla
            rw [ht1]
            simp [show dg 46 = false from rfl])))
          have HBE : Hid (∀ w, Calls Try.prog 19 #[.string bb, .string G] w fun e w' => e = .returned (.bool true) ∧ w = w') := Lib.hid (fun w => begins_lat bb G w hms hmG true (Lib.hid (by rw [hbL, ← hGL]; exact pre_append _ _)))
          have HF : Hid (∀ j (h : j < t.size), ld < j → digB (t[j].toNat : Int) = true ∧ ((t[j].toNat : Int) == 46) = false) := Lib.hid (fun j h hj => by
            have h1 : dg t[j] = true := by
              refine List.all_eq_true.1 d2 _ (List.mem_of_getElem? (i := j - (ld + 1)) ?_)
              rw [List.getElem?_drop, show ld + 1 + (j - (ld + 1)) = j by omega]; exact L_get t j h
            exact ⟨h1, not_point _ h1⟩)
          have HP : Hid (∀ h : ld < t.size, t[ld] = 46) := Lib.hid (fun h => by
            have := L_get t ld h
            rw [d1] at this; injection this with this; exact this.symm)
          have hps : p.size ≤ 4 := hpl
          have hcat : ¬ (9223372036854775807 < gx.size + p.size) := by omega
          have hend : ((bb.size : Int) == (G.size : Int) + t.size - wh.size - 1) = true := beq_iff_eq.2 (by omega)
          have HWL := Lib.hid hwl
          have HWH := Lib.hid hwh
          have hgs : gx.size ≤ 2000 := by omega
          have hGsz : G.size ≤ 2010 := by omega
          have hbsz : bb.size ≤ 3000 := by omega
          have hwz : wh.size ≤ 400 := by omega
          unfold maxLen at ht
          clear hB hB1 hok hp hs hg hwsz hgr hgl5 hgf hbb hgx hob hld hpl hsl hgl hgp hsd hpd hlt hwl hms hmG d1 d2 hsp hldd hbL hGL hGs hbs hwh hla
          go_enter Try.func6, Try.ntmps6
          go_wp2_with fail
          refine (awake_calls _).mono ?_
          rintro r w1 ⟨rfl, hb1⟩
          have I1 := Lib.hid (HI.out.step hb1)
          clear hb1 c0 c1 c2 c3
          go_wp2_with fail
          refine (plain_prog _).mono ?_
          rintro r w2 ⟨rfl, hb2⟩
          have I2 := Lib.hid (I1.out.step hb2)
          clear hb2
          go_wp2_with fail
          refine (HL.out _).mono ?_
          rintro r w3 ⟨rfl, hb3⟩
          have I3 := Lib.hid (I2.out.step hb3)
          clear hb3
          obtain ⟨c0, c1, c2, c3⟩ := I3.out.bx.cells
          go_wp2_with fail
          refine (HB.out _ I3.out.rd).mono ?_
          rintro r w4 ⟨rfl, hb4⟩
          have I4 := Lib.hid (I3.out.step hb4)
          clear hb4 c0 c1 c2 c3
          go_wp2_with fail
          go_loop [10, 11] (fun v10 v11 => ∃ (k : Nat) (pt : Int), k ≤ t.size ∧ v11 = .int .i64 k ∧ v10 = .int .i64 pt ∧ Hid (pt = if ld < k then 1 else 0)) (fun v10 v11 => t.size - (intOf v11).toNat)
          case atStart => exact ⟨0, 0, Nat.zero_le _, rfl, rfl, Lib.hid (by rw [if_neg (by omega)])⟩
          case round =>
            obtain ⟨k, pt, hk, rfl, rfl, hpt⟩ := hrel
            by_cases hlt : k < t.size
            · by_cases hkl : k = ld
              · subst hkl
                have hnp : ((t[k].toNat : Int) == 46) = true := by rw [HP.out hlt]; rfl
                go_wp2
                go_round
                case rel => exact ⟨k + 1, 1, by omega, by go_num, rfl, Lib.hid (by rw [if_pos (by omega)])⟩
                case measure => simp [intOf]; omega
              · have hnp : ((t[k].toNat : Int) == 46) = false := by
                  rcases Nat.lt_or_ge k ld with h | h
                  · exact (HD.out k hlt h).2
                  · exact (HF.out k hlt (by omega)).2
                go_wp2
                go_round
                case rel => exact ⟨k + 1, pt, by omega, by go_num, rfl, Lib.hid (by
                  rw [hpt.out]
                  rcases Nat.lt_or_ge k ld with h | h
                  · rw [if_neg (by omega), if_neg (by omega)]
                  · rw [if_pos (by omega), if_pos (by omega)])⟩
                case measure => simp [intOf]; omega
            · obtain rfl : k = t.size := by omega
              obtain rfl : pt = 1 := by rw [hpt.out, if_pos hlt2]
              clear hpt
              go_wp2_with fail
              go_loop [12, 13] (fun v12 v13 => ∃ (k : Nat) (b : ByteArray), k ≤ ld ∧ v13 = .int .i64 k ∧ v12 = .string b ∧ b.size ≤ k ∧ Hid (L b = (L t).take k)) (fun v12 v13 => ld - (intOf v13).toNat)
              case atStart => exact ⟨0, ⟨#[]⟩, Nat.zero_le _, rfl, rfl, Nat.le_refl _, rfl⟩
              case round =>
                obtain ⟨k, b, hk, rfl, rfl, hb, hd⟩ := hrel
                have hkt : k < t.size := by omega
                by_cases hlt3 : k < ld
                · have hz : (k : Int) + 1 ≤ t.size := by omega
                  have hz1 : (k : Int) ≤ k + 1 := by omega
                  have hz2 : b.size + 1 ≤ 9223372036854775807 := by omega
                  have Hp := Lib.hid (HD.out k hkt hlt3).1
                  go_wp2_with (go_at_call 18; refine (isDigit_at _ _ _ Hp).mono ?_; rintro e w' ⟨rfl, rfl⟩)
                  go_round
                  case rel =>
                    refine ⟨k + 1, _, by omega, by go_num, rfl, ?_, ?_⟩
                    · simp; omega
                    · show L (b ++ t.extract k (k + 1)) = _
                      rw [take_snoc_L t k hkt, L_append, hd.out, L_extract1 t k hkt]
                  case measure => simp [intOf]; omega
                · obtain rfl : k = ld := by omega
                  obtain rfl : b = wh := by rw [← HWH.out, ← hd.out, S_L]
                  have Hp : Hid (digB (t[k].toNat : Int) = false) := Lib.hid (by rw [HP.out hkt]; rfl)
                  clear hd
                  obtain ⟨c0, c1, c2, c3⟩ := I4.out.bx.cells
                  go_wp2_with fail
                  refine (isDigit_at _ _ _ Hp).mono ?_
                  rintro r w6 ⟨rfl, rfl⟩
                  go_wp2_with fail
                  refine (HG.out _ I4.out.rd).mono ?_
                  rintro r w5 ⟨rfl, hb5⟩
                  have I5 := Lib.hid (I4.out.step hb5)
                  clear hb5 c0 c1 c2 c3
                  obtain ⟨c0, c1, c2, c3⟩ := I5.out.bx.cells
                  go_wp2_with fail
                  refine (HOB.out _).mono ?_
                  rintro r w6 ⟨rfl, rfl⟩
                  go_wp2_with fail
                  refine (HOT.out _).mono ?_
                  rintro r w6 ⟨rfl, rfl⟩
                  go_wp2_with fail
                  refine (HBE.out _).mono ?_
                  rintro r w6 ⟨rfl, rfl⟩
                  go_wp2_with fail
                  go_ret
                  exact ⟨rfl, I5.out.b⟩
end Go.Proofs.Ytkdnlmnjhlogmaa
