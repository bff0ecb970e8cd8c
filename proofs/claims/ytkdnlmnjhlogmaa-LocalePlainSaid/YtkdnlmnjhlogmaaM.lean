/- The groups of digits, by the reference. -/
import Derived.Test.YtkdnlmnjhlogmaaK
namespace Go.Proofs.Ytkdnlmnjhlogmaa
open Go.RowKit
set_option linter.unusedSimpArgs false
set_option linter.unusedVariables false

/-- How many digits the next group has. -/
def nxt (f : Nat → Int) (m : Int) (k : Nat) : Int := if f k = 0 ∨ m < f k then m else f k
theorem stp_succ (f : Nat → Int) (n : Int) (k : Nat) (h : (stp f n k).1 ≠ 0) : stp f n (k + 1) = ((stp f n k).1 - nxt f (stp f n k).1 k, (stp f n k).2 ++ [nxt f (stp f n k).1 k]) := by
  simp only [stp, if_neg h, nxt]
  split <;> simp

set_option maxHeartbeats 1000000 in
theorem size_ref (p s : ByteArray) (A : Option Addr) (c : Nat) (g : List Int) (e m : Int) (k : Nat) (w : World) (hg : g.length ≤ maxLen) (hg0 : g ≠ []) (hk : k ≤ maxLen) (hR : Rd .i64 w A g) (hm : 0 ≤ m) (hpos : ∀ k, 1 ≤ szN g k) :
    Calls Try.prog 61 #[Loc p s A c g e, .int .i64 k, .int .i64 m] w fun r w' => r = .returned (.int .i64 (nxt (sz false g) m k)) ∧ Below w.heap.size w w' := by
  have hI := InBox.new w p s A c g e hR
  unfold maxLen at hg hk
  have hl0 : 0 < g.length := List.length_pos_iff.2 hg0
  obtain ⟨ba, o, rfl, hc⟩ := hR hg0
  obtain ⟨c0, c1, c2, c3⟩ := hI.bx.cells
  have HI := Lib.hid hI
  have hx : ∃ x, g[min k (g.length - 1)]? = some x := ⟨g[min k (g.length - 1)]'(by omega), List.getElem?_eq_getElem _⟩
  obtain ⟨x, hx⟩ := hx
  have hz : szN g k = x := by rw [szN, List.getD_eq_getElem?_getD, hx]; rfl
  have hx1 := hpos k
  rw [hz] at hx1
  have hck := hc _ x hx
  have hbl := World.block_lt_of_cell? _ _ hck
  have hck' : w.cell? ⟨ba, o + (min (k : Int) ((g.length : Int) - 1)).toNat, none⟩ = some (.int .i64 x) := by
    rw [show (min (k : Int) ((g.length : Int) - 1)).toNat = min k (g.length - 1) by omega]; exact hck
  obtain ⟨R, hRr⟩ : ∃ R, nxt (sz false g) m k = R := ⟨_, rfl⟩
  have hfin : R = if x = 127 ∨ m < x then m else x := by
    rw [← hRr, nxt, sz, hz]
    by_cases h : x = 127
    · simp [h]
    · have : x ≠ 0 := by omega
      simp [h, this]
  rw [hRr]
  have Hfin := Lib.hid hfin
  clear hfin hRr hz hx hc hI hR hpos hck
  have hm0 : 0 ≤ min (k : Int) ((g.length : Int) - 1) := by omega
  have hm1 : min (k : Int) ((g.length : Int) - 1) < g.length := by omega
  cases hx127 : (x == 127)
  · have hne : x ≠ 127 := by simpa using hx127
    have Hne := Lib.hid hne
    clear hne
    by_cases hlt : m < x
    all_goals
      go_enter Try.func61, Try.ntmps61
      go_wp2
      go_ret
      refine ⟨ret_int ?_, HI.out.b⟩
      rw [Hfin.out]
      have := Hne.out
      (repeat' split) <;> omega
  · have hne : x = 127 := by simpa using hx127
    have Hne := Lib.hid hne
    clear hne
    go_enter Try.func61, Try.ntmps61
    go_wp2
    go_ret
    refine ⟨ret_int ?_, HI.out.b⟩
    rw [Hfin.out]
    have := Hne.out
    (repeat' split) <;> omega

theorem grp_zero (f : Nat → Int) : grp f 0 = [] := rfl
theorem grp_one (f : Nat → Int) (hf : ∀ k, f k = 0) (n : Int) (hn : 0 < n) : grp f n = [n] := by
  have h0 : (stp f n 1).1 = 0 := stp_zero f n 0 (hf 0)
  rw [← grp_of f (fun k => by rw [hf k]; exact Int.le_refl _) n (by omega) 1 h0]
  have : (stp f n 0).1 ≠ 0 := by simp [stp]; omega
  rw [stp_succ f n 0 this]
  simp [stp, nxt, hf]

theorem rd_alloc_one (w : World) (b : Nat) (hb : b = w.heap.size) (n : Int) : Rd .i64 (w.alloc (.cells #[.int .i64 n] 3)) (some ⟨b, 0, none⟩) [n] := by
  subst hb
  intro _
  refine ⟨_, 0, rfl, fun j x hx => ?_⟩
  cases j with
  | zero => simp at hx; subst hx; simp
  | succ j => simp at hx

set_option maxHeartbeats 8000000 in
theorem groups_ref (p s : ByteArray) (A : Option Addr) (c : Nat) (g : List Int) (e n : Int) (w : World) (hg : g.length ≤ maxLen) (hR : Rd .i64 w A g) (one : Bool) (hone : one = ((L s).isEmpty || g.isEmpty))
    (hpos : g ≠ [] → ∀ k, 1 ≤ szN g k) (hn : 0 ≤ n) (hn' : n ≤ 1000000) :
    Calls Try.prog 47 #[Loc p s A c g e, .int .i64 n] w fun r w' => ∃ v, r = .returned v ∧ Out w' v (grp (sz one g) n) ∧ Below w.heap.size w w' := by
  have hI := InBox.new w p s A c g e hR
  obtain ⟨c0, c1, c2, c3⟩ := hI.bx.cells
  have HI := Lib.hid hI
  have Hg := Lib.hid hg
  have HR := Lib.hid hR
  clear hI hg hR
  by_cases hn0 : n = 0
  · have hb0 : (n == 0) = true := beq_iff_eq.2 hn0
    rw [hn0, grp_zero]
    have HN := Lib.hid hn0
    clear hn0 hpos hone
    go_enter Try.func47, Try.ntmps47
    go_wp2
    go_ret
    exact ⟨_, rfl, ⟨none, 0, rfl, fun h => absurd rfl h, by simp⟩, HI.out.b⟩
  · have hb0 : (n == 0) = false := beq_eq_false_iff_ne.2 hn0
    cases ho : one
    · -- groups
      have hge : g ≠ [] := fun h => by rw [ho, h] at hone; simp at hone
      have hse : (L s).isEmpty = false := by rw [ho] at hone; cases h : (L s).isEmpty <;> simp [h] at hone ⊢
      have hs1 : s.toList.isEmpty = false := by rw [toList_L]; exact hse
      have hl0 : ((g.length : Int) == 0) = false := by
        have := List.length_pos_iff.2 hge
        rw [beq_eq_false_iff_ne]; omega
      have hp := hpos hge
      obtain ⟨f, hff⟩ : ∃ f, sz false g = f := ⟨_, rfl⟩
      rw [hff]
      have hf : ∀ k, 0 ≤ f k := fun k => by
        rw [← hff]; have := hp k; simp only [sz, Bool.false_eq_true, if_false]; split <;> omega
      have Hp := Lib.hid hp
      have Hge := Lib.hid hge
      have Hf := Lib.hid hf
      have Hff := Lib.hid hff
      have HN := Lib.hid hn0
      clear hp hge hse hone ho hpos hf hff hn0
      obtain ⟨i0, hi, hz0, hz1, hz2⟩ := info_parts info3
      go_enter Try.func47, Try.ntmps47
      go_wp2
      go_loopw [1, 5] (fun vn vb wr => ∃ (k : Nat) (ao : Option Addr) (cap : Nat), vn = .int .i64 (stp f n k).1 ∧ vb = .slice ao k cap ∧ (stp f n k).2.length = k ∧ wr.ownsRow (w.heap.size + 1) 3 1 (.slice ao k cap) k ((stp f n k).2.map (.int .i64)) ∧ Hid (InBox w wr w.heap.size p s A c g e) ∧ w.heap.size + 1 ≤ wr.heap.size) (fun vn vb wr => (intOf vn).toNat)
      case atStart => exact ⟨0, none, 0, rfl, rfl, rfl, World.ownsRow_nil _ _ _ _, HI, by simp⟩
      case round =>
        obtain ⟨k, ao, cap, rfl, rfl, hk, hrow, HI2, hsz⟩ := hrel
        clear c0 c1 c2 c3
        obtain ⟨hl0', hl1'⟩ := stp_left f Hf.out n hn k
        have hlen := stp_len f n k
        obtain ⟨c0, c1, c2, c3⟩ := HI2.out.bx.cells
        obtain ⟨m, hm⟩ : ∃ m, (stp f n k).1 = m := ⟨_, rfl⟩
        have hnx : (stp f n k).1 ≠ 0 → (stp f n (k + 1)).1 = m - nxt f m k ∧ (stp f n (k + 1)).2 = (stp f n k).2 ++ [nxt f m k] := fun h => by rw [stp_succ f n k h, hm]; exact ⟨rfl, rfl⟩
        have hy : m ≠ 0 → 1 ≤ nxt f m k ∧ nxt f m k ≤ m := fun h => by
          have := Hf.out k
          rw [hm] at hl0'
          unfold nxt; split <;> omega
        obtain ⟨xs, hxs⟩ : ∃ xs, (stp f n k).2 = xs := ⟨_, rfl⟩
        rw [hm] at hl0' hl1' hnx ⊢
        rw [hxs] at hrow hnx hlen hk
        obtain ⟨y, hyy⟩ : ∃ y, nxt f m k = y := ⟨_, rfl⟩
        rw [hyy] at hnx hy
        have Hyy := Lib.hid hyy
        have Hm := Lib.hid hm
        have Hxs := Lib.hid hxs
        have Hk := Lib.hid hk
        have Hrow := Lib.hid hrow
        clear hrow hyy hm hxs hk
        by_cases hm0 : 0 < m
        · have Hnx := Lib.hid (hnx (by omega))
          obtain ⟨hy1, hy2⟩ := hy (by omega)
          have hkk : (k : Int) ≤ n := by omega
          have hmn : (k : Int) + m ≤ n := by omega
          clear hnx hy hl1'
          have hsr := size_ref p s A c g e m k wr Hg.out Hge.out (by unfold maxLen; omega) HI2.out.rd (by omega) Hp.out
          rw [Hff.out, Hyy.out] at hsr
          have Hsr := Lib.hid hsr
          clear hsr
          go_wp2_with fail
          refine Hsr.out.mono ?_
          rintro r w1 ⟨rfl, hb1⟩
          have HI3 := Lib.hid (HI2.out.step hb1)
          have Hr1 := Lib.hid (Hrow.out.kept (w' := w1) (row := none) ⟨hb1.os, hb1.tape, hb1.output, hb1.size, fun i hi _ => hb1.block i hi⟩ (by cases Value.ownBlock (.slice ao k cap) <;> simp))
          have hs1' := hb1.size
          clear hb1
          go_wp2_with (at_builtin; refine wpList_append_own _ rfl _ _ 22 rfl (w.heap.size + 1) 3 i0 (.int .i64 0) 1 8 Try.underlying22 hi hz0 hz1 hz2 rfl (by decide) _ _ _ rfl (Hr1.out.alloc _) ⟨w1.heap.size, 0, none⟩ 1 1 [.int .i64 y] rfl rfl (cell_one_new _ _ _) (by simp [Value.oneCell']) (by unfold maxLen; omega) (by omega) (by simp; omega) ?_; intro v' w2 hown' hgrow _; have Hg' := Lib.hid (show (w1.alloc (.cells #[.int .i64 y] 3)).grownBy w2 (Value.slice ao k cap).ownBlock from hgrow); clear hgrow; obtain ⟨g', cap', rfl⟩ := ownsRow_succ hown'; have Ho := Lib.hid hown'; clear hown')
          go_roundw
          case rel =>
            refine ⟨k + 1, _, _, by rw [Hnx.out.1], rfl, ?_, ?_, ?_, ?_⟩
            · rw [Hnx.out.2]; simp [Hk.out]
            · rw [Hnx.out.2]; simpa using Ho.out
            · have hbb := ((Below.refl w1.heap.size w1).alloc (Nat.le_refl _) (.cells #[.int .i64 y] 3))
              have hq : ∀ j, j < w.heap.size + 1 → w2.heap[j]? = w1.heap[j]? := fun j hj => (Hg'.out.block j (by simp; omega) (fun e => by have := own_ge Hr1.out j e.symm; omega)).trans (Below.heap_alloc _ _ _ (by omega))
              have hB2 : Below (w.heap.size + 1) w1 w2 := ⟨Hg'.out.os, Hg'.out.tape, Hg'.out.output, by have := Hg'.out.size; simp at this; omega, hq⟩
              have hI3 := HI3.out
              have hbl := hI3.b.trans (hB2.mono (by omega))
              refine ⟨hI3.bx.below hB2 (by omega), ?_, hbl⟩
              exact HR.out.below hbl
            · have := Hg'.out.size; simp at this; omega
          case measure => simp [intOf]; omega
        · have hm00 : m = 0 := by omega
          have hs0 : (stp f n k).1 = 0 := by rw [Hm.out]; exact hm00
          have hgrp := grp_of f Hf.out n hn k hs0
          rw [Hxs.out] at hgrp
          have Hgrp := Lib.hid hgrp
          have hkk : k ≤ 1000000 := by
            have e1 : xs.length = (grp f n).length := by rw [← hgrp, List.length_reverse]
            have e2 : (grp f n).length ≤ n.toNat := by rw [grp, List.length_reverse]; exact stp_len f n _
            have := Hk.out
            omega
          clear hgrp hs0 hm00 hnx hy hl1' hlen c0 c1 c2 c3
          have hout := Out.of_row (w := wr) (base := w.heap.size + 1) (v := .slice ao k cap) (xs := xs) (by have := Hrow.out; rw [← Hk.out] at this ⊢; exact this)
          have hrd : Rd .i64 wr ao xs := by obtain ⟨A', c', h1, h2, _⟩ := hout; cases h1; exact h2
          have Hrd := Lib.hid hrd
          clear hout hrd
          obtain ⟨wo, rfl⟩ : ∃ wo : World, wo = wr := ⟨_, rfl⟩
          go_wp2
          go_loopw [7, 8] (fun vo vi wq => ∃ (j : Nat) (ao2 : Option Addr) (cap2 : Nat), j ≤ k ∧ vi = .int .i64 ((k : Int) - 1 - j) ∧ vo = .slice ao2 j cap2 ∧ wq.ownsRow wo.heap.size 3 1 (.slice ao2 j cap2) j ((xs.reverse.take j).map (.int .i64)) ∧ Hid (Below wo.heap.size wo wq) ∧ wo.heap.size ≤ wq.heap.size) (fun vo vi wq => (intOf vi + 1).toNat)
          case atStart => exact ⟨0, none, 0, Nat.zero_le _, by simp, rfl, World.ownsRow_nil _ _ _ _, Below.refl _ _, Nat.le_refl _⟩
          case round =>
            obtain ⟨j, ao2, cap2, hjk, rfl, rfl, hrow2, Hb, hsz2⟩ := hrel
            have Hrow2 := Lib.hid hrow2
            clear hrow2
            by_cases hj : j < k
            · obtain ⟨bb, oo, rfl, hcb⟩ := Hrd.out (fun e => by have := Hk.out; rw [e] at this; simp at this; omega)
              have hjx : ∃ x, xs[k - 1 - j]? = some x := ⟨xs[k - 1 - j]'(by have := Hk.out; omega), List.getElem?_eq_getElem _⟩
              obtain ⟨x, hx⟩ := hjx
              have hcx := hcb _ x hx
              have hcx2 := (Hb.out.cell (World.block_lt_of_cell? _ _ hcx)).trans hcx
              have hix : ((k : Int) - 1 - j).toNat = k - 1 - j := by omega
              have hcx3 : wr.cell? ⟨bb, oo + ((k : Int) - 1 - j).toNat, none⟩ = some (.int .i64 x) := by rw [hix]; exact hcx2
              have hrev : xs.reverse.take (j + 1) = xs.reverse.take j ++ [x] := by
                rw [List.take_add_one, List.getElem?_reverse (by have := Hk.out; omega), Hk.out, hx]; rfl
              have Hrev := Lib.hid hrev
              clear hx hcx hix hcb hrev
              have hi0 : (0 : Int) ≤ (k : Int) - 1 - j := by omega
              have hi1 : (k : Int) - 1 - j < k := by omega
              go_wp2_with (at_builtin; refine wpList_append_own _ rfl _ _ 22 rfl wo.heap.size 3 i0 (.int .i64 0) 1 8 Try.underlying22 hi hz0 hz1 hz2 rfl (by decide) _ _ _ rfl (Hrow2.out.alloc _) ⟨wr.heap.size, 0, none⟩ 1 1 [.int .i64 x] rfl rfl (cell_one_new _ _ _) (by simp [Value.oneCell']) (by unfold maxLen; omega) (by omega) (by simp; omega) ?_; intro v' w2 hown' hgrow _; have Hg' := Lib.hid (show (wr.alloc (.cells #[.int .i64 x] 3)).grownBy w2 (Value.slice ao2 j cap2).ownBlock from hgrow); clear hgrow; obtain ⟨g', cap', rfl⟩ := ownsRow_succ hown'; have Ho := Lib.hid hown'; clear hown')
              go_roundw
              case rel =>
                refine ⟨j + 1, _, _, by omega, ?_, rfl, ?_, ?_, ?_⟩
                · rw [show (k : Int) - 1 - j - 1 = (k : Int) - 1 - ((j + 1 : Nat) : Int) by omega]
                · rw [Hrev.out]; simpa using Ho.out
                · exact (Hb.out.alloc (by omega) _).grown Hg'.out (by simp; omega) (fun i hi => own_ge Hrow2.out i hi)
                · have := Hg'.out.size; simp at this; omega
              case measure => simp [intOf]; omega
            · obtain rfl : j = k := by omega
              go_wp2
              go_ret
              have hl : xs.reverse.length = j := by rw [List.length_reverse]; exact Hk.out
              refine ⟨_, rfl, ?_, HI2.out.b.trans (Hb.out.mono HI2.out.b.size)⟩
              rw [← Hgrp.out]
              refine Out.of_row (base := wo.heap.size) ?_
              have := Hrow2.out
              rw [List.take_of_length_le (by omega)] at this
              rw [hl]; exact this
    · -- one group
      have hf0 : ∀ k, sz true g k = 0 := fun k => rfl
      rw [grp_one _ hf0 n (by omega)]
      have hd : (g = [] ∧ True) ∨ (g ≠ [] ∧ (L s).isEmpty = true) := by
        rw [ho] at hone
        cases g with
        | nil => exact .inl ⟨rfl, trivial⟩
        | cons a g => exact .inr ⟨by simp, by simpa using hone.symm⟩
      clear hone ho hf0 hpos
      rcases hd with ⟨rfl, _⟩ | ⟨hge, hse⟩
      · go_enter Try.func47, Try.ntmps47
        go_wp2
        go_ret
        refine ⟨_, rfl, ⟨_, 1, rfl, rd_alloc_one _ _ (by simp) n, by simp⟩, HI.out.b.alloc HI.out.b.size _⟩
      · have hs1 : s.toList.isEmpty = true := by rw [toList_L]; exact hse
        have hl0 : ((g.length : Int) == 0) = false := by
          have := List.length_pos_iff.2 hge
          rw [beq_eq_false_iff_ne]; omega
        clear hge hse
        go_enter Try.func47, Try.ntmps47
        go_wp2
        go_ret
        refine ⟨_, rfl, ⟨_, 1, rfl, rd_alloc_one _ _ (by simp) n, by simp⟩, HI.out.b.alloc HI.out.b.size _⟩
end Go.Proofs.Ytkdnlmnjhlogmaa
