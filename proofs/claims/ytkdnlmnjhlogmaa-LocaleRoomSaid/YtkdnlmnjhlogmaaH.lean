/- The iterator over the sizes of groups. -/
import Derived.Test.YtkdnlmnjhlogmaaG
import Derived.RangeFuncNested
import Derived.RangeFuncBound
import Derived.RangeFuncCalls
import Derived.RangeFuncLeaves
import Derived.Shelf.Abstract
import Derived.Shelf.RegionOpen
import Derived.OwnWalkIn
import Derived.TacticsInMore
import Derived.LoopNIn
import Derived.LoopIn
namespace Go.Proofs.Ytkdnlmnjhlogmaa
open Go.RowKit Go.Shelf
attribute [local go_sem] Oper.semAt_some
set_option linter.unusedSimpArgs false
set_option linter.unusedVariables false

/-- The size with a number, from the point on; 0 for one that has all digits that are left. -/
def szN (g : List Int) (i : Nat) : Int := g.getD (min i (g.length - 1)) 0
def sz (one : Bool) (g : List Int) (i : Nat) : Int := if one then 0 else if szN g i = 127 then 0 else szN g i

set_option maxHeartbeats 4000000 in
theorem sizes1_seq (n : Nat) (hn : 2 ≤ n) (p s : ByteArray) (A : Option Addr) (c : Nat) (g : List Int) (e : Int) (l b : Nat) (hg : g.length ≤ maxLen) (one : Bool) (hone : one = ((L s).isEmpty || g.isEmpty))
    (J Jx : Nat → World → Prop) (hbox : ∀ k W, J k W → Box W b p s A c g e ∧ Rd .i64 W A g) (N : Nat) (hN : N ≤ maxLen)
    (hY : ∀ k W1, J k W1 → k < N → YieldAt Fence.wide (n - 1) Try.prog l #[.int .i64 (sz one g k)] W1 fun r W' =>
      (r = .returned (.bool true) ∧ k + 1 < N ∧ J (k + 1) W') ∨ (r = .returned (.bool false) ∧ Jx (k + 1) W'))
    (W : World) (h0 : J 0 W) (h0N : 0 < N) :
    CallsIn Fence.wide n Try.prog 60 #[.func (.yield l) #[] #[], .pointer (some ⟨b, 0, none⟩)] W fun r W' => (∃ v, r = .returned v) ∧
      ((∃ k, sz one g k = 0 ∧ J (k + 1) W') ∨ (∃ k, Jx k W')) := by
  unfold maxLen at hg hN
  obtain ⟨bx, rd⟩ := hbox 0 W h0
  obtain ⟨c0, c1, c2, c3⟩ := bx.cells
  clear bx
  have HN := Lib.hid h0N
  refine callsIn_of_wp Try.func60 rfl trivial ?_ rfl
  simp only [Try.ntmps60, List.size_toArray, List.length_cons, List.length_nil, Nat.reduceAdd, Nat.reduceSub, Array.replicate_succ, Array.replicate_zero, List.push_toArray, List.append_toArray, List.nil_append, List.cons_append]
  cases hs : (L s).isEmpty
  · have hs1 : s.toList.isEmpty = false := by rw [toList_L]; exact hs
    by_cases hge : g = []
    · subst hge
      have ho : one = true := by rw [hone]; simp
      subst ho
      have hy := hY 0 W h0 h0N
      clear hY hone hs
      obtain ⟨fn, tmps, assign, body, hy, hR⟩ := hy
      simp only [sz, if_true] at hy
      gi_wp2
      refine ⟨fun _ => by omega, hR.mono ?_⟩
      rintro r W' (⟨rfl, _, hj⟩ | ⟨rfl, hj⟩)
      all_goals
        gi_wp2
        refine bodyPost_ret (results_none rfl _ _ _) rfl ?_
      · exact ⟨⟨_, rfl⟩, .inl ⟨0, rfl, hj⟩⟩
      · exact ⟨⟨_, rfl⟩, .inr ⟨1, hj⟩⟩
    · have ho : one = false := by rw [hone, hs]; simp [hge]
      subst ho
      have hl0 : 0 < g.length := List.length_pos_iff.2 hge
      have hl1 : ((g.length : Int) == 0) = false := by rw [beq_eq_false_iff_ne]; omega
      clear hs hone c0 c1 c2 c3 rd hge
      have HY := Lib.hid hY
      have HB := Lib.hid hbox
      clear hY hbox
      have bx := (HB.out 0 W h0).1
      obtain ⟨c0, c1, c2, c3⟩ := bx.cells
      gi_wp2
      gi_loopw [3] (fun i wr => ∃ k : Nat, i = .int .i64 k ∧ k < N ∧ J k wr) (fun i _ => N - (intOf i).toNat)
      case atStart => exact ⟨0, rfl, HN.out, h0⟩
      case round =>
        obtain ⟨k, rfl, hk, hj⟩ := hrel
        obtain ⟨bx, rd⟩ := HB.out k wr hj
        clear c0 c1 c2 c3
        obtain ⟨c0, c1, c2, c3⟩ := bx.cells
        obtain ⟨ba, o, rfl, hc⟩ := rd (List.length_pos_iff.1 hl0)
        have hx : ∃ x, g[min k (g.length - 1)]? = some x := ⟨g[min k (g.length - 1)]'(by omega), List.getElem?_eq_getElem _⟩
        obtain ⟨x, hx⟩ := hx
        have hz : szN g k = x := by rw [szN, List.getD_eq_getElem?_getD, hx]; rfl
        have HZ := Lib.hid hz
        have hck := hc _ x hx
        obtain ⟨m, hm, hdec⟩ : ∃ m : Nat, min k (g.length - 1) = m ∧ (((g.length : Int) - 1 < k ∧ m = g.length - 1) ∨ (¬ ((g.length : Int) - 1 < k) ∧ m = k)) := ⟨_, rfl, by omega⟩
        rw [hm] at hck
        clear hz hc hx hm
        have fin0 : x = 127 → sz false g k = 0 := fun h => by rw [sz, HZ.out, h]; rfl
        have fin1 : x ≠ 127 → sz false g k = x := fun h => by rw [sz, HZ.out]; simp [h]
        have Fin0 := Lib.hid fin0
        have Fin1 := Lib.hid fin1
        clear fin0 fin1
        cases hx127 : (x == 127)
        · have hy := HY.out k wr hj hk
          rw [Fin1.out (by simpa using hx127)] at hy
          obtain ⟨fn, tmps, assign, body, hy, hR⟩ := hy
          rcases hdec with ⟨hd1, rfl⟩ | ⟨hd1, rfl⟩
          all_goals
            gi_wp2
            refine ⟨fun _ => by omega, hR.mono ?_⟩
            rintro r W' (⟨rfl, hk', hj'⟩ | ⟨rfl, hj'⟩)
            · gi_wp2
              go_roundw
              case rel => exact ⟨_, by go_num, hk', hj'⟩
              case measure => simp [intOf]; omega
            · gi_wp2
              refine bodyPost_ret (results_none rfl _ _ _) rfl ?_
              exact ⟨⟨_, rfl⟩, .inr ⟨_, hj'⟩⟩
        · have hy := HY.out k wr hj hk
          have Hz0 := Lib.hid (Fin0.out (by simpa using hx127))
          rw [Hz0.out] at hy
          obtain ⟨fn, tmps, assign, body, hy, hR⟩ := hy
          rcases hdec with ⟨hd1, rfl⟩ | ⟨hd1, rfl⟩
          all_goals
            gi_wp2
            refine ⟨fun _ => by omega, hR.mono ?_⟩
            rintro r W' (⟨rfl, hk', hj'⟩ | ⟨rfl, hj'⟩)
            all_goals
              gi_wp2
              refine bodyPost_ret (results_none rfl _ _ _) rfl ?_
            · exact ⟨⟨_, rfl⟩, .inl ⟨_, Hz0.out, hj'⟩⟩
            · exact ⟨⟨_, rfl⟩, .inr ⟨_, hj'⟩⟩
  · have hs1 : s.toList.isEmpty = true := by rw [toList_L]; exact hs
    have ho : one = true := by rw [hone, hs]; rfl
    subst ho
    have hy := hY 0 W h0 h0N
    clear hY hone hs
    obtain ⟨fn, tmps, assign, body, hy, hR⟩ := hy
    simp only [sz, if_true] at hy
    gi_wp2
    refine ⟨fun _ => by omega, hR.mono ?_⟩
    rintro r W' (⟨rfl, _, hj⟩ | ⟨rfl, hj⟩)
    all_goals
      gi_wp2
      refine bodyPost_ret (results_none rfl _ _ _) rfl ?_
    · exact ⟨⟨_, rfl⟩, .inl ⟨0, rfl, hj⟩⟩
    · exact ⟨⟨_, rfl⟩, .inr ⟨1, hj⟩⟩
end Go.Proofs.Ytkdnlmnjhlogmaa
