/- The runs of digits, by the program. -/
import Derived.Test.YtkdnlmnjhlogmaaT
namespace Go.Proofs.Ytkdnlmnjhlogmaa
open Go.RowKit Go.Shelf
set_option linter.unusedSimpArgs false
set_option linter.unusedVariables false

/-- The runs behind the first one. -/
def runsF (sep : List UInt8) : Nat → List UInt8 → List Int
  | 0, _ => []
  | f + 1, r => if !sep.isEmpty && pre sep r && decide (lead (r.drop sep.length) ≠ 0) then (lead (r.drop sep.length) : Int) :: runsF sep f ((r.drop sep.length).drop (lead (r.drop sep.length))) else []
def runsL (sep s : List UInt8) : List Int := (lead s : Int) :: runsF sep s.length (s.drop (lead s))
/-- One step; the fuel is never short. -/
theorem runsF_go (sep r : List UInt8) (f : Nat) (hf : r.length ≤ f) (h1 : sep.isEmpty = false) (h2 : pre sep r = true) (h3 : lead (r.drop sep.length) ≠ 0) :
    runsF sep f r = (lead (r.drop sep.length) : Int) :: runsF sep (f - 1) ((r.drop sep.length).drop (lead (r.drop sep.length))) := by
  cases f with
  | zero =>
    have : r = [] := List.eq_nil_of_length_eq_zero (by omega)
    subst this
    simp [lead] at h3
  | succ f => simp [runsF, h1, h2, h3]
theorem runsF_end (sep r : List UInt8) (f : Nat) (h : sep.isEmpty = true ∨ pre sep r = false ∨ lead (r.drop sep.length) = 0) : runsF sep f r = [] := by
  cases f with
  | zero => rfl
  | succ f => rcases h with h | h | h <;> simp [runsF, h]

set_option maxHeartbeats 4000000 in
theorem runs_calls (p s : ByteArray) (A : Option Addr) (c : Nat) (g : List Int) (e : Int) (t : ByteArray) (w : World) (hs : s.size ≤ 4) (hp : p.size ≤ 4) (hg : g.length ≤ maxLen) (ht : t.size ≤ 30000) (hR : Rd .i64 w A g) :
    Calls Try.prog 39 #[Loc p s A c g e, .string t] w fun r w' => ∃ v, r = .returned v ∧ w'.ownsRow w.heap.size 3 1 v (runsL (L s) (L t)).length ((runsL (L s) (L t)).map (.int .i64)) ∧ Below w.heap.size w w' := by
  have hI := InBox.new w p s A c g e hR
  obtain ⟨c0, c1, c2, c3⟩ := hI.bx.cells
  have hrun0 := fun w => run_calls t w (by unfold maxLen; omega)
  have hld : lead (L t) ≤ t.size := by rw [← L_length]; exact lead_le _
  obtain ⟨r0, hr0⟩ : ∃ r0, lead (L t) = r0 := ⟨_, rfl⟩
  rw [hr0] at hrun0 hld
  have Hrun0 := Lib.hid hrun0
  have Hr0 := Lib.hid hr0
  have HI := Lib.hid hI
  have HR := Lib.hid hR
  clear hrun0 hr0 hI hR
  obtain ⟨i0, hi, hz0, hz1, hz2⟩ := info_parts info3
  go_enter Try.func39, Try.ntmps39
  go_wp2_with fail
  go_step3
  go_wp2_with fail
  refine (Hrun0.out _).mono ?_
  rintro r w1 ⟨rfl, rfl⟩
  go_wp2_with fail
  go_step3
  go_wp2_with fail
  clear c0 c1 c2 c3
  go_loopw [1, 5] (fun v1 vb wr => ∃ (k : Nat) (q : ByteArray) (xs : List Int) (ao : Option Addr) (cap : Nat), v1 = .string q ∧ vb = .slice ao k cap ∧ q.size ≤ t.size ∧ k + q.size ≤ t.size + 1 ∧ xs.length = k ∧
      Hid (∃ F, (L q).length ≤ F ∧ xs ++ runsF (L s) F (L q) = runsL (L s) (L t)) ∧ wr.ownsRow (w.heap.size + 1) 3 1 (.slice ao k cap) k (xs.map (.int .i64)) ∧ Hid (InBox w wr w.heap.size p s A c g e) ∧ w.heap.size + 1 ≤ wr.heap.size) (fun v1 vb wr => (match v1 with | .string q => q.size | _ => 0))
  case atStart =>
    refine ⟨1, _, [(r0 : Int)], _, _, rfl, rfl, ?_, ?_, rfl, ⟨(L t).length, ?_, ?_⟩, ?_, ?_, by simp⟩
    · rw [ByteArray.size_extract]; omega
    · rw [ByteArray.size_extract]; omega
    · rw [L_length, L_length, ByteArray.size_extract]; omega
    · rw [runsL, Hr0.out, L_extract, ← L_length t, List.take_length]; rfl
    · have := World.ownsRow_lit (base := w.heap.size + 1) (e := 3) (size := 1) (w.alloc (.cells #[.string p, .string s, .slice A g.length c, .int .i64 e] 24)) #[.int .i64 (r0 : Int)] 1 (by simp) (by unfold maxLen; omega) rfl
      rw [World.size_alloc] at this
      exact this
    · exact HI.out.step ((Below.refl _ _).alloc (Nat.le_refl _) _)
  case round =>
    obtain ⟨k, q, xs, ao, cap, rfl, rfl, hqt, hkq, hk, Hx, hrow, HI2, hsz⟩ := hrel
    have Hk := Lib.hid hk
    have Hrow := Lib.hid hrow
    clear hrow hk
    obtain ⟨c0, c1, c2, c3⟩ := HI2.out.bx.cells
    obtain ⟨em, hem⟩ : ∃ em, (L s).isEmpty = em := ⟨_, rfl⟩
    have hs1 : s.toList.isEmpty = em := by rw [toList_L]; exact hem
    have Hem := Lib.hid hem
    clear hem
    have fin : runsF (L s) 0 (L q) = [] := rfl
    have stopped : (em = true ∨ pre (L s) (L q) = false ∨ lead ((L q).drop (L s).length) = 0) → ∃ v, (Ending.returned (.slice ao k cap)) = .returned v ∧ wr.ownsRow w.heap.size 3 1 v (runsL (L s) (L t)).length ((runsL (L s) (L t)).map (.int .i64)) ∧ Below w.heap.size w wr := by
      intro h
      obtain ⟨F, _, he⟩ := Hx.out
      rw [runsF_end _ _ _ (by rw [Hem.out]; exact h), List.append_nil] at he
      rw [← he, Hk.out]
      exact ⟨_, rfl, row_weaken Hrow.out (Nat.le_succ _), HI2.out.b⟩
    have Hst := Lib.hid stopped
    clear stopped fin
    cases em
    · have hpr := fun w => hasPrefix q s w (by unfold maxLen; omega) (by unfold maxLen; omega)
      obtain ⟨pr, hpq⟩ : ∃ pr, pre (L s) (L q) = pr := ⟨_, rfl⟩
      rw [hpq] at hpr
      have Hpr := Lib.hid hpr
      have Hpq := Lib.hid hpq
      clear hpr hpq
      cases pr
      · go_wp2_with fail
        refine (Hpr.out _).mono ?_
        rintro r w1 ⟨rfl, rfl⟩
        go_wp2_with fail
        rw [Exit.noGoto_ret]
        go_ret
        exact Hst.out (.inr (.inl Hpq.out))
      · have hsq : s.size ≤ q.size := by
          have := (List.isPrefixOf_iff_prefix.1 Hpq.out).length_le
          rwa [L_length, L_length] at this
        have hs0 : s.size ≠ 0 := fun e => by
          have := Hem.out
          rw [show L s = [] from List.eq_nil_of_length_eq_zero (by rw [L_length]; exact e)] at this
          simp at this
        have Hs0 := Lib.hid hs0
        clear hs0
        obtain ⟨q1, hq1⟩ : ∃ q1, q.extract s.size q.size = q1 := ⟨_, rfl⟩
        have hq1s : q1.size = q.size - s.size := by rw [← hq1, ByteArray.size_extract]; omega
        have hq1L : L q1 = (L q).drop (L s).length := by rw [← hq1, L_extract, ← L_length q, List.take_length, L_length]
        have hrun := fun w => run_calls q1 w (by unfold maxLen; omega)
        have hld : lead (L q1) ≤ q1.size := by rw [← L_length]; exact lead_le _
        obtain ⟨n, hn⟩ : ∃ n, lead (L q1) = n := ⟨_, rfl⟩
        rw [hn] at hrun hld
        have Hrun := Lib.hid hrun
        have Hn := Lib.hid hn
        have Hq1L := Lib.hid hq1L
        clear hrun hn hq1L
        by_cases hn0 : n = 0
        · have hb0 : ((n : Int) == 0) = true := by rw [hn0]; rfl
          go_wp2_with fail
          refine (Hpr.out _).mono ?_
          rintro r w1 ⟨rfl, rfl⟩
          go_wp2_with fail
          refine (Hrun.out _).mono ?_
          rintro r w1 ⟨rfl, rfl⟩
          go_wp2_with fail
          rw [Exit.noGoto_ret]
          go_ret
          exact Hst.out (.inr (.inr (by rw [← Hq1L.out, Hn.out]; exact hn0)))
        · have hb0 : ((n : Int) == 0) = false := by rw [beq_eq_false_iff_ne]; omega
          go_wp2_with fail
          refine (Hpr.out _).mono ?_
          rintro r w1 ⟨rfl, rfl⟩
          go_wp2_with fail
          refine (Hrun.out _).mono ?_
          rintro r w1 ⟨rfl, rfl⟩
          have hkt : k ≤ 30000 := by have := Hs0.out; omega
          go_wp2_with (at_builtin; refine wpList_append_own _ rfl _ _ 22 rfl (w.heap.size + 1) 3 i0 (.int .i64 0) 1 8 Try.underlying22 hi hz0 hz1 hz2 rfl (by decide) _ _ _ rfl (Hrow.out.alloc _) ⟨wr.heap.size, 0, none⟩ 1 1 [.int .i64 n] rfl rfl (cell_one_new _ _ _) (by simp [Value.oneCell']) (by unfold maxLen; omega) (by omega) (by simp; omega) ?_; intro v' w2 hown' hgrow _; have Hg' := Lib.hid (show (wr.alloc (.cells #[.int .i64 n] 3)).grownBy w2 (Value.slice ao k cap).ownBlock from hgrow); clear hgrow; obtain ⟨g', cap', rfl⟩ := ownsRow_succ hown'; have Ho := Lib.hid hown'; clear hown')
          go_roundw
          case rel =>
            refine ⟨k + 1, _, xs ++ [(n : Int)], _, _, rfl, rfl, ?_, ?_, ?_, ?_, ?_, ?_, ?_⟩
            · rw [ByteArray.size_extract]; omega
            · rw [ByteArray.size_extract]; have := Hs0.out; omega
            · simp [Hk.out]
            · obtain ⟨F, hF, he⟩ := Hx.out
              rw [runsF_go _ _ _ hF Hem.out Hpq.out (by rw [← Hq1L.out, Hn.out]; exact hn0), ← Hq1L.out, Hn.out] at he
              have hLx : L (q1.extract n (q.size - s.size)) = (L q1).drop n := by rw [L_extract, ← hq1s, ← L_length q1, List.take_length]
              have hq0 := Hs0.out
              refine ⟨F - 1, ?_, ?_⟩
              · rw [L_length, ByteArray.size_extract]; rw [L_length] at hF; omega
              · rw [hLx, List.append_assoc]; exact he
            · simpa using Ho.out
            · have hq : ∀ j, j < w.heap.size + 1 → w2.heap[j]? = wr.heap[j]? := fun j hj => (Hg'.out.block j (by simp; omega) (fun e => by have := own_ge Hrow.out j e.symm; omega)).trans (Below.heap_alloc _ _ _ (by omega))
              have hB2 : Below (w.heap.size + 1) wr w2 := ⟨Hg'.out.os, Hg'.out.tape, Hg'.out.output, by have := Hg'.out.size; simp at this; omega, hq⟩
              have hbl := HI2.out.b.trans (hB2.mono (by omega))
              exact ⟨HI2.out.bx.below hB2 (by omega), HR.out.below hbl, hbl⟩
            · have := Hg'.out.size; simp at this; omega
          case measure => have := Hs0.out; simp [ByteArray.size_extract]; omega
    · go_wp2_with fail
      go_ret
      exact Hst.out (.inl (by first | rfl | trivial))
end Go.Proofs.Ytkdnlmnjhlogmaa
