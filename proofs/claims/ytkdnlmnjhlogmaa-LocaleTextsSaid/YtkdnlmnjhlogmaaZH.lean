/- The law LocaleTexts: the walk. -/
import Derived.Test.YtkdnlmnjhlogmaaZG
import Derived.Test.YtkdnlmnjhlogmaaZA
namespace Go.Proofs.Ytkdnlmnjhlogmaa
open Go.RowKit Go.Shelf
set_option linter.unusedSimpArgs false
set_option linter.unusedVariables false

theorem lead_zero (l : List UInt8) : lead l = 0 ↔ dgAt l 0 = false := by
  cases l with
  | nil => simp [lead, dgAt]
  | cons a l =>
    simp only [lead, List.takeWhile_cons, dgAt, List.getElem?_cons_zero]
    cases h : dg a <;> simp

set_option maxRecDepth 10000 in
set_option maxHeartbeats 4000000 in
theorem texts_calls (p s : ByteArray) (A : Option Addr) (c : Nat) (g : List Int) (e : Int) (d t : ByteArray) (w : World) (hp : p.size ≤ maxLen) (hs : s.size ≤ maxLen) (hg : g.length ≤ maxLen) (hd : d.size ≤ maxLen) (ht : t.size ≤ maxLen) (hR : Rd .i64 w A g)
    (hun : lead (L t) ≠ 0 → okB (L p) (L s) g e = true → ungL (sz (oneB (L s) g) g) g (L s) (L t) = rungL (grpL (L s) g) (L s) (L t)) :
    Calls Try.prog 3 #[Loc p s A c g e, .string d, .string t] w fun r w' => r = .returned (.bool true) ∧ Below w.heap.size w w' := by
  have hI := InBox.new w p s A c g e hR
  obtain ⟨c0, c1, c2, c3⟩ := hI.bx.cells
  obtain ⟨x1, hx1⟩ : ∃ x1, x1 = if errB (okB (L p) (L s) g e) d.size = 0 then (if (L d).all dg then 0 else 6) else errB (okB (L p) (L s) g e) d.size := ⟨_, rfl⟩
  have h11 := fun W hR => group_prog p s A c g e d W hp hs hg hd hR x1 hx1
  have h12 := fun W hR => group_ref p s A c g e d W hp hs hg hd hR x1 hx1
  obtain ⟨a1, ha1⟩ : ∃ a1, S (if x1 = 0 then grpL (L s) g (L d) else []) = a1 := ⟨_, rfl⟩
  rw [ha1] at h11 h12
  obtain ⟨x2, hx2⟩ : ∃ x2, x2 = if errB (okB (L p) (L s) g e) t.size = 0 then (if lead (L t) = 0 then 6 else 0) else errB (okB (L p) (L s) g e) t.size := ⟨_, rfl⟩
  have hx2' : x2 = if errB (okB (L p) (L s) g e) t.size = 0 then (if dgAt (L t) 0 then 0 else 6) else errB (okB (L p) (L s) g e) t.size := by
    rw [hx2]
    have e : (if lead (L t) = 0 then (6 : Int) else 0) = (if dgAt (L t) 0 then 0 else 6) := by
      cases h : dgAt (L t) 0
      · rw [if_pos ((lead_zero _).2 h)]; rfl
      · rw [if_neg (fun h2 : lead (L t) = 0 => by rw [(lead_zero _).1 h2] at h; cases h)]; rfl
    rw [e]
  obtain ⟨R2, hR2⟩ : ∃ R2, R2 = if x2 = 0 then ungL (sz (oneB (L s) g) g) g (L s) (L t) else ([], 0) := ⟨_, rfl⟩
  have hR2' : R2 = if x2 = 0 then rungL (grpL (L s) g) (L s) (L t) else ([], 0) := by
    rw [hR2]
    split
    · rename_i h0
      have h1 : errB (okB (L p) (L s) g e) t.size = 0 := by
        rw [hx2] at h0
        by_cases h : errB (okB (L p) (L s) g e) t.size = 0
        · exact h
        · rw [if_neg h] at h0; exact absurd h0 h
      refine hun ?_ (errB_ok h1).1
      intro h
      rw [hx2, if_pos h1, if_pos h] at h0
      cases h0
    · rfl
  have h13 := fun W hR => ungroup_prog p s A c g e t W hp hs hg ht hR x2 R2 hx2 hR2
  have h14 := fun W hR => ungroup_ref p s A c g e t W hp hs hg ht hR x2 R2 hx2' hR2'
  obtain ⟨x3, hx3⟩ : ∃ x3, x3 = if errB (okB (L p) (L s) g e) t.size = 0 then (if (locL (L p) (L s) g (L t)).isSome then 0 else 6) else errB (okB (L p) (L s) g e) t.size := ⟨_, rfl⟩
  obtain ⟨R3, hR3⟩ : ∃ R3, R3 = if x3 = 0 then (locL (L p) (L s) g (L t)).getD [] else [] := ⟨_, rfl⟩
  have h15 := fun W hR => localize_prog p s A c g e t W hp hs hg ht hR x3 R3 hx3 hR3
  have h16 := fun W hR => localize_ref p s A c g e t W hp hs hg ht hR x3 R3 hx3 hR3
  obtain ⟨a3, ha3⟩ : ∃ a3, S R3 = a3 := ⟨_, rfl⟩
  rw [ha3] at h15 h16
  obtain ⟨a2, ha2⟩ : ∃ a2, S R2.1 = a2 := ⟨_, rfl⟩
  obtain ⟨n2, hn2⟩ : ∃ n2 : Nat, R2.2 = n2 := ⟨_, rfl⟩
  rw [ha2, hn2] at h13 h14
  have H11 := Lib.hid h11
  have H12 := Lib.hid h12
  have H13 := Lib.hid h13
  have H14 := Lib.hid h14
  have H15 := Lib.hid h15
  have H16 := Lib.hid h16
  have HI := Lib.hid hI
  unfold maxLen at hd ht
  clear h11 h12 h13 h14 h15 h16 hI hx1 ha1 hx2 hx2' hR2 hR2' hx3 hR3 ha3 ha2 hn2 hun hR hp hs hg
  have main : (400 < d.size ∧ d.size ≤ 20000) ∨ (¬ (400 < d.size) ∨ ¬ (d.size ≤ 20000)) := by omega
  rcases main with ⟨m1, m2⟩ | m
  · go_enter Try.func3, Try.ntmps3
    go_wp2_with fail
    refine (awake_calls _).mono ?_
    rintro r w1 ⟨rfl, hb1⟩
    have Hb1 := Lib.hid (HI.out.step hb1)
    clear hb1
    go_wp2_with fail
    go_ret
    exact ⟨rfl, Hb1.out.b⟩
  · have main2 : (200 < t.size ∧ t.size ≤ 20000) ∨ (¬ (200 < t.size) ∨ ¬ (t.size ≤ 20000)) := by omega
    rcases main2 with ⟨m1, m2⟩ | m2
    · rcases m with m | m
      all_goals
        go_enter Try.func3, Try.ntmps3
        go_wp2_with fail
        refine (awake_calls _).mono ?_
        rintro r w1 ⟨rfl, hb1⟩
        have Hb1 := Lib.hid (HI.out.step hb1)
        clear hb1
        go_wp2_with fail
        go_ret
        exact ⟨rfl, Hb1.out.b⟩
    · rcases m with m | m <;> rcases m2 with m2 | m2
      all_goals
          go_enter Try.func3, Try.ntmps3
          go_wp2_with fail
          refine (H11.out _ HI.out.rd).mono ?_
          rintro r w1 ⟨rfl, hb1⟩
          have I1 := Lib.hid (HI.out.step hb1)
          clear hb1 c0 c1 c2 c3
          obtain ⟨c0, c1, c2, c3⟩ := I1.out.bx.cells
          go_wp2_with fail
          refine (H12.out _ I1.out.rd).mono ?_
          rintro r w2 ⟨rfl, hb2⟩
          have I2 := Lib.hid (I1.out.step hb2)
          clear hb2 c0 c1 c2 c3
          obtain ⟨c0, c1, c2, c3⟩ := I2.out.bx.cells
          go_wp2_with fail
          refine (H13.out _ I2.out.rd).mono ?_
          rintro r w3 ⟨rfl, hb3⟩
          have I3 := Lib.hid (I2.out.step hb3)
          clear hb3 c0 c1 c2 c3
          obtain ⟨c0, c1, c2, c3⟩ := I3.out.bx.cells
          go_wp2_with fail
          refine (H14.out _ I3.out.rd).mono ?_
          rintro r w4 ⟨rfl, hb4⟩
          have i4 := I3.out.step hb4
          obtain ⟨w5, hw5⟩ : ∃ w5, w4.alloc (.cells #[.string a2, .int .i64 (n2 : Int), .int .i64 x2] 32) = w5 := ⟨_, rfl⟩
          have i5 : InBox w w5 w.heap.size p s A c g e := by rw [← hw5]; exact i4.step ((Below.refl _ _).alloc (Nat.le_refl _) _)
          have q5 : RCell w5 w4.heap.size a2 n2 x2 := by rw [← hw5]; exact World.alloc_heap_new _ _
          have I5 := Lib.hid i5
          have Q5 := Lib.hid q5
          clear hb4 c0 c1 c2 c3 i4 i5 q5
          obtain ⟨c0, c1, c2, c3⟩ := I5.out.bx.cells
          go_wp2_with fail
          clear hw5
          refine (H15.out _ I5.out.rd).mono ?_
          rintro r w6 ⟨rfl, hb6⟩
          have I6 := Lib.hid (I5.out.step hb6)
          have Q6 := Lib.hid (Q5.out.below hb6)
          clear hb6 c0 c1 c2 c3
          obtain ⟨c0, c1, c2, c3⟩ := I6.out.bx.cells
          go_wp2_with fail
          refine (H16.out _ I6.out.rd).mono ?_
          rintro r w7 ⟨rfl, hb7⟩
          have I7 := Lib.hid (I6.out.step hb7)
          have Q7 := Lib.hid (Q6.out.below hb7)
          clear hb7 c0 c1 c2 c3
          obtain ⟨c0, c1, c2, c3⟩ := I7.out.bx.cells
          go_wp2_with fail
          refine (awake_calls _).mono ?_
          rintro r w8 ⟨rfl, hb8⟩
          have I8 := Lib.hid (I7.out.step hb8)
          obtain ⟨q0, q1, q2⟩ := (Q7.out.below hb8).cells
          clear hb8 c0 c1 c2 c3
          go_wp2_with fail
          go_ret
          exact ⟨rfl, I8.out.b⟩
end Go.Proofs.Ytkdnlmnjhlogmaa
