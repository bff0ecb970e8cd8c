/- Localize, by the program. -/
import Derived.Test.YtkdnlmnjhlogmaaZB
namespace Go.Proofs.Ytkdnlmnjhlogmaa
open Go.RowKit Go.Shelf
set_option linter.unusedSimpArgs false
set_option linter.unusedVariables false

theorem lead_beq (l : List UInt8) (n : Nat) (h : l.length = n) : ((lead l : Int) == (n : Int)) = l.all dg := by
  rw [Bool.eq_iff_iff, beq_iff_eq, ← lead_all, ← h]
  omega

/-- A piece of code that leaves in the common way alone. -/
theorem wp_calm {P : Program} {c : Code} {Q : Exit → Act → World → Prop} {a : Act} {w : World} (h : c.wp P (fun e a' w' => match e with | .normal => Q .normal a' w' | _ => False) a w) : c.wp P Q a w :=
  wp_mono h (fun e a w h => by cases e <;> first | exact h | exact h.elim)
theorem grpL_len (s : List UInt8) (g : List Int) (d : List UInt8) (hg : ∀ x ∈ g, (1 : Int) ≤ x ∧ x ≤ 127) (hd : d.length ≤ 30000) (hs : s.length ≤ 4) : (grpL s g d).length ≤ 200000 := by
  obtain ⟨hsum, hpos, hglen⟩ := grp_sum (sz (oneB s g) g) (sz_nonneg hg) (d.length : Int) (by omega)
  have h1 := gstate_len s d (grp (sz (oneB s g) g) (d.length : Int)) _ (Nat.le_refl _)
  rw [gstate_all] at h1
  have h2 : (grp (sz (oneB s g) g) (d.length : Int)).length * s.length ≤ 30000 * 4 := Nat.mul_le_mul (by omega) hs
  rw [grpL, groupL]
  omega

set_option maxRecDepth 10000 in
set_option maxHeartbeats 1000000 in
theorem localize_prog (p s : ByteArray) (A : Option Addr) (c : Nat) (g : List Int) (e : Int) (t : ByteArray) (w : World) (hp : p.size ≤ maxLen) (hs : s.size ≤ maxLen) (hg : g.length ≤ maxLen) (ht : t.size ≤ maxLen) (hR : Rd .i64 w A g) (x : Int) (R : List UInt8)
    (hx : x = if errB (okB (L p) (L s) g e) t.size = 0 then (if (locL (L p) (L s) g (L t)).isSome then 0 else 6) else errB (okB (L p) (L s) g e) t.size)
    (hRR : R = if x = 0 then (locL (L p) (L s) g (L t)).getD [] else []) :
    Calls Try.prog 15 #[Loc p s A c g e, .string t] w fun r w' => r = .returned (.tuple #[.string (S R), .int .i64 x]) ∧ Below w.heap.size w w' := by
  have hI := (InBox.new w p s A c g e hR)
  obtain ⟨y, hy⟩ : ∃ y, errB (okB (L p) (L s) g e) t.size = y := ⟨_, rfl⟩
  rw [hy] at hx
  obtain ⟨w2, hw2⟩ : ∃ w2, (w.alloc (.cells #[.string p, .string s, .slice A g.length c, .int .i64 e] 24)).alloc (.cells #[.int .i64 0] 26) = w2 := ⟨_, rfl⟩
  have hI2 : InBox w w2 w.heap.size p s A c g e := by rw [← hw2]; exact hI.step ((Below.refl _ _).alloc (Nat.le_refl _) _)
  have hE2 : ECell w2 (w.heap.size + 1) 0 := by
    unfold ECell; rw [← hw2]; have := World.alloc_heap_new (w.alloc (.cells #[.string p, .string s, .slice A g.length c, .int .i64 e] 24)) (.cells #[.int .i64 0] 26); rwa [World.size_alloc] at this
  obtain ⟨c0, c1, c2, c3⟩ := hI2.bx.cells
  have Hy := Lib.hid hy
  have HI := Lib.hid hI2
  have HE := Lib.hid hE2
  have Hg := Lib.hid hg
  by_cases hy0 : y = 0
  · rw [if_pos hy0] at hx
    obtain ⟨hok, hn0, hn1⟩ := errB_ok (by rw [Hy.out]; exact hy0)
    obtain ⟨⟨_, hpl⟩, hsl, hgl, hgp⟩ := ok_facts hok
    rw [L_length] at hpl hsl
    have hck := check_yes p s A c g e t.size w2 hp hs hg hI2.rd (by rw [Hy.out]; exact hy0)
    have Hck := Lib.hid hck
    have Hgp := Lib.hid hgp
    have Hcut := Lib.hid (fun w => cut_calls t w ht)
    rw [loc_cut] at hx hRR
    have hcl : (cutL (L t)).1.length ≤ t.size ∧ (cutL (L t)).2.1.length ≤ t.size ∧ ((cutL (L t)).2.2 = false → (cutL (L t)).2.1 = []) := by
      rw [← L_length t, cutL]; split <;> simp <;> omega
    obtain ⟨hd, tl, pt, hcut⟩ : ∃ hd tl pt, cutL (L t) = (hd, tl, pt) := ⟨_, _, _, rfl⟩
    rw [hcut] at hx hRR hcl
    simp only [] at hx hRR hcl
    have Hcut2 : Hid (∀ w, Calls Try.prog 43 #[.string t, .string ⟨#[46]⟩] w fun r w' => r = .returned (.tuple #[.string (S hd), .string (S tl), .bool pt]) ∧ Below w.heap.size w w') := Lib.hid (fun w => by have := Hcut.out w; rw [hcut] at this; exact this)
    obtain ⟨hcl1, hcl2, hcl3⟩ := hcl
    have hr1 := fun w => run_calls (S hd) w (by rw [S_size]; unfold maxLen; omega)
    have hr2 := fun w => run_calls (S tl) w (by rw [S_size]; unfold maxLen; omega)
    rw [L_S] at hr1 hr2
    have hq1 : ((lead hd : Int) == ((S hd).size : Int)) = hd.all dg := lead_beq hd _ (by rw [S_size])
    have hq2 : ((lead tl : Int) == ((S tl).size : Int)) = tl.all dg := lead_beq tl _ (by rw [S_size])
    obtain ⟨b1, hb1⟩ : ∃ b1, hd.all dg = b1 := ⟨_, rfl⟩
    obtain ⟨b2, hb2⟩ : ∃ b2, tl.all dg = b2 := ⟨_, rfl⟩
    rw [hb1] at hx hRR hq1
    rw [hb2] at hx hRR hq2
    have Hr1 := Lib.hid hr1
    have Hr2 := Lib.hid hr2
    have Hrr := Lib.hid hRR
    have hs1 : (S hd).size = hd.length := S_size hd
    have hs2 : (S tl).size = tl.length := S_size tl
    have Hs1 := Lib.hid hs1
    have Hs2 := Lib.hid hs2
    have Hl3 := Lib.hid hcl3
    clear hck hy0 hy hI hI2 hE2 hR hp hs hg ht hok hgp hRR hcut hr1 hr2 hb1 hb2 hs1 hs2 Hcut hcl3
    cases b1
    · have hxx : x = 6 := by rw [hx]; simp
      subst hxx
      have hR0 : R = [] := Hrr.out
      subst hR0
      clear hx
      go_enter_defers Try.func15, Try.ntmps15
      go_wp2_with fail
      clear hw2 c0 c1 c2 c3
      refine Hck.out.mono ?_
      rintro r w1 ⟨rfl, hb1⟩
      have HI1 := Lib.hid (HI.out.step hb1)
      have HE1 := Lib.hid (HE.out.below hb1)
      clear hb1
      go_wp2_with fail
      refine (Hcut2.out _).mono ?_
      rintro r w3 ⟨rfl, hb3⟩
      have HI3 := Lib.hid (HI1.out.step hb3)
      have hE3 := (HE1.out.below hb3)
      clear hb3
      go_wp2_with fail
      refine (Hr1.out _).mono ?_
      rintro r w4 ⟨rfl, rfl⟩
      go_wp2_with fail
      refine (need_no _ _).mono ?_
      rintro r w5 ⟨rfl, rfl⟩
      refine leaves_cons (f := 29) (args := #[.pointer (some ⟨w.heap.size + 1, 0, none⟩)]) (by simp) (by simp [go_sem]) ?_
      refine (caught_fail (w.heap.size + 1) 6 0 _ hE3).mono ?_
      rintro r u' w'' ⟨rfl, rfl, rfl⟩
      have hc := hE3.setA 6 (.cells #[.int .i64 6] 71)
      exact ⟨.tuple #[.string (S []), .int .i64 6], by simp [results, Try.results15, go_sem, hc]; rfl, rfl, below_setA HI3.out.b (Nat.le_succ _) _ _⟩
    · cases b2
      · have hxx : x = 6 := by rw [hx]; simp
        subst hxx
        have hR0 : R = [] := Hrr.out
        subst hR0
        clear hx
        go_enter_defers Try.func15, Try.ntmps15
        go_wp2_with fail
        clear hw2 c0 c1 c2 c3
        refine Hck.out.mono ?_
        rintro r w1 ⟨rfl, hb1⟩
        have HI1 := Lib.hid (HI.out.step hb1)
        have HE1 := Lib.hid (HE.out.below hb1)
        clear hb1
        go_wp2_with fail
        refine (Hcut2.out _).mono ?_
        rintro r w3 ⟨rfl, hb3⟩
        have HI3 := Lib.hid (HI1.out.step hb3)
        have hE3 := (HE1.out.below hb3)
        clear hb3
        go_wp2_with fail
        refine (Hr1.out _).mono ?_
        rintro r w4 ⟨rfl, rfl⟩
        go_wp2_with fail
        refine (Hr2.out _).mono ?_
        rintro r w4 ⟨rfl, rfl⟩
        go_wp2_with fail
        refine (need_no _ _).mono ?_
        rintro r w5 ⟨rfl, rfl⟩
        refine leaves_cons (f := 29) (args := #[.pointer (some ⟨w.heap.size + 1, 0, none⟩)]) (by simp) (by simp [go_sem]) ?_
        refine (caught_fail (w.heap.size + 1) 6 0 _ hE3).mono ?_
        rintro r u' w'' ⟨rfl, rfl, rfl⟩
        have hc := hE3.setA 6 (.cells #[.int .i64 6] 71)
        exact ⟨.tuple #[.string (S []), .int .i64 6], by simp [results, Try.results15, go_sem, hc]; rfl, rfl, below_setA HI3.out.b (Nat.le_succ _) _ _⟩
      · have hxx : x = 0 := by rw [hx]; cases pt <;> simp
        subst hxx
        have hgl2 := grpL_len (L s) g hd Hgp.out (by omega) (by rw [L_length]; exact hsl)
        cases pt
        · have hR0 : R = grpL (L s) g hd := by rw [Hrr.out]; simp
          clear hx
          have hgr := fun W hR => group_calls p s A c g e (S hd) W Hg.out hR (oneB (L s) g) rfl (sz_nonneg Hgp.out) (by rw [S_size]; omega) hsl
          rw [L_S, show groupL (oneB (L s) g) g (L s) hd = grpL (L s) g hd from rfl] at hgr
          have Hgr := Lib.hid hgr
          have HR0 := Lib.hid hR0
          clear hgr hR0 hgl2
          go_enter_defers Try.func15, Try.ntmps15
          go_wp2_with fail
          clear hw2 c0 c1 c2 c3
          refine Hck.out.mono ?_
          rintro r w1 ⟨rfl, hb1⟩
          have HI1 := Lib.hid (HI.out.step hb1)
          have HE1 := Lib.hid (HE.out.below hb1)
          clear hb1
          go_wp2_with fail
          refine (Hcut2.out _).mono ?_
          rintro r w3 ⟨rfl, hb3⟩
          have HI3 := Lib.hid (HI1.out.step hb3)
          have HE3 := Lib.hid (HE1.out.below hb3)
          clear hb3
          obtain ⟨c0, c1, c2, c3⟩ := HI3.out.bx.cells
          go_wp2_with fail
          refine (Hr1.out _).mono ?_
          rintro r w4 ⟨rfl, rfl⟩
          go_wp2_with fail
          refine (Hr2.out _).mono ?_
          rintro r w4 ⟨rfl, rfl⟩
          go_wp2_with fail
          refine (need_ok _ _).mono ?_
          rintro r w5 ⟨rfl, rfl⟩
          go_wp2_with fail
          refine (Hgr.out _ HI3.out.rd).mono ?_
          rintro r w6 ⟨rfl, hb6⟩
          have hE6 := HE3.out.below hb6
          have ce := cell_of_one hE6
          have cz := free_of_one hE6
          have HE6 := Lib.hid hE6
          have Hb6 := Lib.hid hb6
          clear hb6 hE6
          go_wp2_with fail
          refine leaves_cons (f := 29) (args := #[.pointer (some ⟨w.heap.size + 1, 0, none⟩)]) (by simp) (by simp [go_sem]) ?_
          refine (caught_idle _ _).mono ?_
          rintro r u' w'' ⟨rfl, rfl, rfl⟩
          have hc := HE6.out.set 0
          exact ⟨.tuple #[.string (S (grpL (L s) g hd)), .int .i64 0], by simp [results, Try.results15, go_sem, hc], by rw [HR0.out], below_set (HI3.out.b.trans (Hb6.out.mono HI3.out.b.size)) (Nat.le_succ _) _⟩
        · have hR0 : R = grpL (L s) g hd ++ L p ++ tl := by rw [Hrr.out]; simp
          clear hx
          obtain ⟨G, hG⟩ : ∃ G, grpL (L s) g hd = G := ⟨_, rfl⟩
          have hgr := fun W hR => group_calls p s A c g e (S hd) W Hg.out hR (oneB (L s) g) rfl (sz_nonneg Hgp.out) (by rw [S_size]; omega) hsl
          rw [L_S, show groupL (oneB (L s) g) g (L s) hd = grpL (L s) g hd from rfl, hG] at hgr
          rw [hG] at hgl2 hR0
          have Hgr := Lib.hid hgr
          have HR0 := Lib.hid hR0
          have hcat : ¬ (9223372036854775807 < (S G).size + p.size) := by rw [S_size]; omega
          have hcat2 : ¬ (9223372036854775807 < (S G ++ p).size + (S tl).size) := by rw [ByteArray.size_append, S_size, S_size]; omega
          have hcat3 : ¬ (9223372036854775807 < (S G).size + p.size + (S tl).size) := by rw [S_size, S_size]; omega
          have hcat4 : (S G).size + p.size + (S tl).size ≤ 9223372036854775807 := by omega
          have hcat5 : (S G ++ p).size + (S tl).size ≤ 9223372036854775807 := by omega
          clear hgr hR0 hgl2 hG
          go_enter_defers Try.func15, Try.ntmps15
          go_wp2_with fail
          clear hw2 c0 c1 c2 c3
          refine Hck.out.mono ?_
          rintro r w1 ⟨rfl, hb1⟩
          have HI1 := Lib.hid (HI.out.step hb1)
          have HE1 := Lib.hid (HE.out.below hb1)
          clear hb1
          go_wp2_with fail
          refine (Hcut2.out _).mono ?_
          rintro r w3 ⟨rfl, hb3⟩
          have HI3 := Lib.hid (HI1.out.step hb3)
          have HE3 := Lib.hid (HE1.out.below hb3)
          clear hb3
          obtain ⟨c0, c1, c2, c3⟩ := HI3.out.bx.cells
          go_wp2_with fail
          refine (Hr1.out _).mono ?_
          rintro r w4 ⟨rfl, rfl⟩
          go_wp2_with fail
          refine (Hr2.out _).mono ?_
          rintro r w4 ⟨rfl, rfl⟩
          go_wp2_with fail
          refine (need_ok _ _).mono ?_
          rintro r w5 ⟨rfl, rfl⟩
          go_wp2_with fail
          have ce := cell_of_one HE3.out
          have cz := free_of_one HE3.out
          refine wp_calm ?_
          go_region_with (refine (Hgr.out w3.drew (show Rd .i64 w3.drew A g from HI3.out.rd)).mono ?_; rintro r w6 ⟨rfl, hb6⟩; have hb6' : Below w3.heap.size w3 w6 := ⟨hb6.os, hb6.tape, hb6.output, hb6.size, hb6.block⟩; obtain ⟨d0, d1, d2, d3⟩ := (HI3.out.step hb6').bx.cells; have ce6 := cell_of_one (HE3.out.below hb6'); have cz6 := free_of_one (HE3.out.below hb6'))
          all_goals
            dsimp only
            have hE6 := HE3.out.below hb6'
            have HE6 := Lib.hid hE6
            have Hb6 := Lib.hid hb6'
            clear hb6 hb6' hE6
            go_wp2_with fail
            refine leaves_cons (f := 29) (args := #[.pointer (some ⟨w.heap.size + 1, 0, none⟩)]) (by simp) (by simp [go_sem]) ?_
            refine (caught_idle _ _).mono ?_
            rintro r u' w'' ⟨rfl, rfl, rfl⟩
            have hc := HE6.out.set 0
            exact ⟨.tuple #[.string (S G ++ p ++ S tl), .int .i64 0], by simp [results, Try.results15, go_sem, hc], by rw [HR0.out, ← S_L (S G ++ p ++ S tl), L_append, L_append, L_S, L_S], below_set (HI3.out.b.trans (Hb6.out.mono HI3.out.b.size)) (Nat.le_succ _) _⟩
  · rw [if_neg hy0] at hx
    subst hx
    rw [if_neg hy0] at hRR
    subst hRR
    have hck := check_no p s A c g e t.size x w2 hp hs hg hI2.rd Hy.out hy0
    have Hck := Lib.hid hck
    clear hck hy0 hy hI hI2 hE2 hR hp hs hg ht
    go_enter_defers Try.func15, Try.ntmps15
    go_wp2_with fail
    clear hw2 c0 c1 c2 c3
    refine Hck.out.mono ?_
    rintro r w1 ⟨rfl, hb1⟩
    have hE1 := HE.out.below hb1
    refine leaves_cons (f := 29) (args := #[.pointer (some ⟨w.heap.size + 1, 0, none⟩)]) (by simp) (by simp [go_sem]) ?_
    refine (caught_fail (w.heap.size + 1) x 0 _ hE1).mono ?_
    rintro r u' w'' ⟨rfl, rfl, rfl⟩
    have hc := hE1.setA x (.cells #[.int .i64 x] 71)
    exact ⟨.tuple #[.string (S []), .int .i64 x], by simp [results, Try.results15, go_sem, hc]; rfl, rfl, below_setA (HI.out.b.trans (hb1.mono HI.out.b.size)) (Nat.le_succ _) _ _⟩
end Go.Proofs.Ytkdnlmnjhlogmaa
