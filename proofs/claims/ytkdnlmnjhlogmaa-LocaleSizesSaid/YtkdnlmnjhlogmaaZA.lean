/- Ungroup, by the reference. -/
import Derived.Test.YtkdnlmnjhlogmaaY
import Derived.BigQuiet
import Derived.IntWalk
import Derived.Deep.QuietTactic
namespace Go.Proofs.Ytkdnlmnjhlogmaa
open Go.RowKit Go.Shelf
set_option linter.unusedSimpArgs false
set_option linter.unusedVariables false

def dgAt (t : List UInt8) (i : Nat) : Bool := match t[i]? with | some c => dg c | none => false
/-- The beginnings that the reference looks at, one after another. -/
def rscan (G : List UInt8 → List UInt8) (sep t : List UInt8) : Nat → List UInt8 → Nat → Bool → List UInt8 × Nat → List UInt8 × Nat
  | 0, _, _, _, best => best
  | F + 1, d, a, pl, best => match t[a]? with
    | none => best
    | some c => if dg c then rscan G sep t F (d ++ [c]) (a + 1) pl (if pl || G (d ++ [c]) == t.take (a + 1) then (d ++ [c], a + 1) else best)
      else if !sep.isEmpty && pre sep (t.drop a) && dgAt t (a - 1) then rscan G sep t F d (a + sep.length) false best
      else best
def rungL (G : List UInt8 → List UInt8) (sep t : List UInt8) : List UInt8 × Nat := rscan G sep t (t.length + 1) [] 0 true ([], 0)

theorem rscan_end (G : List UInt8 → List UInt8) (sep t : List UInt8) (F : Nat) (d : List UInt8) (a : Nat) (pl : Bool) (best : List UInt8 × Nat) (h : t.length ≤ a) : rscan G sep t F d a pl best = best := by
  cases F with
  | zero => rfl
  | succ F => rw [rscan, List.getElem?_eq_none h]
theorem rscan_digit (G : List UInt8 → List UInt8) (sep t : List UInt8) (F : Nat) (d : List UInt8) (a : Nat) (pl : Bool) (best : List UInt8 × Nat) (c : UInt8) (hc : t[a]? = some c) (hd : dg c = true) (b : Bool) (hb : (pl || G (d ++ [c]) == t.take (a + 1)) = b) :
    rscan G sep t (F + 1) d a pl best = rscan G sep t F (d ++ [c]) (a + 1) pl (if b then (d ++ [c], a + 1) else best) := by
  rw [rscan, hc]; simp only [hd, if_true, hb]
theorem rscan_sep (G : List UInt8 → List UInt8) (sep t : List UInt8) (F : Nat) (d : List UInt8) (a : Nat) (pl : Bool) (best : List UInt8 × Nat) (c : UInt8) (hc : t[a]? = some c) (hd : dg c = false) (h1 : sep.isEmpty = false) (h2 : pre sep (t.drop a) = true) (h3 : dgAt t (a - 1) = true) :
    rscan G sep t (F + 1) d a pl best = rscan G sep t F d (a + sep.length) false best := by
  rw [rscan, hc]; simp only [hd, h1, h2, h3]; rfl
theorem rscan_stop (G : List UInt8 → List UInt8) (sep t : List UInt8) (F : Nat) (d : List UInt8) (a : Nat) (pl : Bool) (best : List UInt8 × Nat) (c : UInt8) (hc : t[a]? = some c) (hd : dg c = false) (h : sep.isEmpty = true ∨ pre sep (t.drop a) = false ∨ dgAt t (a - 1) = false) :
    rscan G sep t (F + 1) d a pl best = best := by
  rw [rscan, hc]; rcases h with h | h | h <;> simp [hd, h]

/-- A struct of a result, in its cells. -/
def RCell (w : World) (b : Nat) (d : ByteArray) (n x : Int) : Prop := w.heap[b]? = some (.cells #[.string d, .int .i64 n, .int .i64 x] 32 (0, 0))
theorem RCell.below {w w' : World} {b : Nat} {d : ByteArray} {n x : Int} (h : RCell w b d n x) (hb : Below w.heap.size w w') : RCell w' b d n x := (hb.block _ (lt_of_block h)).trans h
theorem RCell.cells {w : World} {b : Nat} {d : ByteArray} {n x : Int} (h : RCell w b d n x) : w.cell? ⟨b, 0, none⟩ = some (.string d) ∧ w.cell? ⟨b, 1, none⟩ = some (.int .i64 n) ∧ w.cell? ⟨b, 2, none⟩ = some (.int .i64 x) := by
  refine ⟨?_, ?_, ?_⟩ <;> (rw [Lib.cell_of_heap h]; rfl)
theorem RCell.frozen {w : World} {b : Nat} {d : ByteArray} {n x : Int} (h : RCell w b d n x) (i : Nat) : w.frozen? ⟨b, i, none⟩ = false := Lib.frozen_of_heap h i
theorem RCell.set {w : World} {b : Nat} {d : ByteArray} {n x : Int} (h : RCell w b d n x) (d' : ByteArray) (n' x' : Int) : RCell (((w.setCell ⟨b, 0, none⟩ (.string d')).setCell ⟨b, 1, none⟩ (.int .i64 n')).setCell ⟨b, 2, none⟩ (.int .i64 x')) b d' n' x' := by
  unfold RCell at *; simp [World.setCell, Array.getElem?_modify, h]
theorem below_set3 {w0 w : World} {b : Nat} (h : Below w0.heap.size w0 w) (hb : w0.heap.size ≤ b) (u v y : Value) : Below w0.heap.size w0 (((w.setCell ⟨b, 0, none⟩ u).setCell ⟨b, 1, none⟩ v).setCell ⟨b, 2, none⟩ y) :=
  ((h.setCell (p := ⟨b, 0, none⟩) hb u).setCell (p := ⟨b, 1, none⟩) hb v).setCell (p := ⟨b, 2, none⟩) hb y
theorem heap_set3 {w : World} {b k : Nat} (h : k ≠ b) (u v y : Value) : (((w.setCell ⟨b, 0, none⟩ u).setCell ⟨b, 1, none⟩ v).setCell ⟨b, 2, none⟩ y).heap[k]? = w.heap[k]? :=
  (Below.heap_setCell _ _ _ _ h).trans ((Below.heap_setCell _ _ _ _ h).trans (Below.heap_setCell _ _ _ _ h))
theorem dgAt_get (s : ByteArray) (i : Nat) (h : i < s.size) : dgAt (L s) i = digB s[i].toNat := by rw [dgAt, L_get s i h]; rfl
theorem keep3 {w W : World} {p s : ByteArray} {A : Option Addr} {c : Nat} {g : List Int} {e : Int} (hR : Rd .i64 w A g) (hI : InBox w W w.heap.size p s A c g e) {B : Nat} {d d0 : ByteArray} {n x n0 x0 : Int} (hC : RCell W (w.heap.size + 1) d0 n0 x0) (hB : RCell W B d n x) (h1 : w.heap.size + 1 < B) (d' : ByteArray) (n' : Int) :
    InBox w (((W.setCell ⟨B, 0, none⟩ (.string d')).setCell ⟨B, 1, none⟩ (.int .i64 n')).setCell ⟨B, 2, none⟩ (.int .i64 0)) w.heap.size p s A c g e ∧
    RCell (((W.setCell ⟨B, 0, none⟩ (.string d')).setCell ⟨B, 1, none⟩ (.int .i64 n')).setCell ⟨B, 2, none⟩ (.int .i64 0)) (w.heap.size + 1) d0 n0 x0 ∧
    RCell (((W.setCell ⟨B, 0, none⟩ (.string d')).setCell ⟨B, 1, none⟩ (.int .i64 n')).setCell ⟨B, 2, none⟩ (.int .i64 0)) B d' n' 0 := by
  have hb := below_set3 hI.b (b := B) (by omega) (.string d') (.int .i64 n') (.int .i64 0)
  exact ⟨⟨(heap_set3 (by omega) _ _ _).trans hI.bx, hR.below hb, hb⟩, (heap_set3 (by omega) _ _ _).trans hC, hB.set _ _ _⟩
theorem info32 : (Try.prog.info? 32).map (fun i => i.size) = some 3 := by kernel_rfl

set_option maxRecDepth 10000 in
set_option maxHeartbeats 1000000 in
theorem ungroup_ref (p s : ByteArray) (A : Option Addr) (c : Nat) (g : List Int) (e : Int) (t : ByteArray) (w : World) (hp : p.size ≤ maxLen) (hs : s.size ≤ maxLen) (hg : g.length ≤ maxLen) (ht : t.size ≤ maxLen) (hR : Rd .i64 w A g) (x : Int) (R : List UInt8 × Nat)
    (hx : x = if errB (okB (L p) (L s) g e) t.size = 0 then (if dgAt (L t) 0 then 0 else 6) else errB (okB (L p) (L s) g e) t.size)
    (hRR : R = if x = 0 then rungL (grpL (L s) g) (L s) (L t) else ([], 0)) :
    Calls Try.prog 14 #[Loc p s A c g e, .string t] w fun r w' => r = .returned (.agg #[.string (S R.1), .int .i64 R.2, .int .i64 x]) ∧ Below w.heap.size w w' := by
  obtain ⟨w2, hw2⟩ : ∃ w2, (w.alloc (.cells #[.string p, .string s, .slice A g.length c, .int .i64 e] 24)).alloc (.cells #[.string ⟨#[]⟩, .int .i64 0, .int .i64 0] 32) = w2 := ⟨_, rfl⟩
  have hI := InBox.new w p s A c g e hR
  have hI2 : InBox w w2 w.heap.size p s A c g e := by rw [← hw2]; exact hI.step ((Below.refl _ _).alloc (Nat.le_refl _) _)
  have hC2 : RCell w2 (w.heap.size + 1) ⟨#[]⟩ 0 0 := by
    unfold RCell; rw [← hw2]; have := World.alloc_heap_new (w.alloc (.cells #[.string p, .string s, .slice A g.length c, .int .i64 e] 24)) (.cells #[.string ⟨#[]⟩, .int .i64 0, .int .i64 0] 32); rwa [World.size_alloc] at this
  have HC := Lib.hid hC2
  have hft := fits_calls p s A c g e t.size w2 hp hs hg hI2.rd
  obtain ⟨y, hy⟩ : ∃ y, errB (okB (L p) (L s) g e) t.size = y := ⟨_, rfl⟩
  rw [hy] at hft hx
  obtain ⟨c0, c1, c2, c3⟩ := hI2.bx.cells
  have Hft := Lib.hid hft
  have Hy := Lib.hid hy
  have HI := Lib.hid hI2
  have Hg := Lib.hid hg
  have Hrr := Lib.hid hRR
  have HR := Lib.hid hR
  unfold maxLen at ht
  clear hft hy hI hI2 hC2 hR hp hs hg hRR
  by_cases hy0 : y = 0
  · have hy1 : (y == 0) = true := beq_iff_eq.2 hy0
    have hy2 : (y != 0) = false := by simp [hy0]
    rw [if_pos hy0] at hx
    obtain ⟨hok, hn0, hn1⟩ := errB_ok (by rw [Hy.out]; exact hy0)
    obtain ⟨_, hsl, _, hgp⟩ := ok_facts hok
    rw [L_length] at hsl
    have Hgp := Lib.hid hgp
    clear hy0 hok hgp
    by_cases h0 : t.size = 0
    · have hxx : x = 6 := by rw [hx, if_neg]; rw [dgAt, List.getElem?_eq_none (by rw [L_length]; omega)]; simp
      subst hxx
      have hR0 : R = ([], 0) := Hrr.out
      subst hR0
      have he : t.toList.isEmpty = true := by rw [toList_L, show L t = [] from List.eq_nil_of_length_eq_zero (by rw [L_length]; exact h0)]; rfl
      clear hx h0
      go_enter Try.func14, Try.ntmps14
      go_wp2_with fail
      clear hw2 c0 c1 c2 c3
      refine Hft.out.mono ?_
      rintro r w1 ⟨rfl, hb1⟩
      have HI1 := Lib.hid (HI.out.step hb1)
      have HC1 := Lib.hid (HC.out.below hb1)
      obtain ⟨r0, r1, r2⟩ := HC1.out.cells
      have z0 := HC1.out.frozen 0
      have z1 := HC1.out.frozen 1
      have z2 := HC1.out.frozen 2
      clear hb1
      go_wp2_with fail
      obtain ⟨q0, q1, q2⟩ := (HC1.out.set ⟨#[]⟩ 0 6).cells
      exact bodyPost_ret (v := .agg #[.string ⟨#[]⟩, .int .i64 0, .int .i64 6]) (by simp [results, Try.results14, go_sem, q0, q1, q2]) rfl ⟨rfl, below_set3 HI1.out.b (Nat.le_succ _) _ _ _⟩
    · have he : t.toList.isEmpty = false := by
        rw [toList_L]; cases h : L t with
        | nil => exact absurd (by rw [← L_length, h]; rfl) h0
        | cons a l => rfl
      have hts : 0 < t.size := by omega
      clear h0
      obtain ⟨b0, hb0⟩ : ∃ b0, digB t[0].toNat = b0 := ⟨_, rfl⟩
      have hd0 : dgAt (L t) 0 = b0 := by rw [dgAt_get t 0 hts]; exact hb0
      rw [hd0] at hx
      have Hb0 := Lib.hid hb0
      have Hd0 := Lib.hid hd0
      clear hb0 hd0
      cases b0
      · rw [if_neg (by decide)] at hx
        subst hx
        have hR0 : R = ([], 0) := Hrr.out
        subst hR0
        go_enter Try.func14, Try.ntmps14
        go_wp2_with fail
        clear hw2 c0 c1 c2 c3
        refine Hft.out.mono ?_
        rintro r w1 ⟨rfl, hb1⟩
        have HI1 := Lib.hid (HI.out.step hb1)
        have HC1 := Lib.hid (HC.out.below hb1)
        obtain ⟨r0, r1, r2⟩ := HC1.out.cells
        have z0 := HC1.out.frozen 0
        have z1 := HC1.out.frozen 1
        have z2 := HC1.out.frozen 2
        clear hb1
        go_wp2_with fail
        refine (IsDigit_calls _ _).mono ?_
        rintro r w4 ⟨rfl, rfl⟩
        rw [Hb0.out]
        go_wp2_with fail
        obtain ⟨q0, q1, q2⟩ := (HC1.out.set ⟨#[]⟩ 0 6).cells
        exact bodyPost_ret (v := .agg #[.string ⟨#[]⟩, .int .i64 0, .int .i64 6]) (by simp [results, Try.results14, go_sem, q0, q1, q2]) rfl ⟨rfl, below_set3 HI1.out.b (Nat.le_succ _) _ _ _⟩
      · rw [if_pos rfl] at hx
        subst hx
        go_enter Try.func14, Try.ntmps14
        go_wp2_with fail
        clear hw2 c0 c1 c2 c3
        refine Hft.out.mono ?_
        rintro r w1 ⟨rfl, hb1⟩
        have HI1 := Lib.hid (HI.out.step hb1)
        have HC1 := Lib.hid (HC.out.below hb1)
        clear hb1
        go_wp2_with fail
        refine (IsDigit_calls _ _).mono ?_
        rintro r w4 ⟨rfl, rfl⟩
        rw [Hb0.out]
        go_wp2_with fail
        have hbsz := lt_of_block HI1.out.bx
        have hcsz := lt_of_block HC1.out
        have hR1 : R = rungL (grpL (L s) g) (L s) (L t) := by rw [Hrr.out, if_pos (by trivial)]
        have HR1 := Lib.hid hR1
        clear hR1
        go_loopw [7, 8, 9] (fun vd va vp wr => ∃ (d : List UInt8) (a : Nat) (pl : Bool) (best : List UInt8 × Nat) (F : Nat), vd = .string (S d) ∧ va = .int .i64 a ∧ vp = .bool pl ∧ a ≤ t.size ∧ d.length ≤ a ∧
            Hid (rscan (grpL (L s) g) (L s) (L t) F d a pl best = R) ∧ Hid (t.size < F + a) ∧ Hid (InBox w wr w.heap.size p s A c g e) ∧ Hid (RCell wr (w.heap.size + 1) ⟨#[]⟩ 0 0) ∧ Hid (RCell wr w1.heap.size (S best.1) best.2 0) ∧ w1.heap.size < wr.heap.size) (fun vd va vp wr => t.size - (intOf va).toNat)
        case atStart =>
          refine ⟨[], 0, true, ([], 0), t.size + 1, rfl, rfl, rfl, Nat.zero_le _, Nat.le_refl _, Lib.hid ?_, Lib.hid (by omega), Lib.hid (HI1.out.step ((Below.refl _ _).alloc (Nat.le_refl _) _)), Lib.hid (HC1.out.below ((Below.refl _ _).alloc (Nat.le_refl _) _)), Lib.hid (World.alloc_heap_new _ _), by simp⟩
          rw [HR1.out, rungL, L_length]
        case round =>
          obtain ⟨d, a, pl, best, F, rfl, rfl, rfl, hat, hda, Hs, HF, HI2, HC2, HB2, hw1⟩ := hrel
          obtain ⟨c0, c1, c2, c3⟩ := HI2.out.bx.cells
          obtain ⟨z0, z1, z2⟩ : wr.frozen? ⟨w1.heap.size, 0, none⟩ = false ∧ wr.frozen? ⟨w1.heap.size, 1, none⟩ = false ∧ wr.frozen? ⟨w1.heap.size, 2, none⟩ = false := ⟨HB2.out.frozen 0, HB2.out.frozen 1, HB2.out.frozen 2⟩
          obtain ⟨r0, r1, r2⟩ := HB2.out.cells
          obtain ⟨e0, e1, e2⟩ := HC2.out.cells
          obtain ⟨y0, y1, y2⟩ : wr.frozen? ⟨w.heap.size + 1, 0, none⟩ = false ∧ wr.frozen? ⟨w.heap.size + 1, 1, none⟩ = false ∧ wr.frozen? ⟨w.heap.size + 1, 2, none⟩ = false := ⟨HC2.out.frozen 0, HC2.out.frozen 1, HC2.out.frozen 2⟩
          by_cases hlt : a < t.size
          · obtain ⟨F', hF'⟩ : ∃ F', F = F' + 1 := ⟨F - 1, by have := HF.out; omega⟩
            obtain ⟨bd, hbd⟩ : ∃ bd, digB t[a].toNat = bd := ⟨_, rfl⟩
            have Hbd := Lib.hid hbd
            have HF' := Lib.hid hF'
            clear hbd hF'
            cases bd
            · -- no digit: a separator, or the end
              have hstop := rscan_stop (grpL (L s) g) (L s) (L t) F' d a pl best t[a] (L_get t a hlt) Hbd.out
              have hsep := rscan_sep (grpL (L s) g) (L s) (L t) F' d a pl best t[a] (L_get t a hlt) Hbd.out
              rw [← HF'.out, Hs.out] at hstop hsep
              have ha0 : 0 < a := by
                rcases Nat.eq_zero_or_pos a with h | h
                · subst h; have h1 := Hd0.out; rw [dgAt_get t 0 hlt, Hbd.out] at h1; cases h1
                · exact h
              obtain ⟨em, hem⟩ : ∃ em, (L s).isEmpty = em := ⟨_, rfl⟩
              have hs1 : s.toList.isEmpty = em := by rw [toList_L]; exact hem
              rw [hem] at hstop hsep
              have Hem := Lib.hid hem
              clear hem
              cases em
              · obtain ⟨t', ht'⟩ : ∃ t', t.extract a t.size = t' := ⟨_, rfl⟩
                have ht's : t'.size = t.size - a := by rw [← ht', ByteArray.size_extract]; omega
                have ht'L : L t' = (L t).drop a := by rw [← ht', L_extract, ← L_length t, List.take_length]
                have hbg := fun w => (begins_ref t' s w (by unfold maxLen; omega) (by unfold maxLen; omega)).mono (fun e w' h => (⟨h.1, h.2.symm⟩ : _ ∧ w' = w))
                rw [ht'L] at hbg
                subst ht'
                obtain ⟨pr, hpr⟩ : ∃ pr, pre (L s) ((L t).drop a) = pr := ⟨_, rfl⟩
                rw [hpr] at hbg hstop hsep
                have Hbg := Lib.hid hbg
                have Hpr := Lib.hid hpr
                have hw0 : (0 : Int) ≤ (a : Int) - 1 := by omega
                have hw2 : ((a : Int) - 1) < t.size := by omega
                have hw3 : ((a : Int) - 1).toNat = a - 1 := by omega
                have hw4 : a - 1 < t.size := by omega
                have hw5 : (1 : Int) ≤ (a : Int) := by omega
                have hw6 : (a : Int) ≤ t.size := by omega
                have hw7 : 1 ≤ a := ha0
                have hw8 : (a : Int) < t.size + 1 := by omega
                have hwr : IntKind.i64.wrap ((a : Int) - 1) = (a : Int) - 1 := IntWalk.i64_in _ (by omega)
                clear hbg hpr
                cases pr
                · have Hfin := Lib.hid (hstop (.inr (.inl rfl)))
                  clear hstop hsep
                  go_wp2_with fail
                  refine (IsDigit_calls _ _).mono ?_
                  rintro r w4 ⟨rfl, rfl⟩
                  rw [Hbd.out]
                  go_wp2_with fail
                  go_quiet ((go_at_call 42; exact Calls.quiet_of_same (Hbg.out _)))
                  go_wp2_with fail
                  obtain ⟨q0, q1, q2⟩ := (RCell.set (w := wr.drewN nq) HC2.out (S best.1) best.2 0).cells
                  exact bodyPost_ret (v := .agg #[.string (S best.1), .int .i64 best.2, .int .i64 0]) (by simp [results, Try.results14, go_sem, q0, q1, q2]) rfl ⟨by rw [Hfin.out], below_set3 (below_drewN HI2.out.b nq) (Nat.le_succ _) _ _ _⟩
                · obtain ⟨b3, hb3⟩ : ∃ b3, digB t[a - 1].toNat = b3 := ⟨_, rfl⟩
                  have hd3 : dgAt (L t) (a - 1) = b3 := by rw [dgAt_get t (a - 1) hw4, hb3]
                  rw [hd3] at hstop hsep
                  have hdc := fun w => (IsDigit_calls (t[a - 1].toNat : Int) w).mono (fun e w' h => (⟨by rw [h.1, hb3], h.2.symm⟩ : e = .returned (.bool b3) ∧ w' = w))
                  have Hdc := Lib.hid hdc
                  clear hb3 hd3 hdc
                  cases b3
                  · have Hfin := Lib.hid (hstop (.inr (.inr rfl)))
                    clear hstop hsep
                    go_wp2_with fail
                    refine (IsDigit_calls _ _).mono ?_
                    rintro r w4 ⟨rfl, rfl⟩
                    rw [Hbd.out]
                    go_wp2_with fail
                    go_quiet ((first | (go_at_call 42; exact Calls.quiet_of_same (Hbg.out _)) | (go_at_call 41; exact Calls.quiet_of_same (Hdc.out _))))
                    go_wp2_with fail
                    obtain ⟨q0, q1, q2⟩ := (RCell.set (w := wr.drewN nq) HC2.out (S best.1) best.2 0).cells
                    exact bodyPost_ret (v := .agg #[.string (S best.1), .int .i64 best.2, .int .i64 0]) (by simp [results, Try.results14, go_sem, q0, q1, q2]) rfl ⟨by rw [Hfin.out], below_set3 (below_drewN HI2.out.b nq) (Nat.le_succ _) _ _ _⟩
                  · have Hfin := Lib.hid (hsep rfl rfl rfl)
                    have hpl := (List.isPrefixOf_iff_prefix.1 Hpr.out).length_le
                    rw [List.length_drop, L_length, L_length] at hpl
                    have hs0 : 0 < s.size := by
                      rcases Nat.eq_zero_or_pos s.size with h | h
                      · have h1 := Hem.out; rw [show L s = [] from List.eq_nil_of_length_eq_zero (by rw [L_length]; exact h)] at h1; cases h1
                      · exact h
                    clear hstop hsep
                    go_wp2_with fail
                    refine (IsDigit_calls _ _).mono ?_
                    rintro r w4 ⟨rfl, rfl⟩
                    rw [Hbd.out]
                    go_wp2_with fail
                    go_quiet ((first | (go_at_call 42; exact Calls.quiet_of_same (Hbg.out _)) | (go_at_call 41; exact Calls.quiet_of_same (Hdc.out _))))
                    go_wp2_with fail
                    have hdn : Below wr.heap.size wr (wr.drewN nq) := below_drewN (Below.refl _ _) nq
                    refine ⟨⟨d, a + s.size, false, best, F', rfl, by go_num, rfl, by omega, by omega, by rw [← L_length s]; exact Lib.hid Hfin.out.symm, ?_, Lib.hid (HI2.out.step hdn), Lib.hid (HC2.out.below hdn), Lib.hid (HB2.out.below hdn), by simpa using hw1⟩, by simp [intOf]; omega⟩
                    have := HF.out; have := HF'.out; exact Lib.hid (by omega)
              · have Hfin := Lib.hid (hstop (.inl rfl))
                clear hstop hsep
                go_wp2_with fail
                refine (IsDigit_calls _ _).mono ?_
                rintro r w4 ⟨rfl, rfl⟩
                rw [Hbd.out]
                go_wp2_with fail
                go_quiet (fail)
                go_wp2_with fail
                obtain ⟨q0, q1, q2⟩ := (RCell.set (w := wr.drewN nq) HC2.out (S best.1) best.2 0).cells
                exact bodyPost_ret (v := .agg #[.string (S best.1), .int .i64 best.2, .int .i64 0]) (by simp [results, Try.results14, go_sem, q0, q1, q2]) rfl ⟨by rw [Hfin.out], below_set3 (below_drewN HI2.out.b nq) (Nat.le_succ _) _ _ _⟩
            · have hnx : S (d ++ [t[a]]) = S d ++ t.extract a (a + 1) := by
                rw [← S_L (S d ++ t.extract a (a + 1)), L_append, L_S, L_extract1 t a hlt]
              have hcat : ¬ (9223372036854775807 < (S d).size + (t.extract a (a + 1)).size) := by rw [S_size, ByteArray.size_extract]; omega
              have hrs := rscan_digit (grpL (L s) g) (L s) (L t) F' d a pl best t[a] (L_get t a hlt) Hbd.out
              rw [← HF'.out, Hs.out] at hrs
              have Hrs := Lib.hid hrs
              have Hnx := Lib.hid hnx
              have ha1 : (a : Int) + 1 ≤ t.size := by omega
              have ha2 : (a : Int) ≤ a + 1 := by omega
              clear hrs hnx
              cases pl
              · obtain ⟨G, hG⟩ : ∃ G, grpL (L s) g (d ++ [t[a]]) = G := ⟨_, rfl⟩
                have hgr := grouped_ref p s A c g e (S (d ++ [t[a]])) wr.drew Hg.out (show Rd .i64 wr.drew A g from HI2.out.rd) (oneB (L s) g) rfl (sz_nonneg Hgp.out) (szN_pos Hgp.out) (by rw [S_size]; simp; omega) hsl
                rw [L_S, show groupL (oneB (L s) g) g (L s) (d ++ [t[a]]) = G from hG, Hnx.out] at hgr
                have Hgr := Lib.hid hgr
                rw [hG] at Hrs
                clear hgr hG
                obtain ⟨bb, hbb⟩ : ∃ bb, ((S G).toList == (t.extract 0 (a + 1)).toList) = bb := ⟨_, rfl⟩
                have hbb2 : (false || G == List.take (a + 1) (L t)) = bb := by
                  rw [← hbb, Bool.false_or, toList_L, toList_L, L_S, L_extract, List.drop_zero]
                have hrs := Hrs.out bb hbb2
                have Hrs1 := Lib.hid hrs
                have Hbb := Lib.hid hbb
                have hw1' : ((a : Int) + 1).toNat = a + 1 := by omega
                have ha3 : (0 : Int) ≤ (a : Int) + 1 := by omega
                clear hrs Hrs hbb hbb2
                cases bb
                · go_wp2_with fail
                  refine (IsDigit_calls _ _).mono ?_
                  rintro r w4 ⟨rfl, rfl⟩
                  rw [Hbd.out]
                  go_wp2_with fail
                  go_region_with (refine Hgr.out.mono ?_; rintro r w5 ⟨rfl, hb5⟩)
                  rw [Hbb.out]
                  go_simp
                  have hb5' : Below wr.heap.size wr w5 := ⟨hb5.os, hb5.tape, hb5.output, hb5.size, hb5.block⟩
                  obtain ⟨k1, k2, k3⟩ : InBox w w5 w.heap.size p s A c g e ∧ RCell w5 (w.heap.size + 1) ⟨#[]⟩ 0 0 ∧ RCell w5 w1.heap.size (S best.1) best.2 0 := ⟨HI2.out.step hb5', HC2.out.below hb5', HB2.out.below hb5'⟩
                  have K1 := Lib.hid k1
                  have K2 := Lib.hid k2
                  have K3 := Lib.hid k3
                  have hsz5 := hb5'.size
                  clear hb5 hb5' k1 k2 k3
                  go_wp2_with fail
                  refine ⟨⟨d ++ [t[a]], a + 1, false, best, F', by rw [Hnx.out], by go_num, rfl, by omega, by simp; omega, Hrs1.out.symm, ?_, K1, K2, K3, by omega⟩, by simp [intOf]; omega⟩
                  have := HF.out; have := HF'.out; exact Lib.hid (by omega)
                · go_wp2_with fail
                  refine (IsDigit_calls _ _).mono ?_
                  rintro r w4 ⟨rfl, rfl⟩
                  rw [Hbd.out]
                  go_wp2_with fail
                  go_region_with (refine Hgr.out.mono ?_; rintro r w5 ⟨rfl, hb5⟩)
                  rw [Hbb.out]
                  have hb5' : Below wr.heap.size wr w5 := ⟨hb5.os, hb5.tape, hb5.output, hb5.size, hb5.block⟩
                  obtain ⟨k1, k2, k3⟩ : InBox w w5 w.heap.size p s A c g e ∧ RCell w5 (w.heap.size + 1) ⟨#[]⟩ 0 0 ∧ RCell w5 w1.heap.size (S best.1) best.2 0 := ⟨HI2.out.step hb5', HC2.out.below hb5', HB2.out.below hb5'⟩
                  obtain ⟨m1, m2, m3⟩ := keep3 HR.out k1 k2 k3 (by omega) (S d ++ t.extract a (a + 1)) ((a : Int) + 1)
                  have K1 := Lib.hid m1
                  have K2 := Lib.hid m2
                  have K3 := Lib.hid m3
                  have hsz5 := hb5'.size
                  have z0' := k3.frozen 0
                  have z1' := k3.frozen 1
                  have z2' := k3.frozen 2
                  obtain ⟨r0', r1', r2'⟩ := k3.cells
                  clear hb5 hb5' k1 k2 k3 m1 m2 m3
                  go_wp2_with fail
                  refine ⟨⟨d ++ [t[a]], a + 1, false, (d ++ [t[a]], a + 1), F', by rw [Hnx.out], by go_num, rfl, by omega, by simp; omega, Hrs1.out.symm, ?_, K1.out, K2.out, ?_, ?_⟩, ?_⟩
                  · have := HF.out; have := HF'.out; exact Lib.hid (by omega)
                  · show RCell _ _ (S (d ++ [t[a]])) ((a + 1 : Nat) : Int) 0
                    rw [Hnx.out, show ((a + 1 : Nat) : Int) = (a : Int) + 1 from rfl]; exact K3.out
                  · simp; omega
                  · simp [intOf]; omega
              · have hrs := Hrs.out true rfl
                rw [if_pos rfl] at hrs
                have Hrs1 := Lib.hid hrs
                clear hrs Hrs
                go_wp2_with fail
                refine (IsDigit_calls _ _).mono ?_
                rintro r w4 ⟨rfl, rfl⟩
                rw [Hbd.out]
                go_wp2_with fail
                go_quiet (fail)
                go_wp2_with fail
                have hdn : Below wr.heap.size wr (wr.drewN nq) := below_drewN (Below.refl _ _) nq
                obtain ⟨k1, k2, k3⟩ := keep3 HR.out (HI2.out.step hdn) (HC2.out.below hdn) (HB2.out.below hdn) (by omega) (S d ++ t.extract a (a + 1)) ((a : Int) + 1)
                refine ⟨⟨d ++ [t[a]], a + 1, true, (d ++ [t[a]], a + 1), F', by rw [Hnx.out], by go_num, rfl, by omega, by simp; omega, Hrs1.out.symm, ?_, k1, k2, ?_, ?_⟩, ?_⟩
                · have := HF.out; have := HF'.out; exact Lib.hid (by omega)
                · show RCell _ _ (S (d ++ [t[a]])) ((a + 1 : Nat) : Int) 0
                  rw [Hnx.out, show ((a + 1 : Nat) : Int) = (a : Int) + 1 from rfl]; exact k3
                · simpa using hw1
                · simp [intOf]; omega
          · obtain rfl : a = t.size := by omega
            have Hfin := Lib.hid (show best = R from by rw [← Hs.out, rscan_end _ _ _ _ _ _ _ _ (by rw [L_length]; exact Nat.le_refl _)])
            go_wp2_with fail
            obtain ⟨q0, q1, q2⟩ := (RCell.set (w := wr) HC2.out (S best.1) best.2 0).cells
            exact bodyPost_ret (v := .agg #[.string (S best.1), .int .i64 best.2, .int .i64 0]) (by simp [results, Try.results14, go_sem, q0, q1, q2]) rfl ⟨by rw [Hfin.out], below_set3 HI2.out.b (Nat.le_succ _) _ _ _⟩
  · have hy1 : (y == 0) = false := beq_eq_false_iff_ne.2 hy0
    have hy2 : (y != 0) = true := by simp [hy0]
    rw [if_neg hy0] at hx
    subst hx
    have hR0 : R = ([], 0) := by rw [Hrr.out, if_neg hy0]
    subst hR0
    clear hy0
    go_enter Try.func14, Try.ntmps14
    go_wp2_with fail
    clear hw2 c0 c1 c2 c3
    refine Hft.out.mono ?_
    rintro r w1 ⟨rfl, hb1⟩
    have HI1 := Lib.hid (HI.out.step hb1)
    have HC1 := Lib.hid (HC.out.below hb1)
    obtain ⟨r0, r1, r2⟩ := HC1.out.cells
    have z0 := HC1.out.frozen 0
    have z1 := HC1.out.frozen 1
    have z2 := HC1.out.frozen 2
    clear hb1
    go_wp2_with fail
    obtain ⟨q0, q1, q2⟩ := (HC1.out.set ⟨#[]⟩ 0 x).cells
    exact bodyPost_ret (v := .agg #[.string ⟨#[]⟩, .int .i64 0, .int .i64 x]) (by simp [results, Try.results14, go_sem, q0, q1, q2]) rfl ⟨rfl, below_set3 HI1.out.b (Nat.le_succ _) _ _ _⟩
end Go.Proofs.Ytkdnlmnjhlogmaa
