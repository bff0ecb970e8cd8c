/- Sizes and Group, by the program and by the reference. -/
import Derived.Test.YtkdnlmnjhlogmaaQ
namespace Go.Proofs.Ytkdnlmnjhlogmaa
open Go.RowKit Go.Shelf
set_option linter.unusedSimpArgs false
set_option linter.unusedVariables false

def oneB (s : List UInt8) (g : List Int) : Bool := s.isEmpty || g.isEmpty
def sizesL (s : List UInt8) (g : List Int) (n : Int) : List Int := grp (sz (oneB s g) g) n
def grpL (s : List UInt8) (g : List Int) (d : List UInt8) : List UInt8 := groupL (oneB s g) g s d

theorem mark_len {l : List UInt8} (h : markB l = true) : 1 ≤ l.length ∧ l.length ≤ 4 := by
  simp only [markB, Bool.and_eq_true, decide_eq_true_eq] at h; exact h.2
theorem ok_facts {p s : List UInt8} {g : List Int} {e : Int} (h : okB p s g e = true) : (1 ≤ p.length ∧ p.length ≤ 4) ∧ s.length ≤ 4 ∧ g.length ≤ 8 ∧ (∀ x ∈ g, (1 : Int) ≤ x ∧ x ≤ 127) := by
  simp only [okB, Bool.and_eq_true, groupsB, apartB, Bool.or_eq_true] at h
  obtain ⟨⟨⟨h1, h2⟩, h3, h4⟩, h5⟩ := h
  refine ⟨mark_len h1, ?_, of_decide_eq_true h3, fun x hx => ?_⟩
  · rcases h2 with h2 | h2
    · rw [List.isEmpty_iff] at h2; subst h2; simp
    · exact (mark_len h2.1.1).2
  · rw [Bool.not_eq_true', List.any_eq_false] at h4
    have := h4 x hx
    simp only [grpB, decide_eq_true_eq] at this
    omega
theorem szN_pos {g : List Int} (h : ∀ x ∈ g, (1 : Int) ≤ x ∧ x ≤ 127) (h0 : g ≠ []) (k : Nat) : 1 ≤ szN g k := by
  have hl := List.length_pos_iff.2 h0
  have : ∃ x, g[min k (g.length - 1)]? = some x := ⟨g[min k (g.length - 1)]'(by omega), List.getElem?_eq_getElem _⟩
  obtain ⟨x, hx⟩ := this
  rw [szN, List.getD_eq_getElem?_getD, hx]
  exact (h x (List.mem_of_getElem? hx)).1
theorem sz_nonneg {s : List UInt8} {g : List Int} (h : ∀ x ∈ g, (1 : Int) ≤ x ∧ x ≤ 127) (k : Nat) : 0 ≤ sz (oneB s g) g k := by
  unfold sz
  split
  · exact Int.le_refl _
  · rename_i h1
    have h0 : g ≠ [] := fun e => by subst e; simp [oneB] at h1
    have := szN_pos h h0 k
    split <;> omega
theorem errB_ok {b : Bool} {n : Int} (h : errB b n = 0) : b = true ∧ 0 ≤ n ∧ n ≤ 20000 := by
  unfold errB at h
  repeat' split at h
  all_goals first | omega | (refine ⟨by assumption, ?_, ?_⟩ <;> omega)

set_option maxHeartbeats 2000000 in
theorem sizes_ref (p s : ByteArray) (A : Option Addr) (c : Nat) (g : List Int) (e n : Int) (w : World) (hp : p.size ≤ maxLen) (hs : s.size ≤ maxLen) (hg : g.length ≤ maxLen) (hR : Rd .i64 w A g) :
    Calls Try.prog 25 #[Loc p s A c g e, .int .i64 n] w fun r w' => ∃ v, r = .returned (.tuple #[v, .int .i64 (errB (okB (L p) (L s) g e) n)]) ∧ Out w' v (if errB (okB (L p) (L s) g e) n = 0 then sizesL (L s) g n else []) ∧ Below w.heap.size w w' := by
  have hI := InBox.new w p s A c g e hR
  have hft := fits_calls p s A c g e n _ hp hs hg hI.rd
  obtain ⟨x, hx⟩ : ∃ x, errB (okB (L p) (L s) g e) n = x := ⟨_, rfl⟩
  rw [hx] at hft ⊢
  obtain ⟨c0, c1, c2, c3⟩ := hI.bx.cells
  have Hft := Lib.hid hft
  have Hx := Lib.hid hx
  have HI := Lib.hid hI
  have Hg := Lib.hid hg
  clear hft hx hI hR hp hs hg
  by_cases hx0 : x = 0
  · have hx1 : (x == 0) = true := beq_iff_eq.2 hx0
    have hx2 : (x != 0) = false := by simp [hx0]
    rw [if_pos hx0]
    obtain ⟨hok, hn0, hn1⟩ := errB_ok (by rw [Hx.out]; exact hx0)
    obtain ⟨_, hsl, _, hgp⟩ := ok_facts hok
    have Hgp := Lib.hid hgp
    have Hx0 := Lib.hid hx0
    clear hx0 hok hgp
    go_enter Try.func25, Try.ntmps25
    go_wp2_with fail
    refine Hft.out.mono ?_
    rintro r w1 ⟨rfl, hb1⟩
    have HI1 := Lib.hid (HI.out.step hb1)
    clear c0 c1 c2 c3 hb1
    obtain ⟨c0, c1, c2, c3⟩ := HI1.out.bx.cells
    have hgr := groups_ref p s A c g e n w1 Hg.out HI1.out.rd (oneB (L s) g) rfl (szN_pos Hgp.out) hn0 (by omega)
    have Hgr := Lib.hid hgr
    clear hgr
    go_wp2_with fail
    refine Hgr.out.mono ?_
    rintro r w2 ⟨v, rfl, hout, hb2⟩
    have Hout := Lib.hid hout
    have Hb2 := Lib.hid hb2
    clear hout hb2
    go_wp2_with fail
    go_ret2
    exact ⟨v, by rw [Hx0.out]; rfl, Hout.out, HI1.out.b.trans (Hb2.out.mono HI1.out.b.size)⟩
  · have hx1 : (x == 0) = false := beq_eq_false_iff_ne.2 hx0
    have hx2 : (x != 0) = true := by simp [hx0]
    rw [if_neg hx0]
    clear hx0
    go_enter Try.func25, Try.ntmps25
    go_wp2_with fail
    refine Hft.out.mono ?_
    rintro r w1 ⟨rfl, hb1⟩
    have HI1 := Lib.hid (HI.out.step hb1)
    clear hb1
    go_wp2_with fail
    go_ret2
    exact ⟨_, rfl, ⟨none, 0, rfl, fun h => absurd rfl h, by simp⟩, HI1.out.b⟩

set_option maxHeartbeats 2000000 in
theorem group_ref (p s : ByteArray) (A : Option Addr) (c : Nat) (g : List Int) (e : Int) (d : ByteArray) (w : World) (hp : p.size ≤ maxLen) (hs : s.size ≤ maxLen) (hg : g.length ≤ maxLen) (hd : d.size ≤ maxLen) (hR : Rd .i64 w A g) (x : Int)
    (hx : x = if errB (okB (L p) (L s) g e) d.size = 0 then (if (L d).all dg then 0 else 6) else errB (okB (L p) (L s) g e) d.size) :
    Calls Try.prog 12 #[Loc p s A c g e, .string d] w fun r w' => r = .returned (.tuple #[.string (S (if x = 0 then grpL (L s) g (L d) else [])), .int .i64 x]) ∧ Below w.heap.size w w' := by
  have hI := InBox.new w p s A c g e hR
  have hft := fits_calls p s A c g e d.size _ hp hs hg hI.rd
  obtain ⟨y, hy⟩ : ∃ y, errB (okB (L p) (L s) g e) d.size = y := ⟨_, rfl⟩
  rw [hy] at hft hx
  obtain ⟨c0, c1, c2, c3⟩ := hI.bx.cells
  obtain ⟨al, hal⟩ : ∃ al, (L d).all dg = al := ⟨_, rfl⟩
  rw [hal] at hx
  have had := fun w => allDigits_calls d w hd
  rw [hal] at had
  have Had := Lib.hid had
  have Hft := Lib.hid hft
  have Hy := Lib.hid hy
  have HI := Lib.hid hI
  have Hg := Lib.hid hg
  unfold maxLen at hd
  clear hft hy hI hR hp hs hg had hal
  by_cases hy0 : y = 0
  · have hy1 : (y == 0) = true := beq_iff_eq.2 hy0
    have hy2 : (y != 0) = false := by simp [hy0]
    rw [if_pos hy0] at hx
    obtain ⟨hok, hn0, hn1⟩ := errB_ok (by rw [Hy.out]; exact hy0)
    obtain ⟨_, hsl, _, hgp⟩ := ok_facts hok
    have Hgp := Lib.hid hgp
    clear hy0 hok hgp
    cases al
    · obtain rfl : x = 6 := hx
      go_enter Try.func12, Try.ntmps12
      go_wp2_with fail
      refine Hft.out.mono ?_
      rintro r w1 ⟨rfl, hb1⟩
      have HI1 := Lib.hid (HI.out.step hb1)
      clear hb1
      go_wp2_with fail
      refine (Had.out _).mono ?_
      rintro r w2 ⟨rfl, rfl⟩
      go_wp2_with fail
      go_ret2
      exact ⟨rfl, HI1.out.b⟩
    · obtain rfl : x = 0 := hx
      rw [if_pos rfl]
      go_enter Try.func12, Try.ntmps12
      go_wp2_with fail
      refine Hft.out.mono ?_
      rintro r w1 ⟨rfl, hb1⟩
      have HI1 := Lib.hid (HI.out.step hb1)
      clear c0 c1 c2 c3 hb1
      obtain ⟨c0, c1, c2, c3⟩ := HI1.out.bx.cells
      have hgr := grouped_ref p s A c g e d w1 Hg.out HI1.out.rd (oneB (L s) g) rfl (sz_nonneg Hgp.out) (szN_pos Hgp.out) (by omega) (by rw [← L_length]; exact hsl)
      have Hgr := Lib.hid hgr
      clear hgr
      go_wp2_with fail
      refine (Had.out _).mono ?_
      rintro r w2 ⟨rfl, rfl⟩
      go_wp2_with fail
      refine Hgr.out.mono ?_
      rintro r w2 ⟨rfl, hb2⟩
      have Hb2 := Lib.hid hb2
      clear hb2
      go_wp2_with fail
      go_ret2
      exact ⟨rfl, HI1.out.b.trans (Hb2.out.mono HI1.out.b.size)⟩
  · have hy1 : (y == 0) = false := beq_eq_false_iff_ne.2 hy0
    have hy2 : (y != 0) = true := by simp [hy0]
    rw [if_neg hy0] at hx
    subst hx
    rw [if_neg hy0]
    clear hy0
    go_enter Try.func12, Try.ntmps12
    go_wp2_with fail
    refine Hft.out.mono ?_
    rintro r w1 ⟨rfl, hb1⟩
    have HI1 := Lib.hid (HI.out.step hb1)
    clear hb1
    go_wp2_with fail
    go_ret2
    exact ⟨rfl, HI1.out.b⟩

/-! ### The program's, which panic and recover -/
set_option maxHeartbeats 2000000 in
theorem sizes_prog (p s : ByteArray) (A : Option Addr) (c : Nat) (g : List Int) (e n : Int) (w : World) (hp : p.size ≤ maxLen) (hs : s.size ≤ maxLen) (hg : g.length ≤ maxLen) (hR : Rd .i64 w A g) :
    Calls Try.prog 21 #[Loc p s A c g e, .int .i64 n] w fun r w' => ∃ v, r = .returned (.tuple #[v, .int .i64 (errB (okB (L p) (L s) g e) n)]) ∧ Out w' v (if errB (okB (L p) (L s) g e) n = 0 then sizesL (L s) g n else []) ∧ Below w.heap.size w w' := by
  have hI := (InBox.new w p s A c g e hR)
  obtain ⟨x, hx⟩ : ∃ x, errB (okB (L p) (L s) g e) n = x := ⟨_, rfl⟩
  rw [hx]
  obtain ⟨w2, hw2⟩ : ∃ w2, (w.alloc (.cells #[.string p, .string s, .slice A g.length c, .int .i64 e] 24)).alloc (.cells #[.int .i64 0] 26) = w2 := ⟨_, rfl⟩
  have hI2 : InBox w w2 w.heap.size p s A c g e := by rw [← hw2]; exact hI.step ((Below.refl _ _).alloc (Nat.le_refl _) _)
  have hE2 : w2.heap[w.heap.size + 1]? = some (.cells #[.int .i64 0] 26 (0, 0)) := by
    rw [← hw2]; have := World.alloc_heap_new (w.alloc (.cells #[.string p, .string s, .slice A g.length c, .int .i64 e] 24)) (.cells #[.int .i64 0] 26); rwa [World.size_alloc] at this
  obtain ⟨c0, c1, c2, c3⟩ := hI2.bx.cells
  have Hx := Lib.hid hx
  have HI := Lib.hid hI2
  have HE := Lib.hid hE2
  have Hg := Lib.hid hg
  by_cases hx0 : x = 0
  · rw [if_pos hx0, sizesL]
    obtain ⟨hok, hn0, hn1⟩ := errB_ok (by rw [Hx.out]; exact hx0)
    obtain ⟨_, hsl, _, hgp⟩ := ok_facts hok
    have hck := check_yes p s A c g e n w2 hp hs hg hI2.rd (by rw [Hx.out]; exact hx0)
    have Hck := Lib.hid hck
    have Hgp := Lib.hid hgp
    have Hx0 := Lib.hid hx0
    clear hck hx0 hx hI hI2 hE2 hR hp hs hg hok hgp
    go_enter_defers Try.func21, Try.ntmps21
    go_wp2_with fail
    clear hw2 c0 c1 c2 c3
    refine Hck.out.mono ?_
    rintro r w1 ⟨rfl, hb1⟩
    have HI1 := Lib.hid (HI.out.step hb1)
    have hE1 : w1.heap[w.heap.size + 1]? = some (.cells #[.int .i64 0] 26 (0, 0)) := (hb1.block _ (lt_of_block HE.out)).trans HE.out
    have HE1 := Lib.hid hE1
    obtain ⟨c0, c1, c2, c3⟩ := HI1.out.bx.cells
    have hgr := groups_calls p s A c g e n w1 Hg.out HI1.out.rd (oneB (L s) g) rfl (sz_nonneg Hgp.out) hn0 (by omega)
    have Hgr := Lib.hid hgr
    clear hgr hb1 hE1
    go_wp2_with fail
    refine Hgr.out.mono ?_
    rintro r w3 ⟨v, rfl, hout, hb2⟩
    obtain ⟨A3, c3', rfl, hrd3, hl3, hl4⟩ := hout
    have Hl4 := Lib.hid hl4
    clear hl4
    have hE3 : w3.heap[w.heap.size + 1]? = some (.cells #[.int .i64 0] 26 (0, 0)) := (hb2.block _ (lt_of_block HE1.out)).trans HE1.out
    have ce := cell_of_one hE3
    have cz := free_of_one hE3
    have HE3 := Lib.hid hE3
    have Hrd3 := Lib.hid hrd3
    have Hb2 := Lib.hid hb2
    clear hrd3 hb2 hE3
    go_wp2_with fail
    refine leaves_cons (f := 29) (args := #[.pointer (some ⟨w.heap.size + 1, 0, none⟩)]) (by simp) (by simp [go_sem]) ?_
    refine (caught_idle _ _).mono ?_
    rintro r u' w'' ⟨rfl, rfl, rfl⟩
    have hc : (w3.setCell ⟨w.heap.size + 1, 0, none⟩ (.int .i64 0)).cell? ⟨w.heap.size + 1, 0, none⟩ = some (.int .i64 0) := World.cell?_setCell_same _ _ _ ce
    have hbe : Below w.heap.size w (w3.setCell ⟨w.heap.size + 1, 0, none⟩ (.int .i64 0)) := (HI1.out.b.trans (Hb2.out.mono HI1.out.b.size)).setCell (p := ⟨w.heap.size + 1, 0, none⟩) (Nat.le_succ _) _
    refine ⟨.tuple #[.slice A3 (grp (sz (oneB (L s) g) g) n).length c3', .int .i64 0], by simp [results, Try.results21, go_sem, hc], _, by rw [Hx0.out], ⟨A3, c3', rfl, ?_, hl3, Hl4.out⟩, hbe⟩
    intro hne
    obtain ⟨b', o', rfl, hcc⟩ := Hrd3.out hne
    refine ⟨b', o', rfl, fun j y hy => ?_⟩
    have h1 := hcc j y hy
    by_cases hq : (⟨w.heap.size + 1, 0, none⟩ : Addr) = ⟨b', o' + j, none⟩
    · rw [← hq] at h1 ⊢
      rw [hc, ← cell_of_one HE3.out, h1]
    · rw [World.cell?_setCell_other _ _ _ _ hq]; exact h1
  · rw [if_neg hx0]
    have hck := check_no p s A c g e n x w2 hp hs hg hI2.rd hx hx0
    have Hck := Lib.hid hck
    clear hck hx0 hx hI hI2 hE2 hR hp hs hg
    go_enter_defers Try.func21, Try.ntmps21
    go_wp2_with fail
    clear hw2 c0 c1 c2 c3
    refine Hck.out.mono ?_
    rintro r w1 ⟨rfl, hb1⟩
    have hE1 : w1.heap[w.heap.size + 1]? = some (.cells #[.int .i64 0] 26 (0, 0)) := (hb1.block _ (lt_of_block HE.out)).trans HE.out
    refine leaves_cons (f := 29) (args := #[.pointer (some ⟨w.heap.size + 1, 0, none⟩)]) (by simp) (by simp [go_sem]) ?_
    refine (caught_fail (w.heap.size + 1) x 0 _ hE1).mono ?_
    rintro r u' w'' ⟨rfl, rfl, rfl⟩
    have hc : ((w1.setCell ⟨w.heap.size + 1, 0, none⟩ (.int .i64 x)).alloc (.cells #[.int .i64 x] 71)).cell? ⟨w.heap.size + 1, 0, none⟩ = some (.int .i64 x) := by
      rw [World.cell?_alloc_past (hn := by rw [World.size_setCell]; exact lt_of_block hE1)]
      exact World.cell?_setCell_same _ _ _ (cell_of_one hE1)
    have hbe : Below w.heap.size w ((w1.setCell ⟨w.heap.size + 1, 0, none⟩ (.int .i64 x)).alloc (.cells #[.int .i64 x] 71)) := ((HI.out.b.trans (hb1.mono HI.out.b.size)).setCell (p := ⟨w.heap.size + 1, 0, none⟩) (Nat.le_succ _) _).alloc (by rw [World.size_setCell]; exact (HI.out.b.trans (hb1.mono HI.out.b.size)).size) _
    exact ⟨.tuple #[.slice none 0 0, .int .i64 x], by simp [results, Try.results21, go_sem, hc], _, rfl, ⟨none, 0, rfl, fun h => absurd rfl h, by simp⟩, hbe⟩
end Go.Proofs.Ytkdnlmnjhlogmaa
