/- Group, by the program. -/
import Derived.Test.YtkdnlmnjhlogmaaR
namespace Go.Proofs.Ytkdnlmnjhlogmaa
open Go.RowKit Go.Shelf
set_option linter.unusedSimpArgs false
set_option linter.unusedVariables false

/-- The cell of a named error that a deferred call may set. -/
def ECell (w : World) (b : Nat) (x : Int) : Prop := w.heap[b]? = some (.cells #[.int .i64 x] 26 (0, 0))
theorem ECell.below {w w' : World} {b : Nat} {x : Int} (h : ECell w b x) (hb : Below w.heap.size w w') : ECell w' b x := (hb.block _ (lt_of_block h)).trans h
theorem ECell.set {w : World} {b : Nat} {x : Int} (h : ECell w b x) (y : Int) : (w.setCell ⟨b, 0, none⟩ (.int .i64 y)).cell? ⟨b, 0, none⟩ = some (.int .i64 y) := World.cell?_setCell_same _ _ _ (cell_of_one h)
theorem ECell.setA {w : World} {b : Nat} {x : Int} (h : ECell w b x) (y : Int) (o : Obj) : ((w.setCell ⟨b, 0, none⟩ (.int .i64 y)).alloc o).cell? ⟨b, 0, none⟩ = some (.int .i64 y) := by
  rw [World.cell?_alloc_past (hn := by rw [World.size_setCell]; exact lt_of_block h)]; exact h.set y
theorem below_set {w0 w : World} {b : Nat} (h : Below w0.heap.size w0 w) (hb : w0.heap.size ≤ b) (u : Value) : Below w0.heap.size w0 (w.setCell ⟨b, 0, none⟩ u) := h.setCell (p := ⟨b, 0, none⟩) hb u
theorem below_setA {w0 w : World} {b : Nat} (h : Below w0.heap.size w0 w) (hb : w0.heap.size ≤ b) (u : Value) (o : Obj) : Below w0.heap.size w0 ((w.setCell ⟨b, 0, none⟩ u).alloc o) := (below_set h hb u).alloc (by rw [World.size_setCell]; exact h.size) o
theorem all_any (l : List UInt8) : (ints l).any (fun c => !digB c) = !l.all dg := by
  rw [ints_any]
  induction l with
  | nil => rfl
  | cons a l ih => rw [List.any_cons, List.all_cons, ih, dg]; cases digB a.toNat <;> simp

set_option maxHeartbeats 2000000 in
theorem group_prog (p s : ByteArray) (A : Option Addr) (c : Nat) (g : List Int) (e : Int) (d : ByteArray) (w : World) (hp : p.size ≤ maxLen) (hs : s.size ≤ maxLen) (hg : g.length ≤ maxLen) (hd : d.size ≤ maxLen) (hR : Rd .i64 w A g) (x : Int)
    (hx : x = if errB (okB (L p) (L s) g e) d.size = 0 then (if (L d).all dg then 0 else 6) else errB (okB (L p) (L s) g e) d.size) :
    Calls Try.prog 11 #[Loc p s A c g e, .string d] w fun r w' => r = .returned (.tuple #[.string (S (if x = 0 then grpL (L s) g (L d) else [])), .int .i64 x]) ∧ Below w.heap.size w w' := by
  have hI := (InBox.new w p s A c g e hR)
  obtain ⟨y, hy⟩ : ∃ y, errB (okB (L p) (L s) g e) d.size = y := ⟨_, rfl⟩
  rw [hy] at hx
  obtain ⟨w2, hw2⟩ : ∃ w2, (w.alloc (.cells #[.string p, .string s, .slice A g.length c, .int .i64 e] 24)).alloc (.cells #[.int .i64 0] 26) = w2 := ⟨_, rfl⟩
  have hI2 : InBox w w2 w.heap.size p s A c g e := by rw [← hw2]; exact hI.step ((Below.refl _ _).alloc (Nat.le_refl _) _)
  have hE2 : ECell w2 (w.heap.size + 1) 0 := by
    unfold ECell; rw [← hw2]; have := World.alloc_heap_new (w.alloc (.cells #[.string p, .string s, .slice A g.length c, .int .i64 e] 24)) (.cells #[.int .i64 0] 26); rwa [World.size_alloc] at this
  obtain ⟨c0, c1, c2, c3⟩ := hI2.bx.cells
  have Hy := Lib.hid hy
  have HI := Lib.hid hI2
  have HE := Lib.hid hE2
  have Hg := Lib.hid hg
  have Hd := Lib.hid hd
  by_cases hy0 : y = 0
  · rw [if_pos hy0] at hx
    obtain ⟨hok, hn0, hn1⟩ := errB_ok (by rw [Hy.out]; exact hy0)
    obtain ⟨_, hsl, _, hgp⟩ := ok_facts hok
    have hck := check_yes p s A c g e d.size w2 hp hs hg hI2.rd (by rw [Hy.out]; exact hy0)
    have Hck := Lib.hid hck
    have Hgp := Lib.hid hgp
    have Hy0 := Lib.hid hy0
    have hl : (ints (L d)).length = d.size := by rw [ints_length, L_length]
    have Hl := Lib.hid hl
    have cv := conv_s d
    have hct := fun w A c h => contains_bytes_at 33 (fun c => !digB c) says_notdigit (fun _ _ => rfl) A c d.size (ints (L d)) w hl hd h
    rw [all_any] at hct
    obtain ⟨al, hal⟩ : ∃ al, (L d).all dg = al := ⟨_, rfl⟩
    rw [hal] at hct hx
    have Hct := Lib.hid hct
    clear hck hy0 hy hI hI2 hE2 hR hp hs hg hd hok hgp hl hct hal
    cases al
    · obtain rfl : x = 6 := hx
      rw [if_neg (by decide)]
      go_enter_defers Try.func11, Try.ntmps11
      go_wp2_with fail
      clear hw2 c0 c1 c2 c3
      refine Hck.out.mono ?_
      rintro r w1 ⟨rfl, hb1⟩
      have HI1 := Lib.hid (HI.out.step hb1)
      have HE1 := Lib.hid (HE.out.below hb1)
      clear hb1
      go_wp2_with fail
      refine (Hct.out _ _ _ (rd_bytes _ _)).mono ?_
      rintro r w3 ⟨rfl, rfl⟩
      go_wp2_with fail
      refine (need_no _ _).mono ?_
      rintro r w3 ⟨rfl, rfl⟩
      have hb3 := below_bytes (Below.refl w1.heap.size w1) (Nat.le_refl _) 5 d
      have hE3 := HE1.out.below hb3
      refine leaves_cons (f := 29) (args := #[.pointer (some ⟨w.heap.size + 1, 0, none⟩)]) (by simp) (by simp [go_sem]) ?_
      refine (caught_fail (w.heap.size + 1) 6 0 _ hE3).mono ?_
      rintro r u' w'' ⟨rfl, rfl, rfl⟩
      have hc := hE3.setA 6 (.cells #[.int .i64 6] 71)
      exact ⟨.tuple #[.string (S []), .int .i64 6], by simp [results, Try.results11, go_sem, hc]; rfl, rfl, below_setA (HI1.out.b.trans (hb3.mono HI1.out.b.size)) (Nat.le_succ _) _ _⟩
    · obtain rfl : x = 0 := hx
      rw [if_pos rfl]
      go_enter_defers Try.func11, Try.ntmps11
      go_wp2_with fail
      clear hw2 c0 c1 c2 c3
      refine Hck.out.mono ?_
      rintro r w1 ⟨rfl, hb1⟩
      have HI1 := Lib.hid (HI.out.step hb1)
      have HE1 := Lib.hid (HE.out.below hb1)
      clear hb1
      go_wp2_with fail
      refine (Hct.out _ _ _ (rd_bytes _ _)).mono ?_
      rintro r w3 ⟨rfl, rfl⟩
      go_wp2_with fail
      refine (need_ok _ _).mono ?_
      rintro r w3 ⟨rfl, rfl⟩
      have hb3 := below_bytes (Below.refl w1.heap.size w1) (Nat.le_refl _) 5 d
      obtain ⟨w3, hw3⟩ : ∃ w3, Lib.bytesWorld w1 5 d = w3 := ⟨_, rfl⟩
      rw [hw3] at hb3
      have HI3 := Lib.hid (HI1.out.step hb3)
      have HE3 := Lib.hid (HE1.out.below hb3)
      rw [hw3]
      clear hb3 hw3
      obtain ⟨c0, c1, c2, c3⟩ := HI3.out.bx.cells
      have hgr := group_calls p s A c g e d w3 Hg.out HI3.out.rd (oneB (L s) g) rfl (sz_nonneg Hgp.out) (by omega) (by rw [← L_length]; exact hsl)
      have Hgr := Lib.hid hgr
      clear hgr
      go_wp2_with fail
      refine Hgr.out.mono ?_
      rintro r w4 ⟨rfl, hb4⟩
      have hE4 := HE3.out.below hb4
      have ce := cell_of_one hE4
      have cz := free_of_one hE4
      have HE4 := Lib.hid hE4
      have Hb4 := Lib.hid hb4
      clear hb4 hE4
      go_wp2_with fail
      refine leaves_cons (f := 29) (args := #[.pointer (some ⟨w.heap.size + 1, 0, none⟩)]) (by simp) (by simp [go_sem]) ?_
      refine (caught_idle _ _).mono ?_
      rintro r u' w'' ⟨rfl, rfl, rfl⟩
      have hc := HE4.out.set 0
      exact ⟨.tuple #[.string (S (grpL (L s) g (L d))), .int .i64 0], by simp [results, Try.results11, go_sem, hc]; rfl, rfl, below_set (HI3.out.b.trans (Hb4.out.mono HI3.out.b.size)) (Nat.le_succ _) _⟩
  · rw [if_neg hy0] at hx
    subst hx
    rw [if_neg hy0]
    have hck := check_no p s A c g e d.size x w2 hp hs hg hI2.rd Hy.out hy0
    have Hck := Lib.hid hck
    clear hck hy0 hy hI hI2 hE2 hR hp hs hg hd
    go_enter_defers Try.func11, Try.ntmps11
    go_wp2_with fail
    clear hw2 c0 c1 c2 c3
    refine Hck.out.mono ?_
    rintro r w1 ⟨rfl, hb1⟩
    have hE1 := HE.out.below hb1
    refine leaves_cons (f := 29) (args := #[.pointer (some ⟨w.heap.size + 1, 0, none⟩)]) (by simp) (by simp [go_sem]) ?_
    refine (caught_fail (w.heap.size + 1) x 0 _ hE1).mono ?_
    rintro r u' w'' ⟨rfl, rfl, rfl⟩
    have hc := hE1.setA x (.cells #[.int .i64 x] 71)
    exact ⟨.tuple #[.string (S []), .int .i64 x], by simp [results, Try.results11, go_sem, hc]; rfl, rfl, below_setA (HI.out.b.trans (hb1.mono HI.out.b.size)) (Nat.le_succ _) _ _⟩
end Go.Proofs.Ytkdnlmnjhlogmaa
