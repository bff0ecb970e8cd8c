/- The law LocaleSizes: the walk. -/
import Derived.Test.YtkdnlmnjhlogmaaZW
import Derived.Deep.RegionHeld3
import Derived.Deep.DrawnRows
namespace Go.Proofs.Ytkdnlmnjhlogmaa
open Go.RowKit Go.Shelf
set_option linter.unusedSimpArgs false
set_option linter.unusedVariables false
attribute [local go_sem ↓] Go.wp_at_zero Go.wp_at_succ

/-- All that the last region reads. -/
abbrev SS (w : World) (n bp bq : Nat) (p s : ByteArray) (A : Option Addr) (c : Nat) (g : List Int) (e : Int) (A1 A2 : Option Addr) (l : List Int) (w' : World) : Prop :=
  (w'.cell? ⟨n, 0, none⟩ = some (.string p) ∧ w'.cell? ⟨n, 1, none⟩ = some (.string s) ∧ w'.cell? ⟨n, 2, none⟩ = some (.slice A g.length c) ∧ w'.cell? ⟨n, 3, none⟩ = some (.int .i64 e)) ∧
  (w'.cell? ⟨bp, 0, none⟩ = some (.string ⟨#[46]⟩) ∧ w'.cell? ⟨bp, 1, none⟩ = some (.string ⟨#[]⟩) ∧ w'.cell? ⟨bp, 2, none⟩ = some (.slice none 0 0) ∧ w'.cell? ⟨bp, 3, none⟩ = some (.int .i64 1)) ∧
  (w'.cell? ⟨bq, 0, none⟩ = some (.string ⟨#[46]⟩) ∧ w'.cell? ⟨bq, 1, none⟩ = some (.string ⟨#[]⟩) ∧ w'.cell? ⟨bq, 2, none⟩ = some (.slice none 0 0) ∧ w'.cell? ⟨bq, 3, none⟩ = some (.int .i64 1)) ∧
  Hid (InBox w w' n p s A c g e) ∧ Hid (Box w' bp ⟨#[46]⟩ ⟨#[]⟩ none 0 [] 1) ∧ Hid (Box w' bq ⟨#[46]⟩ ⟨#[]⟩ none 0 [] 1) ∧ Hid (Rd .i64 w' A1 l) ∧ Hid (Rd .i64 w' A2 l)
theorem SS.of {w : World} {n bp bq : Nat} {p s : ByteArray} {A : Option Addr} {c : Nat} {g : List Int} {e : Int} {A1 A2 : Option Addr} {l : List Int} {w' : World} (h1 : InBox w w' n p s A c g e) (h2 : Box w' bp ⟨#[46]⟩ ⟨#[]⟩ none 0 [] 1) (h3 : Box w' bq ⟨#[46]⟩ ⟨#[]⟩ none 0 [] 1) (h4 : Rd .i64 w' A1 l) (h5 : Rd .i64 w' A2 l) : SS w n bp bq p s A c g e A1 A2 l w' :=
  ⟨h1.bx.cells, h2.cells, h3.cells, Lib.hid h1, Lib.hid h2, Lib.hid h3, Lib.hid h4, Lib.hid h5⟩
theorem SS.below {w : World} {n bp bq : Nat} {p s : ByteArray} {A : Option Addr} {c : Nat} {g : List Int} {e : Int} {A1 A2 : Option Addr} {l : List Int} {W W' : World} (hb : Hid (Below W.heap.size W W')) (h : SS w n bp bq p s A c g e A1 A2 l W) : SS w n bp bq p s A c g e A1 A2 l W' :=
  SS.of (h.2.2.2.1.out.step hb.out) (h.2.2.2.2.1.out.below hb.out h.2.2.2.2.1.out.lt) (h.2.2.2.2.2.1.out.below hb.out h.2.2.2.2.2.1.out.lt) (h.2.2.2.2.2.2.1.out.below hb.out) (h.2.2.2.2.2.2.2.out.below hb.out)
theorem below_drew (w : World) : Below w.heap.size w w.drew := ⟨rfl, rfl, rfl, Nat.le_refl _, fun _ _ => rfl⟩
theorem SS.drew {w : World} {n bp bq : Nat} {p s : ByteArray} {A : Option Addr} {c : Nat} {g : List Int} {e : Int} {A1 A2 : Option Addr} {l : List Int} {W : World} (h : SS w n bp bq p s A c g e A1 A2 l W) : SS w n bp bq p s A c g e A1 A2 l W.drew := SS.below (Lib.hid (below_drew W)) h
theorem SS.rd {w : World} {n bp bq : Nat} {p s : ByteArray} {A : Option Addr} {c : Nat} {g : List Int} {e : Int} {A1 A2 : Option Addr} {l : List Int} {W : World} (h : SS w n bp bq p s A c g e A1 A2 l W) : Rd .i64 W A g := h.2.2.2.1.out.rd
theorem SS.r1 {w : World} {n bp bq : Nat} {p s : ByteArray} {A : Option Addr} {c : Nat} {g : List Int} {e : Int} {A1 A2 : Option Addr} {l : List Int} {W : World} (h : SS w n bp bq p s A c g e A1 A2 l W) : Rd .i64 W A1 l := h.2.2.2.2.2.2.1.out
theorem SS.r2 {w : World} {n bp bq : Nat} {p s : ByteArray} {A : Option Addr} {c : Nat} {g : List Int} {e : Int} {A1 A2 : Option Addr} {l : List Int} {W : World} (h : SS w n bp bq p s A c g e A1 A2 l W) : Rd .i64 W A2 l := h.2.2.2.2.2.2.2.out
theorem SS.b {w : World} {n bp bq : Nat} {p s : ByteArray} {A : Option Addr} {c : Nat} {g : List Int} {e : Int} {A1 A2 : Option Addr} {l : List Int} {W : World} (h : SS w n bp bq p s A c g e A1 A2 l W) : Below w.heap.size w W := h.2.2.2.1.out.b
theorem ints_one (A1 : Option Addr) (c1 : Nat) (A2 : Option Addr) (c2 : Nat) (l : List Int) (w : World) (hl : l.length ≤ 9223372036854775807) (h1 : Rd .i64 w A1 l) (h2 : Rd .i64 w A2 l) :
    Calls Try.prog 22 #[.slice A1 l.length c1, .slice A2 l.length c2] w fun e w' => e = .returned (.bool true) ∧ Below w.heap.size w w' :=
  (ints_same A1 c1 A2 c2 l w hl h1 h2 0).mono (by
    rintro e w' ⟨rfl, m, rfl⟩
    exact ⟨rfl, below_drewN (Below.refl _ _) _⟩)

set_option maxRecDepth 10000 in
set_option maxHeartbeats 4000000 in
theorem sizesLaw_calls (p s : ByteArray) (A : Option Addr) (c : Nat) (g : List Int) (e n bt : Int) (w : World) (hp : p.size ≤ maxLen) (hs : s.size ≤ maxLen) (hg : g.length ≤ maxLen) (hn : (Lit.int .i64 n).wf = true) (hbt : (Lit.int .i64 bt).wf = true) (hR : Rd .i64 w A g) :
    Calls Try.prog 9 #[Loc p s A c g e, .int .i64 n, .int .i64 bt] w fun r w' => r = .returned (.bool true) ∧ Below w.heap.size w w' := by
  have hI := InBox.new w p s A c g e hR
  have HI := Lib.hid hI
  obtain ⟨c0, c1, c2, c3⟩ := hI.bx.cells
  clear hI hR hn hbt
  have main : ((2000 < n ∧ n ≤ 20000) ∨ ((n ≤ 2000 ∨ 20000 < n) ∧ 500 < bt ∧ bt ≤ 20000)) ∨ ((n ≤ 2000 ∨ 20000 < n) ∧ (bt ≤ 500 ∨ 20000 < bt)) := by omega
  rcases main with m | m
  · clear hp hs hg
    rcases m with ⟨m1, m2⟩ | ⟨m1 | m1, m2, m3⟩
    all_goals
      go_enter Try.func9, Try.ntmps9
      go_wp2_with fail
      refine (awake_calls _).mono ?_
      rintro r w1 ⟨rfl, hb1⟩
      have Hb1 := Lib.hid (HI.out.step hb1)
      clear hb1
      go_wp2_with fail
      go_ret
      exact ⟨rfl, Hb1.out.b⟩
  · have hS := fun W hR => sizes_prog p s A c g e n W hp hs hg hR
    have hT := fun W hR => sizes_ref p s A c g e n W hp hs hg hR
    have hC := fun W hR => check_calls p s A c g e W hp hs hg hR
    have hD := fun W hR => refCheck_calls p s A c g e W hp hs hg hR
    obtain ⟨y3, hy3⟩ : ∃ y : Int, (if okB (L p) (L s) g e then (0 : Int) else 1) = y := ⟨_, rfl⟩
    rw [hy3] at hC hD
    obtain ⟨x1, hx1⟩ : ∃ x, errB (okB (L p) (L s) g e) n = x := ⟨_, rfl⟩
    rw [hx1] at hS hT
    obtain ⟨l1, hl1⟩ : ∃ l, (if x1 = 0 then sizesL (L s) g n else []) = l := ⟨_, rfl⟩
    rw [hl1] at hS hT
    have hRM : ∃ (x2 : Int) (R : Nat), (∀ W, Rd .i64 W A g → Calls Try.prog 23 #[Loc p s A c g e, .int .i64 bt] W fun r w' => r = .returned (.tuple #[.int .i64 R, .int .i64 x2]) ∧ Below W.heap.size W w') ∧
        (∀ W, Rd .i64 W A g → Calls Try.prog 26 #[Loc p s A c g e, .int .i64 bt] W fun r w' => r = .returned (.tuple #[.int .i64 R, .int .i64 x2]) ∧ Below W.heap.size W w') := by
      obtain ⟨x2, hx2⟩ : ∃ x, errB (okB (L p) (L s) g e) bt = x := ⟨_, rfl⟩
      by_cases h : x2 = 0
      · obtain ⟨hok, h0, h1⟩ := errB_ok (hx2.trans h)
        obtain ⟨_, hsl, _, hgp⟩ := ok_facts hok
        have hf := sz_nonneg (s := L s) hgp
        obtain ⟨R, a1, a2, a3, a4⟩ := room_law _ hf (s.size : Int) bt (by omega) h0
        refine ⟨x2, R, fun W hR => room_prog p s A c g e bt W hp hs hg hR x2 R hx2 (by rw [if_pos h, a1]), fun W hR => room_ref p s A c g e bt W hp hs hg hR x2 R hx2 (fun h2 => absurd h h2) (fun _ => ⟨by omega, fun m hm => ?_, a4⟩)⟩
        rcases a3 with a3 | a3
        · omega
        · exact fits_less _ hf s.size bt (by omega) R m hm a3
      · exact ⟨x2, 0, fun W hR => room_prog p s A c g e bt W hp hs hg hR x2 0 hx2 (by rw [if_neg h]), fun W hR => room_ref p s A c g e bt W hp hs hg hR x2 0 hx2 (fun _ => rfl) (fun h2 => absurd h2 h)⟩
    obtain ⟨x2, R, hM, hN⟩ := hRM
    have HS := Lib.hid hS
    have HT := Lib.hid hT
    have HC := Lib.hid hC
    have HD := Lib.hid hD
    have HM := Lib.hid hM
    have HN := Lib.hid hN
    clear hS hT hC hD hM hN hy3 hx1 hl1 hp hs hg
    rcases m with ⟨m1 | m1, m2 | m2⟩
    all_goals
      go_enter Try.func9, Try.ntmps9
      go_wp2_with fail
      refine (plain_prog _).mono ?_
      rintro r w1 ⟨rfl, hb1⟩
      have I1 := Lib.hid (HI.out.step hb1)
      clear hb1 c0 c1 c2 c3
      obtain ⟨c0, c1, c2, c3⟩ := I1.out.bx.cells
      obtain ⟨w2, hw2⟩ : ∃ w2, w1.alloc (.cells #[.string ⟨#[46]⟩, .string ⟨#[]⟩, .slice none 0 0, .int .i64 1] 24) = w2 := ⟨_, rfl⟩
      have bp2 : Box w2 w1.heap.size ⟨#[46]⟩ ⟨#[]⟩ none 0 [] 1 := by rw [← hw2]; exact Box.new w1 ⟨#[46]⟩ ⟨#[]⟩ none 0 [] 1
      have i2 : InBox w w2 w.heap.size p s A c g e := by rw [← hw2]; exact I1.out.step ((Below.refl _ _).alloc (Nat.le_refl _) _)
      have I2 := Lib.hid i2
      have BP2 := Lib.hid bp2
      clear bp2 i2 c0 c1 c2 c3
      go_wp2_with fail
      clear hw2
      refine (plain_ref _).mono ?_
      rintro r w3 ⟨rfl, hb3⟩
      have I3 := Lib.hid (I2.out.step hb3)
      have BP3 := Lib.hid (BP2.out.below hb3 BP2.out.lt)
      clear hb3
      obtain ⟨w4, hw4⟩ : ∃ w4, w3.alloc (.cells #[.string ⟨#[46]⟩, .string ⟨#[]⟩, .slice none 0 0, .int .i64 1] 24) = w4 := ⟨_, rfl⟩
      have bq4 : Box w4 w3.heap.size ⟨#[46]⟩ ⟨#[]⟩ none 0 [] 1 := by rw [← hw4]; exact Box.new w3 ⟨#[46]⟩ ⟨#[]⟩ none 0 [] 1
      have hb4 : Below w3.heap.size w3 w4 := by rw [← hw4]; exact (Below.refl _ _).alloc (Nat.le_refl _) _
      have I4 := Lib.hid (I3.out.step hb4)
      have BP4 := Lib.hid (BP3.out.below hb4 BP3.out.lt)
      have BQ4 := Lib.hid bq4
      clear bq4 hb4
      obtain ⟨c0, c1, c2, c3⟩ := I4.out.bx.cells
      go_wp2_with fail
      clear hw4
      refine (HS.out _ I4.out.rd).mono ?_
      rintro r w5 ⟨_, rfl, ⟨A5, k5, rfl, hr5, hl5, _, _⟩, hb5⟩
      have I5 := Lib.hid (I4.out.step hb5)
      have BP5 := Lib.hid (BP4.out.below hb5 BP4.out.lt)
      have BQ5 := Lib.hid (BQ4.out.below hb5 BQ4.out.lt)
      have R5 := Lib.hid hr5
      clear hb5 c0 c1 c2 c3 hr5
      obtain ⟨c0, c1, c2, c3⟩ := I5.out.bx.cells
      go_wp2_with fail
      refine (HT.out _ I5.out.rd).mono ?_
      rintro r w6 ⟨_, rfl, ⟨A6, k6, rfl, hr6, _, _, _⟩, hb6⟩
      have I6 := Lib.hid (I5.out.step hb6)
      have BP6 := Lib.hid (BP5.out.below hb6 BP5.out.lt)
      have BQ6 := Lib.hid (BQ5.out.below hb6 BQ5.out.lt)
      have R5 := Lib.hid (R5.out.below hb6)
      have R6 := Lib.hid hr6
      clear hb6 c0 c1 c2 c3 hr6
      obtain ⟨c0, c1, c2, c3⟩ := I6.out.bx.cells
      go_wp2_with fail
      refine (HM.out _ I6.out.rd).mono ?_
      rintro r w7 ⟨rfl, hb7⟩
      have I7 := Lib.hid (I6.out.step hb7)
      have BP7 := Lib.hid (BP6.out.below hb7 BP6.out.lt)
      have BQ7 := Lib.hid (BQ6.out.below hb7 BQ6.out.lt)
      have R5 := Lib.hid (R5.out.below hb7)
      have R6 := Lib.hid (R6.out.below hb7)
      clear hb7 c0 c1 c2 c3
      obtain ⟨c0, c1, c2, c3⟩ := I7.out.bx.cells
      go_wp2_with fail
      refine (HN.out _ I7.out.rd).mono ?_
      rintro r w8 ⟨rfl, hb8⟩
      have I8 := I7.out.step hb8
      have hSS := SS.of I8 (BP7.out.below hb8 BP7.out.lt) (BQ7.out.below hb8 BQ7.out.lt) (R5.out.below hb8) (R6.out.below hb8)
      clear hb8 c0 c1 c2 c3 I8
      go_wp2_with fail
      go_region_held3 (fun w' => SS w w.heap.size w1.heap.size w3.heap.size p s A c g e A5 A6 l1 w') (first | assumption | exact SS.drew (by assumption) | exact SS.below (by assumption) (by assumption))
        (first
          | (go_at_call 10; refine (awake_calls _).mono ?_; rintro r w' ⟨rfl, hb⟩; replace hb := Lib.hid hb)
          | (go_at_call 27; refine (HC.out _ (SS.rd (by assumption))).mono ?_; rintro r w' ⟨rfl, hb⟩; replace hb := Lib.hid hb)
          | (go_at_call 28; refine (HD.out _ (SS.rd (by assumption))).mono ?_; rintro r w' ⟨rfl, hb⟩; replace hb := Lib.hid hb)
          | (go_at_call 22; refine (ints_one A5 k5 A6 k6 l1 _ (by omega) (SS.r1 (by assumption)) (SS.r2 (by assumption))).mono ?_; rintro r w' ⟨rfl, hb⟩; replace hb := Lib.hid hb))
      all_goals
        go_wp2_with fail
        go_ret
        exact ⟨rfl, SS.b (by assumption)⟩
end Go.Proofs.Ytkdnlmnjhlogmaa
