/- The examples that stand in every statement. -/
import Derived.Test.YtkdnlmnjhlogmaaZF
namespace Go.Proofs.Ytkdnlmnjhlogmaa
open Go.RowKit Go.Shelf
set_option linter.unusedSimpArgs false
set_option linter.unusedVariables false

theorem aw_ok : okB [44] [46] [3] 1 = true := by decide
theorem aw_group : grpL [46] [3] [49, 50, 51, 52, 53, 54, 55] = [49, 46, 50, 51, 52, 46, 53, 54, 55] := by decide +kernel
theorem aw_un : ungL (sz (oneB [46] [3]) [3]) [3] [46] [49, 46, 50, 51, 52, 46, 53, 54, 120] = ([49, 50, 51, 52], 5) := by decide +kernel
theorem aw_room : roomL (sz (oneB [46] [3]) [3]) 1 8 = 6 := by decide +kernel
theorem aw_loc : locL [44] [46] [3] [49, 50, 51, 52, 46, 53] = some [49, 46, 50, 51, 52, 44, 53] := by decide +kernel

set_option maxRecDepth 10000 in
set_option maxHeartbeats 1000000 in
theorem awake_calls (w : World) : Calls Try.prog 10 #[] w fun r w' => r = .returned (.bool true) ∧ Below w.heap.size w w' := by
  have hG := fun W c b hR => group_prog ⟨#[44]⟩ ⟨#[46]⟩ (some ⟨b, 0, none⟩) c [3] 1 ⟨#[49, 50, 51, 52, 53, 54, 55]⟩ W (by decide) (by decide) (by decide) (by decide) hR 0 (by decide +kernel)
  have hU := fun W c b hR => ungroup_prog ⟨#[44]⟩ ⟨#[46]⟩ (some ⟨b, 0, none⟩) c [3] 1 ⟨#[49, 46, 50, 51, 52, 46, 53, 54, 120]⟩ W (by decide) (by decide) (by decide) (by decide) hR 0 ([49, 50, 51, 52], 5) (by decide +kernel) aw_un.symm
  have hM := fun W c b hR => room_prog ⟨#[44]⟩ ⟨#[46]⟩ (some ⟨b, 0, none⟩) c [3] 1 8 W (by decide) (by decide) (by decide) hR 0 6 (by decide +kernel) aw_room.symm
  have hL := fun W c b hR => localize_prog ⟨#[44]⟩ ⟨#[46]⟩ (some ⟨b, 0, none⟩) c [3] 1 ⟨#[49, 50, 51, 52, 46, 53]⟩ W (by decide) (by decide) (by decide) (by decide) hR 0 [49, 46, 50, 51, 52, 44, 53] (by decide +kernel) (by decide +kernel)
  rw [show S (if (0 : Int) = 0 then grpL (L ⟨#[46]⟩) [3] (L ⟨#[49, 50, 51, 52, 53, 54, 55]⟩) else []) = ⟨#[49, 46, 50, 51, 52, 46, 53, 54, 55]⟩ from congrArg S aw_group] at hG
  have hU2 : ∀ (W : World) (c b : Nat), Rd .i64 W (some ⟨b, 0, none⟩) [3] → Calls Try.prog 13 #[Loc ⟨#[44]⟩ ⟨#[46]⟩ (some ⟨b, 0, none⟩) c [3] 1, .string ⟨#[49, 46, 50, 51, 52, 46, 53, 54, 120]⟩] W fun r w' => r = .returned (.tuple #[.string ⟨#[49, 50, 51, 52]⟩, .int .i64 5, .int .i64 0]) ∧ Below W.heap.size W w' := hU
  have hL2 : ∀ (W : World) (c b : Nat), Rd .i64 W (some ⟨b, 0, none⟩) [3] → Calls Try.prog 15 #[Loc ⟨#[44]⟩ ⟨#[46]⟩ (some ⟨b, 0, none⟩) c [3] 1, .string ⟨#[49, 50, 51, 52, 46, 53]⟩] W fun r w' => r = .returned (.tuple #[.string ⟨#[49, 46, 50, 51, 52, 44, 53]⟩, .int .i64 0]) ∧ Below W.heap.size W w' := hL
  clear hU hL
  obtain ⟨w2, hw2⟩ : ∃ w2, ((w.alloc (.cells #[.int .i64 3] 3)).alloc (.cells #[.string ⟨#[44]⟩, .string ⟨#[46]⟩, .slice (some ⟨w.heap.size, 0, none⟩) 1 1, .int .i64 1] 24)) = w2 := ⟨_, rfl⟩
  have h2 : InBox w w2 (w.heap.size + 1) ⟨#[44]⟩ ⟨#[46]⟩ (some ⟨w.heap.size, 0, none⟩) 1 [3] 1 := by
    subst hw2
    refine ⟨?_, (rd_alloc_one w _ rfl 3).alloc _, ((Below.refl _ _).alloc (Nat.le_refl _) _).alloc (by simp) _⟩
    have := Box.new (w.alloc (.cells #[.int .i64 3] 3)) ⟨#[44]⟩ ⟨#[46]⟩ (some ⟨w.heap.size, 0, none⟩) 1 [3] 1
    simpa using this
  have H2 := Lib.hid h2
  obtain ⟨c0, c1, c2, c3⟩ := h2.bx.cells
  clear h2
  have HG := Lib.hid hG
  have HU := Lib.hid hU2
  have HM := Lib.hid hM
  have HL := Lib.hid hL2
  clear hG hU2 hM hL2
  go_enter Try.func10, Try.ntmps10
  go_wp2_with fail
  clear hw2 c0 c1 c2 c3
  refine (HG.out _ _ _ H2.out.rd).mono ?_
  rintro r w3 ⟨rfl, hb3⟩
  have H3 := Lib.hid (H2.out.step hb3)
  clear hb3
  obtain ⟨c0, c1, c2, c3⟩ := H3.out.bx.cells
  go_wp2_with fail
  clear c0 c1 c2 c3
  refine (HU.out _ _ _ H3.out.rd).mono ?_
  rintro r w4 ⟨rfl, hb4⟩
  have H4 := Lib.hid (H3.out.step hb4)
  clear hb4
  obtain ⟨c0, c1, c2, c3⟩ := H4.out.bx.cells
  go_wp2_with fail
  clear c0 c1 c2 c3
  refine (HM.out _ _ _ H4.out.rd).mono ?_
  rintro r w5 ⟨rfl, hb5⟩
  have H5 := Lib.hid (H4.out.step hb5)
  clear hb5
  obtain ⟨c0, c1, c2, c3⟩ := H5.out.bx.cells
  go_wp2_with fail
  clear c0 c1 c2 c3
  refine (HL.out _ _ _ H5.out.rd).mono ?_
  rintro r w6 ⟨rfl, hb6⟩
  have H6 := Lib.hid (H5.out.step hb6)
  clear hb6
  go_wp2_with fail
  go_ret
  exact ⟨rfl, H6.out.b⟩
end Go.Proofs.Ytkdnlmnjhlogmaa
