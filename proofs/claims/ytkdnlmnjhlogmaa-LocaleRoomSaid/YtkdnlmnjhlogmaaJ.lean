/- The groups of digits, by the program: the words; the library's reversal. -/
import Derived.Test.YtkdnlmnjhlogmaaI
import Derived.Test.YtkdnlmnjhlogmaaShelf
import Derived.Maps.AppendAt
namespace Go.Proofs.Ytkdnlmnjhlogmaa
open Go.RowKit Go.Shelf
set_option linter.unusedSimpArgs false
set_option linter.unusedVariables false

/-- A value that reads as a list of ints. -/
def Out (w : World) (v : Value) (l : List Int) : Prop := ∃ A c, v = .slice A l.length c ∧ Rd .i64 w A l ∧ l.length ≤ 9223372036854775807 ∧ l.length ≤ c ∧ c ≤ 9223372036854775807
theorem Out.below {w w' : World} {v : Value} {l : List Int} (h : Out w v l) (hb : Below w.heap.size w w') : Out w' v l := by
  obtain ⟨A, c, rfl, hr, hl⟩ := h
  exact ⟨A, c, rfl, hr.below hb, hl⟩
theorem Out.of_row {w : World} {base : Nat} {v : Value} {xs : List Int} (h : w.ownsRow base 3 1 v xs.length (xs.map (.int .i64))) : Out w v xs := by
  rcases h.2 with ⟨rfl, h0⟩ | ⟨g, cap, cur, rfl, hb, hg, h1, h2, h3, h4⟩
  · have : xs = [] := List.eq_nil_of_length_eq_zero h0
    subst this
    exact ⟨none, 0, rfl, fun h => absurd rfl h, by simp⟩
  · refine ⟨_, cap, rfl, fun _ => ⟨g, 0, rfl, fun j x hx => ?_⟩, by unfold maxLen at h2; omega, by omega, by unfold maxLen at h2; omega⟩
    have := h.cells (g := g) rfl j (.int .i64 x) (by simp [hx])
    rw [Nat.zero_add]
    rwa [show (⟨g, 0, none⟩ : Addr).add j = ⟨g, j, none⟩ from by unfold Addr.add; split <;> simp_all] at this

theorem below_drewN {B : Nat} {w W : World} (h : Below B w W) (n : Nat) : Below B w (W.drewN n) := ⟨h.os, h.tape, h.output, h.size, h.block⟩
theorem below_cells {B g : Nat} {w : World} (hg : B ≤ g) : ∀ (vs : List Value) (o : Nat) (W : World), Below B w W → Below B w (W.setCells g o vs)
  | [], _, _, h => h
  | v :: vs, o, W, h => below_cells hg vs (o + 1) _ (h.setCell (p := ⟨g, o, none⟩) hg v)

theorem grown_cells {g : Nat} {w : World} : ∀ (vs : List Value) (o : Nat) (W : World), w.grownBy W (some g) → w.grownBy (W.setCells g o vs) (some g)
  | [], _, _, h => h
  | v :: vs, o, W, h => grown_cells vs (o + 1) _ ⟨h.os, h.tape, h.output, by rw [World.size_setCell]; exact h.size, fun k hk hne => (Below.heap_setCell _ _ _ _ (fun e => hne (by rw [e]))).trans (h.block k hk hne)⟩
theorem reverse_calls (base : Nat) (v : Value) (xs : List Int) (w : World) (h : w.ownsRow base 3 1 v xs.length (xs.map (.int .i64))) (hl : xs.length ≤ 9223372036854775807) :
    Calls Try.prog 59 #[v] w fun e w' => e = .returned (.tuple #[]) ∧ Out w' v xs.reverse ∧ w.grownBy w' v.ownBlock := by
  rcases h.2 with ⟨rfl, h0⟩ | ⟨g, cap, cur, rfl, hb, hg, h1, h2, h3, h4⟩
  · have : xs = [] := List.eq_nil_of_length_eq_zero h0
    subst this
    refine (Try.slices_Reverse_int_empty none 0 w).mono ?_
    rintro e w' ⟨rfl, rfl⟩
    exact ⟨rfl, ⟨none, 0, rfl, fun h => absurd rfl h, by simp⟩, ⟨rfl, rfl, rfl, Nat.le_refl _, fun _ _ _ => rfl⟩⟩
  · have hc : ∀ j, j < xs.length → w.cell? ⟨g, 0 + j, none⟩ = some (.int .i64 (xs.getD j 0)) := fun j hj => by
      have := h.cells (g := g) rfl j (.int .i64 (xs.getD j 0)) (by simp [List.getD_eq_getElem?_getD, hj])
      rw [Nat.zero_add]
      rwa [show (⟨g, 0, none⟩ : Addr).add j = ⟨g, j, none⟩ from by unfold Addr.add; split <;> simp_all] at this
    refine (Try.slices_Reverse_int_cells g 0 xs.length cap xs w (Nat.le_refl _) hl hc (fun j _ => by simp [World.frozen?, hg])).mono ?_
    rintro e w' ⟨rfl, q, rfl⟩
    refine ⟨rfl, ⟨_, cap, by rw [List.length_reverse], fun _ => ⟨g, 0, rfl, fun j x hx => ?_⟩, by simpa using hl, by rw [List.length_reverse]; exact h1, by unfold maxLen at h2; omega⟩, grown_cells _ _ _ ⟨rfl, rfl, rfl, Nat.le_refl _, fun _ _ _ => rfl⟩⟩
    rw [List.take_length]
    have hj : j < (xs.reverse.map (Value.int .i64)).length := by
      have := (List.getElem?_eq_some_iff.1 hx).1
      simpa using this
    rw [World.cell?_setCells_in g _ 0 (w.drewN q) (fun i hi => by
      have hi' : i < xs.length := by simpa using hi
      have := hc i hi'
      show (w.cell? _).isSome = true
      rw [this]; rfl) j hj]
    rw [List.getElem_map]
    have := (List.getElem?_eq_some_iff.1 hx).2
    rw [this]

/-! ### The groups, from the last one on -/
/-- What is left, and what has come, behind so many sizes. -/
def stp (f : Nat → Int) (n : Int) : Nat → Int × List Int
  | 0 => (n, [])
  | k + 1 => if (stp f n k).1 = 0 then stp f n k else if f k = 0 ∨ (stp f n k).1 < f k then (0, (stp f n k).2 ++ [(stp f n k).1]) else ((stp f n k).1 - f k, (stp f n k).2 ++ [f k])
def grp (f : Nat → Int) (n : Int) : List Int := (stp f n n.toNat).2.reverse
theorem stp_len (f : Nat → Int) (n : Int) (k : Nat) : (stp f n k).2.length ≤ k := by
  induction k with
  | zero => simp [stp]
  | succ k ih => simp only [stp]; repeat' split
                 all_goals first | omega | (simp; omega)
theorem stp_left (f : Nat → Int) (hf : ∀ k, 0 ≤ f k) (n : Int) (hn : 0 ≤ n) (k : Nat) : 0 ≤ (stp f n k).1 ∧ ((stp f n k).1 = 0 ∨ (k : Int) + (stp f n k).1 ≤ n) := by
  induction k with
  | zero => simp [stp]; omega
  | succ k ih =>
    have := hf k
    simp only [stp]
    repeat' split
    all_goals omega
theorem stp_zero (f : Nat → Int) (n : Int) (k : Nat) (h : f k = 0) : (stp f n (k + 1)).1 = 0 := by
  simp only [stp]
  split
  · assumption
  · rw [if_pos (.inl h)]
theorem stp_stay (f : Nat → Int) (n : Int) (k : Nat) (h : (stp f n k).1 = 0) : ∀ j, stp f n (k + j) = stp f n k
  | 0 => rfl
  | j + 1 => by
    have ih := stp_stay f n k h j
    show stp f n ((k + j) + 1) = _
    simp only [stp, ih, if_pos h]
theorem grp_of (f : Nat → Int) (hf : ∀ k, 0 ≤ f k) (n : Int) (hn : 0 ≤ n) (k : Nat) (h : (stp f n k).1 = 0) : (stp f n k).2.reverse = grp f n := by
  have h0 : (stp f n n.toNat).1 = 0 := by have := stp_left f hf n hn n.toNat; omega
  rcases Nat.le_total k n.toNat with hk | hk
  · obtain ⟨j, hj⟩ := Nat.exists_eq_add_of_le hk
    rw [grp, hj, stp_stay f n k h j]
  · obtain ⟨j, hj⟩ := Nat.exists_eq_add_of_le hk
    rw [grp, hj, stp_stay f n n.toNat h0 j]
end Go.Proofs.Ytkdnlmnjhlogmaa
