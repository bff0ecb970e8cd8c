/- Room, by the program: the words; the deferred call inside a fence. -/
import Derived.Test.YtkdnlmnjhlogmaaZD
import Derived.RecoverIn
namespace Go.Proofs.Ytkdnlmnjhlogmaa
open Go.RowKit Go.Shelf
attribute [local go_sem] Oper.semAt_some ta1 np eqn
set_option linter.unusedSimpArgs false
set_option linter.unusedVariables false

theorem caught_idleIn (n : Nat) (p : Addr) (w : World) :
    CallsDIn Fence.wide n Try.prog 29 #[.pointer (some p)] .returning w fun e u' w' => e = .returned (.tuple #[]) ∧ u' = .returning ∧ w = w' := by
  refine callsDIn_of_wpSIn Try.func29 rfl trivial fun c₀ cs hu => ?_
  simp only [Try.ntmps29, List.size_toArray, List.length_cons, List.length_nil, Nat.reduceAdd, Nat.reduceSub, Array.replicate_succ, Array.replicate_zero, List.push_toArray, List.append_toArray, List.nil_append, List.cons_append]
  apply wpSIn_seq
  apply wpSIn_region
  simp [wpOpsSIn, go_sem, recoverD, hu, Exit.thenS]
  refine wpSIn_of_wpIn rfl ?_
  gi_wp2
  cases c₀
  simp_all [bodyPostS, results, Try.results29]
theorem caught_failIn (n : Nat) (b : Nat) (e x : Int) (w : World) (hE : w.heap[b]? = some (.cells #[.int .i64 x] 26 (0, 0))) :
    CallsDIn Fence.wide n Try.prog 29 #[.pointer (some ⟨b, 0, none⟩)] (.panicking [{ v := fail e, recovered := false }]) w fun r u' w' =>
      r = .returned (.tuple #[]) ∧ u' = .panicking [{ v := fail e, recovered := true }] ∧ (w.setCell ⟨b, 0, none⟩ (.int .i64 e)).alloc (.cells #[.int .i64 e] 71) = w' := by
  have hb := lt_of_block hE
  have hc := cell_of_one hE
  have hz := free_of_one hE
  clear hE
  refine callsDIn_of_wpSIn Try.func29 rfl trivial fun c₀ cs hu => ?_
  simp only [Try.ntmps29, List.size_toArray, List.length_cons, List.length_nil, Nat.reduceAdd, Nat.reduceSub, Array.replicate_succ, Array.replicate_zero, List.push_toArray, List.append_toArray, List.nil_append, List.cons_append]
  apply wpSIn_seq
  apply wpSIn_region
  simp [wpOpsSIn, go_sem, recoverD, hu, Exit.thenS, fail]
  refine wpSIn_of_wpIn rfl ?_
  gi_wp2
  simp [bodyPostS, results, Try.results29]

/-! ### How many digits fit -/
def firstFrom (st : Nat → Bool) : Nat → Nat → Nat
  | 0, k => k
  | F + 1, k => if st k then k else firstFrom st F (k + 1)
theorem firstFrom_at (st : Nat → Bool) (k : Nat) (hk : st k = true) : ∀ (F j : Nat), j ≤ k → k < j + F → (∀ i, j ≤ i → i < k → st i = false) → firstFrom st F j = k
  | 0, j, h1, h2, _ => by omega
  | F + 1, j, h1, h2, h => by
    rw [firstFrom]
    by_cases e : j = k
    · subst e; rw [if_pos hk]
    · rw [if_neg (by rw [h j (Nat.le_refl _) (by omega)]; decide)]
      exact firstFrom_at st k hk F (j + 1) (by omega) (by omega) (fun i h3 h4 => h i (by omega) h4)
/-- Digits so far, and bytes left. -/
def rst (f : Nat → Int) (sl b : Int) : Nat → Int × Int
  | 0 => (0, b)
  | k + 1 => ((rst f sl b k).1 + f k, (if 0 < (rst f sl b k).1 then (rst f sl b k).2 - sl else (rst f sl b k).2) - f k)
def rleft (f : Nat → Int) (sl b : Int) (k : Nat) : Int := if 0 < (rst f sl b k).1 then (rst f sl b k).2 - sl else (rst f sl b k).2
def rstop (f : Nat → Int) (sl b : Int) (k : Nat) : Bool := decide (rleft f sl b k ≤ 0) || (decide (f k = 0) || decide (rleft f sl b k ≤ f k))
def roomL (f : Nat → Int) (sl b : Int) : Int := (rst f sl b (firstFrom (rstop f sl b) (b.toNat + 1) 0)).1 + max 0 (rleft f sl b (firstFrom (rstop f sl b) (b.toNat + 1) 0))
theorem rst_left (f : Nat → Int) (hf : ∀ k, 0 ≤ f k) (sl b : Int) (hs : 0 ≤ sl) (hb : 0 ≤ b) (k : Nat) (h : ∀ j, j < k → rstop f sl b j = false) :
    0 ≤ (rst f sl b k).2 ∧ (rst f sl b k).2 + k ≤ b ∧ 0 ≤ (rst f sl b k).1 ∧ (rst f sl b k).1 + (rst f sl b k).2 ≤ b ∧ (0 < k → 0 < (rst f sl b k).1) := by
  induction k with
  | zero => simp [rst]; omega
  | succ k ih =>
    obtain ⟨h1, h2, h3, h4, h5⟩ := ih (fun j hj => h j (by omega))
    have hk := h k (by omega)
    have hk2 : ¬ rleft f sl b k ≤ 0 ∧ ¬ f k = 0 ∧ ¬ rleft f sl b k ≤ f k := by simpa [rstop] using hk
    unfold rleft at hk2
    have hfk := hf k
    simp only [rst]
    obtain ⟨ha, hb', hc⟩ := hk2
    by_cases hp : 0 < (rst f sl b k).1
    · rw [if_pos hp] at ha hc ⊢; omega
    · rw [if_neg hp] at ha hc ⊢; omega
theorem roomL_at (f : Nat → Int) (hf : ∀ k, 0 ≤ f k) (sl b : Int) (hs : 0 ≤ sl) (hb : 0 ≤ b) (k : Nat) (h : ∀ j, j < k → rstop f sl b j = false) (hk : rstop f sl b k = true) : roomL f sl b = (rst f sl b k).1 + max 0 (rleft f sl b k) := by
  obtain ⟨h1, h2, _⟩ := rst_left f hf sl b hs hb k h
  rw [roomL, firstFrom_at (rstop f sl b) k hk (b.toNat + 1) 0 (Nat.zero_le _) (by omega) (fun i _ hi => h i hi)]
end Go.Proofs.Ytkdnlmnjhlogmaa
