/- A range over an iterator whose elements are known by their numbers, and which may be without an end: the body stops it. -/
import Derived.Test.YtkdnlmnjhlogmaaH
namespace Go.Proofs.Ytkdnlmnjhlogmaa
open Go.RowKit Go.Shelf
set_option linter.unusedSimpArgs false
set_option linter.unusedVariables false

/-- The iterator's word: what it hands on with number k is enc k; it is asked at every pair of invariants of which the first one gives it what it reads (I). -/
def Yields (n : Nat) (P : Program) (gf : Nat) (lb : Array Value) (enc : Nat → Array Value) (I : Nat → World → Prop) (S : Nat → Prop) (N : Nat) : Prop :=
  ∀ (l : Nat) (J Jx : Nat → World → Prop), (∀ k W, J k W → I k W) →
    (∀ k W1, J k W1 → k < N → YieldAt Fence.wide (n - 1) P l (enc k) W1 fun r W' =>
      (r = .returned (.bool true) ∧ k + 1 < N ∧ J (k + 1) W') ∨ (r = .returned (.bool false) ∧ Jx (k + 1) W')) →
    ∀ W, J 0 W → CallsIn Fence.wide n P gf (#[.func (.yield l) #[] #[]] ++ lb) W fun r W' => (∃ v, r = .returned v) ∧ ((∃ k, S k ∧ J k W') ∨ (∃ k, Jx k W'))

/-- How a round may be left. -/
def roundEnd (I : Nat → World → Prop) (Ix : Code → Nat → World → Prop) (N k : Nat) (W : World) : Exit → Act → World → Prop
  | .normal, _, W' => KeepsOthers W W' ∧ k + 1 < N ∧ I (k + 1) W'
  | .ret, _, W' => KeepsOthers W W' ∧ Ix .ret (k + 1) W'
  | .exit id, _, W' => KeepsOthers W W' ∧ Ix (.exit id) (k + 1) W'
  | .goto t, _, W' => KeepsOthers W W' ∧ Ix (.goto t) (k + 1) W'
  | .panic _, _, _ => False
  | .outgrown, _, _ => False

/-- What abides the turn of a block that is no row of cells, from the number B on. -/
def Turns (B : Nat) (I : World → Prop) : Prop := ∀ W l o o', I W → B ≤ l → W.heap[l]? = some o → o.isCells = false → I (W.putObj l o')

theorem range_seq {P : Program} {n : Nat} {g : Operand} {ps : Array Tmp} {assign body : Code} {Q : Exit → Act → World → Prop} {a : Act} {w : World}
    (hn : 1 ≤ n) {gf : Nat} {lb : Array Value} (hg : a.eval g = .func (.func gf) #[] lb) (eg : ∀ args w, (callFunc gf args).run P w = .ok (.enter gf args) w)
    {enc : Nat → Array Value} (hps : ∀ k, (enc k).size = ps.size) {S : Nat → Prop} {N : Nat}
    (I : Nat → World → Prop) (Ix : Code → Nat → World → Prop) (hI : ∀ k, Turns w.heap.size (I k)) (hIx : ∀ c k, Turns w.heap.size (Ix c k))
    (hit : Yields (n - 1) P gf lb enc I S N) (h0 : ∀ o, I 0 ((w.alloc (.deferred (some []))).alloc o)) (a₁ : Nat → Act)
    (hassign : ∀ (l k : Nat) (W : World) (K : Act → World → Prop), K (a₁ k) W →
      assign.wpIn (Fence.wide.inRound l) (n - 1 - 1) P (Exit.then K (fun _ _ _ => False)) { tmps := (ps.zip (enc k)).foldl (fun t (p, v) => t.setIfInBounds p v) a.tmps, defers := [] } W)
    (hbody : ∀ (l k : Nat) (W : World), I k W → k < N → body.wpIn (Fence.wide.inRound l) (n - 1 - 1) P (roundEnd I Ix N k W) (a₁ k) W)
    (hdone : ∀ (D k : Nat) (W : World), S k → I k W → w.heap.size ≤ D → W.heap[D]? = some (.deferred (some [])) → Q .normal { a with defers := { target := .collected D, args := #[] } :: a.defers } W)
    (hstop : ∀ (D : Nat) (c : Code) (k : Nat) (W : World), Ix c k W → w.heap.size ≤ D → W.heap[D]? = some (.deferred (some [])) → c.wpIn Fence.wide n P Q { a with defers := { target := .collected D, args := #[] } :: a.defers } W) :
    (Code.rangeFunc g ps assign body).wpIn Fence.wide n P Q a w := by
  refine wpIn_rangeFunc fun fn hfn => ?_
  generalize hD : w.heap.size = D at *
  let rec0 : LoopState → Option Code → Loop := fun st pe => { state := st, pending := pe, fn, tmps := a.tmps, params := ps, assign, body, defers := D }
  have r1 : ∀ st pe, ({ rec0 .ready none with state := st, pending := pe } : Loop) = rec0 st pe := fun _ _ => rfl
  generalize hr : rec0 = rc at r1
  obtain ⟨W1, hW1⟩ : ∃ W1, (w.alloc (.deferred (some []))).alloc (.loop (rc .ready none)) = W1 := ⟨_, rfl⟩
  have hL1 : W1.heap[D + 1]? = some (.loop (rc .ready none)) := by
    rw [← hW1, ← hD]; have := World.alloc_heap_new (w.alloc (.deferred (some []))) (.loop (rc .ready none)); rwa [World.size_alloc] at this
  have hK1 : W1.heap[D]? = some (.deferred (some [])) := by
    rw [← hW1, ← hD]; exact (Below.heap_alloc _ _ _ (by simp)).trans (World.alloc_heap_new w _)
  refine ⟨D + 1, [{ target := .collected D, args := #[] }], W1, { target := .fn (.func gf) lb, args := #[.func (.yield (D + 1)) #[] #[]] }, W1, gf,
    #[.func (.yield (D + 1)) #[] #[]] ++ lb, W1, ?_, ?_, fun _ _ => trivial, ?_, fun _ => hn, ?_⟩
  · subst hr; subst hD; rw [← hW1]; exact run_enterLoop_outer _ _ _ _ _
  · simp only [resolve, hg]
    simp [go_sem]
  · simp [invoke, go_sem, eg]
  · -- the loop's record and the block for deferred calls, beside the caller's own
    let Bk : LoopState → Option Code → World → Prop := fun st pe W => W.heap[D + 1]? = some (.loop (rc st pe)) ∧ W.heap[D]? = some (.deferred (some []))
    have hps' : ∀ k, (enc k).size = (rc .ready none).params.size := fun k => by rw [← hr]; exact hps k
    have hst : ∀ st pe, (rc st pe).state = st := fun st pe => by rw [← hr]
    have hpe : ∀ st pe, (rc st pe).pending = pe := fun st pe => by rw [← hr]
    refine (hit (D + 1) (fun k W => I k W ∧ Bk .ready none W) (fun k W => ∃ c, Ix c k W ∧ Bk .done (some c) W) (fun k W h => h.1) ?_ W1 ⟨by rw [← hW1]; exact h0 _, hL1, hK1⟩).mono ?_
    · rintro k W ⟨hi, hl, hk⟩ hlt
      have hy := run_yield (P := P) (args := enc k) hl (hps' k)
      have hbusy : (Instr.beginRound (D + 1)).run P W = .ok () (W.putObj (D + 1) (.loop (rc .busy none))) := by
        have := run_beginRound (P := P) hl (hst _ _)
        rw [this]; subst hr; rfl
      subst hr
      refine ⟨fn, _, assign, body, hy, roundIn_of_wpIn hfn (hassign _ k W _ ⟨_, hbusy, ?_⟩)⟩
      have hsz : D + 1 < W.heap.size := (Array.getElem?_eq_some_iff.1 hl).1
      have hl2 : (W.putObj (D + 1) (.loop (rec0 .busy none))).heap[D + 1]? = some (.loop (rec0 .busy none)) := World.putObj_heap_same hsz
      have hk2 : (W.putObj (D + 1) (.loop (rec0 .busy none))).heap[D]? = some (.deferred (some [])) := (World.putObj_heap_other (by omega)).trans hk
      refine wpIn_mono (hbody _ k _ (hI k _ _ _ _ hi (by omega) hl rfl) hlt) ?_
      have fin : ∀ (jump : Option Code) (W3 : World), KeepsOthers (W.putObj (D + 1) (.loop (rec0 .busy none))) W3 →
          (Instr.endRound (D + 1) jump).run P W3 = .ok (.bool jump.isNone) (W3.putObj (D + 1) (.loop (rec0 (if jump.isNone then .ready else .done) jump))) ∧
          W3.heap[D + 1]? = some (.loop (rec0 .busy none)) ∧ Bk (if jump.isNone then .ready else .done) jump (W3.putObj (D + 1) (.loop (rec0 (if jump.isNone then .ready else .done) jump))) := fun jump W3 hk3 => by
        have hl3 := hk3.same _ _ hl2 rfl
        exact ⟨run_endRound (P := P) jump hl3, hl3, World.putObj_heap_same (Array.getElem?_eq_some_iff.1 hl3).1, (World.putObj_heap_other (by omega)).trans (hk3.same _ _ hk2 rfl)⟩
      rintro e a3 W3 hp
      cases e with
      | normal =>
        obtain ⟨hk3, hlt', hi3⟩ := hp
        obtain ⟨hrun, hl3, hbk⟩ := fin none W3 hk3
        exact ⟨_, _, hrun, .inl ⟨rfl, hlt', hI _ _ _ _ _ hi3 (by omega) hl3 rfl, hbk⟩⟩
      | ret =>
        obtain ⟨hk3, hi3⟩ := hp
        obtain ⟨hrun, hl3, hbk⟩ := fin (some .ret) W3 hk3
        exact ⟨_, _, hrun, .inr ⟨rfl, .ret, hIx _ _ _ _ _ _ hi3 (by omega) hl3 rfl, hbk⟩⟩
      | exit id =>
        obtain ⟨hk3, hi3⟩ := hp
        obtain ⟨hrun, hl3, hbk⟩ := fin (some (.exit id)) W3 hk3
        exact ⟨_, _, hrun, .inr ⟨rfl, .exit id, hIx _ _ _ _ _ _ hi3 (by omega) hl3 rfl, hbk⟩⟩
      | goto t =>
        obtain ⟨hk3, hi3⟩ := hp
        obtain ⟨hrun, hl3, hbk⟩ := fin (some (.goto t)) W3 hk3
        exact ⟨_, _, hrun, .inr ⟨rfl, .goto t, hIx _ _ _ _ _ _ hi3 (by omega) hl3 rfl, hbk⟩⟩
      | panic ch => exact hp.elim
      | outgrown => exact hp.elim
    · rintro r W2 ⟨⟨v, rfl⟩, (⟨k, hS, hi, hl, hk⟩ | ⟨k, c, hi, hl, hk⟩)⟩
      · have he := run_endLoop (P := P) hl (by rw [hst]; simp)
        rw [hpe] at he
        exact ⟨none, _, he, hdone D k _ hS (hI _ _ _ _ _ hi (by omega) hl rfl) (by omega) ((World.putObj_heap_other (by omega)).trans hk)⟩
      · have he := run_endLoop (P := P) hl (by rw [hst]; simp)
        rw [hpe] at he
        exact ⟨some c, _, he, hstop D c k _ (hIx _ _ _ _ _ _ hi (by omega) hl rfl) (by omega) ((World.putObj_heap_other (by omega)).trans hk)⟩
end Go.Proofs.Ytkdnlmnjhlogmaa
