/- Contracts: two lists held against each other; the locale of C. -/
import Derived.Test.YtkdnlmnjhlogmaaZG
import Derived.Deep.QuietTactic
import Derived.BigQuiet
namespace Go.Proofs.Ytkdnlmnjhlogmaa
open Go.RowKit Go.Shelf
set_option linter.unusedSimpArgs false
set_option linter.unusedVariables false

theorem take_more (l : List Int) (k : Nat) (x : Int) (h : l[k]? = some x) : l.take (k + 1) = l.take k ++ [x] := by
  rw [List.take_add_one, h]; rfl
set_option maxRecDepth 10000 in
set_option maxHeartbeats 1000000 in
theorem ints_calls (A1 : Option Addr) (c1 : Nat) (g1 : List Int) (A2 : Option Addr) (c2 : Nat) (g2 : List Int) (w : World) (hl1 : g1.length ≤ 9223372036854775807) (hl2 : g2.length ≤ 9223372036854775807) (h1 : Rd .i64 w A1 g1) (h2 : Rd .i64 w A2 g2) :
    Calls Try.prog 22 #[.slice A1 g1.length c1, .slice A2 g2.length c2] w fun e w' => e = .returned (.bool (decide (g1 = g2))) ∧ ∃ n, w' = w.drewN n := by
  by_cases hl : g1.length = g2.length
  · obtain ⟨b, hb⟩ : ∃ b, decide (g1 = g2) = b := ⟨_, rfl⟩
    rw [hb, ← hl]
    have Hb := Lib.hid hb
    have Hl := Lib.hid hl
    clear hl hb hl2
    by_cases h0 : g1.length = 0
    · obtain rfl : b = true := by
        rw [← Hb.out, decide_eq_true_eq]
        rw [List.eq_nil_of_length_eq_zero h0, List.eq_nil_of_length_eq_zero (Hl.out.symm.trans h0)]
      rw [h0]
      clear h1 h2 hl1 h0
      go_enter Try.func22, Try.ntmps22
      go_wp2
      go_loopw [5] (fun v5 wr => v5 = .int .i64 0 ∧ wr = w) (fun v5 wr => 0)
      case atStart => exact ⟨rfl, rfl⟩
      case round =>
        obtain ⟨rfl, rfl⟩ := hrel
        go_wp2
        go_ret
        exact ⟨rfl, 0, rfl⟩
    · obtain ⟨p1, o1, rfl, r1⟩ := h1 (fun h => h0 (by rw [h]; rfl))
      obtain ⟨p2, o2, rfl, r2⟩ := h2 (fun h => h0 (by rw [Hl.out, h]; rfl))
      have R1 := Lib.hid r1
      have R2 := Lib.hid r2
      obtain ⟨n, hn⟩ : ∃ n, g1.length = n := ⟨_, rfl⟩
      rw [hn] at hl1 ⊢
      have Hn := Lib.hid hn
      clear h1 h2 r1 r2 h0 hn
      go_enter Try.func22, Try.ntmps22
      go_wp2
      go_loopw [5] (fun v5 wr => ∃ k m : Nat, k ≤ n ∧ v5 = .int .i64 k ∧ wr = w.drewN m ∧ Hid (g1.take k = g2.take k)) (fun v5 wr => n - (intOf v5).toNat)
      case atStart => exact ⟨0, 0, Nat.zero_le _, rfl, rfl, rfl⟩
      case round =>
        obtain ⟨k, m, hk, rfl, rfl, ht⟩ := hrel
        by_cases hlt : k < n
        · obtain ⟨x, hx⟩ : ∃ x, g1[k]? = some x := ⟨_, List.getElem?_eq_getElem (by rw [Hn.out]; exact hlt)⟩
          obtain ⟨y, hy⟩ : ∃ y, g2[k]? = some y := ⟨_, List.getElem?_eq_getElem (by rw [← Hl.out, Hn.out]; exact hlt)⟩
          have e1 := R1.out k x hx
          have e2 := R2.out k y hy
          have Hx := Lib.hid hx
          have Hy := Lib.hid hy
          obtain ⟨d, hd⟩ : ∃ d, (x != y) = d := ⟨_, rfl⟩
          have Hd := Lib.hid hd
          clear hx hy
          cases d
          · go_wp2
            go_quiet (fail)
            go_wp2
            go_roundw
            case rel =>
              refine ⟨k + 1, _, by omega, by go_num, rfl, ?_⟩
              have he : x = y := by have := Hd.out; simpa using this
              show g1.take (k + 1) = g2.take (k + 1)
              rw [take_more _ _ _ Hx.out, take_more _ _ _ Hy.out, ht.out, he]
            case measure => simp [intOf]; omega
          · obtain rfl : b = false := by
              rw [← Hb.out, decide_eq_false_iff_not]
              rintro rfl
              have := Hx.out.symm.trans Hy.out
              injection this with this
              have hq := Hd.out
              rw [this] at hq; simp at hq
            go_wp2
            go_quiet (fail)
            go_wp2
            go_ret
            exact ⟨rfl, _, World.drewN_drewN _ _ _⟩
        · obtain rfl : b = true := by
            rw [← Hb.out, decide_eq_true_eq]
            have := ht.out
            rwa [List.take_of_length_le (by rw [Hn.out]; omega), List.take_of_length_le (by rw [← Hl.out, Hn.out]; omega)] at this
          go_wp2
          go_ret
          exact ⟨rfl, _, rfl⟩
  · have hne : decide (g1 = g2) = false := by
      rw [decide_eq_false_iff_not]; intro h; exact hl (by rw [h])
    rw [hne]
    clear hne
    have hl' : (g1.length == g2.length) = false := beq_eq_false_iff_ne.2 hl
    clear h1 h2
    go_enter Try.func22, Try.ntmps22
    go_wp2
    go_ret
    exact ⟨rfl, 0, rfl⟩

theorem plain_prog (w : World) : Calls Try.prog 20 #[] w fun e w' => e = .returned (Loc ⟨#[46]⟩ ⟨#[]⟩ none 0 [] 1) ∧ Below w.heap.size w w' := by
  go_enter Try.func20, Try.ntmps20
  go_wp2
  exact bodyPost_ret (v := Loc ⟨#[46]⟩ ⟨#[]⟩ none 0 [] 1) (by simp [results, Try.results20, go_sem]) rfl ⟨rfl, by first | exact (Below.refl _ _).alloc (Nat.le_refl _) _ | sorry⟩
theorem plain_ref (w : World) : Calls Try.prog 24 #[] w fun e w' => e = .returned (Loc ⟨#[46]⟩ ⟨#[]⟩ none 0 [] 1) ∧ Below w.heap.size w w' := by
  go_enter Try.func24, Try.ntmps24
  go_wp2
  exact bodyPost_ret (v := Loc ⟨#[46]⟩ ⟨#[]⟩ none 0 [] 1) (by simp [results, Try.results24, go_sem]) rfl ⟨rfl, by first | exact (Below.refl _ _).alloc (Nat.le_refl _) _ | sorry⟩
end Go.Proofs.Ytkdnlmnjhlogmaa
