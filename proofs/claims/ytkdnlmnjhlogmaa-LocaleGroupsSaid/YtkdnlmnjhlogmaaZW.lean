/- The law LocaleGroups: the walk. -/
import Derived.Test.YtkdnlmnjhlogmaaZT
import Derived.Test.YtkdnlmnjhlogmaaZU
import Derived.Test.YtkdnlmnjhlogmaaZX
import Derived.Test.YtkdnlmnjhlogmaaZM
namespace Go.Proofs.Ytkdnlmnjhlogmaa
open Go.RowKit Go.Shelf
set_option linter.unusedSimpArgs false
set_option linter.unusedVariables false

theorem Rd.tail {k : IntKind} {w : World} {b o : Nat} {x : Int} {tl : List Int} (h : Rd k w (some ⟨b, o, none⟩) (x :: tl)) : Rd k w (some ⟨b, o + 1, none⟩) tl := fun _ => by
  obtain ⟨b', o', e, hc⟩ := h (by simp)
  injection e with e; injection e with e1 e2
  subst e1 e2
  refine ⟨b, o + 1, rfl, fun j y hy => ?_⟩
  have := hc (j + 1) y (by simpa using hy)
  rwa [show o + 1 + j = o + (j + 1) by omega]
theorem Rd.at {k : IntKind} {w : World} {b o : Nat} {l : List Int} (h : Rd k w (some ⟨b, o, none⟩) l) (j : Nat) (y : Int) (hy : l[j]? = some y) : w.cell? ⟨b, o + j, none⟩ = some (.int k y) := by
  obtain ⟨b', o', e, hc⟩ := h (by rintro rfl; simp at hy)
  injection e with e; injection e with e1 e2
  subst e1 e2
  exact hc j y hy
theorem Rd.head {k : IntKind} {w : World} {b o : Nat} {x : Int} {tl : List Int} (h : Rd k w (some ⟨b, o, none⟩) (x :: tl)) : w.cell? ⟨b, o, none⟩ = some (.int k x) := h.at 0 x rfl
theorem Rd.drewN {k : IntKind} {w : World} {A : Option Addr} {l : List Int} (h : Rd k w A l) (n : Nat) : Rd k (w.drewN n) A l := fun hn => by
  obtain ⟨b, o, e, hc⟩ := h hn
  exact ⟨b, o, e, fun j y hy => by rw [World.cell?_drewN]; exact hc j y hy⟩
theorem ints_same (A1 : Option Addr) (c1 : Nat) (A2 : Option Addr) (c2 : Nat) (l : List Int) (w : World) (hl : l.length ≤ 9223372036854775807) (h1 : Rd .i64 w A1 l) (h2 : Rd .i64 w A2 l) (n : Nat) :
    Calls Try.prog 22 #[.slice A1 l.length c1, .slice A2 l.length c2] (w.drewN n) fun e w' => e = .returned (.bool true) ∧ ∃ m, w' = w.drewN m :=
  (ints_calls A1 c1 l A2 c2 l (w.drewN n) hl hl (h1.drewN n) (h2.drewN n)).mono (by
    rintro e w' ⟨rfl, m, rfl⟩
    exact ⟨by simp, n + m, World.drewN_drewN _ _ _⟩)
theorem isum_take (l : List Int) (k : Nat) (x : Int) (h : l[k]? = some x) : isum (l.take (k + 1)) = isum (l.take k) + x := by
  rw [List.take_add_one, h, isum_append]
  show _ + isum [x] = _
  rw [isum_cons, isum_nil]; omega

set_option maxRecDepth 10000 in
set_option maxHeartbeats 2000000 in
theorem groupsLaw_calls (p s : ByteArray) (A : Option Addr) (c : Nat) (g : List Int) (e n : Int) (w : World) (hp : p.size ≤ maxLen) (hs : s.size ≤ maxLen) (hg : g.length ≤ maxLen) (hn : (Lit.int .i64 n).wf = true) (hR : Rd .i64 w A g) :
    Calls Try.prog 7 #[Loc p s A c g e, .int .i64 n] w fun r w' => r = .returned (.bool true) ∧ Below w.heap.size w w' := by
  have hI := InBox.new w p s A c g e hR
  have HI := Lib.hid hI
  obtain ⟨c0, c1, c2, c3⟩ := hI.bx.cells
  clear hI hR hn
  have main : (n < 0 ∨ (0 ≤ n ∧ 3000 ≤ n)) ∨ (0 ≤ n ∧ n < 3000) := by omega
  rcases main with m | ⟨m1, m2⟩
  · clear hp hs hg
    rcases m with m1 | ⟨m1, m2⟩
    all_goals
      go_enter Try.func7, Try.ntmps7
      go_wp2_with fail
      refine (awake_calls _).mono ?_
      rintro r w1 ⟨rfl, hb1⟩
      have Hb1 := Lib.hid (HI.out.step hb1)
      clear hb1
      go_wp2_with fail
      go_ret
      exact ⟨rfl, Hb1.out.b⟩
  · have q1 : decide (n < 0) = false := by simp; omega
    have q2 : decide (3000 ≤ n) = false := by simp; omega
    obtain ⟨ok, hok⟩ : ∃ b, okB (L p) (L s) g e = b := ⟨_, rfl⟩
    have hS := fun W n hR => sizes_prog p s A c g e n W hp hs hg hR
    rw [hok] at hS
    cases ok
    · have hs1 : ∀ W n, 0 ≤ n → n ≤ 3001 → Rd .i64 W A g → Calls Try.prog 21 #[Loc p s A c g e, .int .i64 n] W fun r w' => ∃ A' c', r = .returned (.tuple #[.slice A' 0 c', .int .i64 1]) ∧ Below W.heap.size W w' := fun W n h0 h1 hR => (hS W n hR).mono (by
        rintro r w' ⟨v, rfl, ho, hb⟩
        rw [errB_zero h0 (by omega)] at ho ⊢
        rw [if_neg (by decide)] at ho
        obtain ⟨A', c', rfl, _⟩ := ho
        exact ⟨A', c', rfl, hb⟩)
      have HS := Lib.hid hs1
      clear hs1 hS hok hp hs hg
      go_enter Try.func7, Try.ntmps7
      go_wp2_with fail
      refine (awake_calls _).mono ?_
      rintro r w1 ⟨rfl, hb1⟩
      have I1 := Lib.hid (HI.out.step hb1)
      clear hb1 c0 c1 c2 c3
      obtain ⟨c0, c1, c2, c3⟩ := I1.out.bx.cells
      go_wp2_with fail
      refine (HS.out _ _ (by omega) (by omega) I1.out.rd).mono ?_
      rintro r w2 ⟨A2, k2, rfl, hb2⟩
      have I2 := Lib.hid (I1.out.step hb2)
      clear hb2 c0 c1 c2 c3
      obtain ⟨c0, c1, c2, c3⟩ := I2.out.bx.cells
      go_wp2_with fail
      refine (HS.out _ _ (by omega) (by omega) I2.out.rd).mono ?_
      rintro r w3 ⟨A3, k3, rfl, hb3⟩
      have I3 := Lib.hid (I2.out.step hb3)
      clear hb3 c0 c1 c2 c3
      go_wp2_with fail
      go_ret
      exact ⟨rfl, I3.out.b⟩
    · obtain ⟨_, hsl, hgl, hgp⟩ := ok_facts hok
      have hf := sz_nonneg (s := L s) hgp
      obtain ⟨f, hff⟩ : ∃ f, sz (oneB (L s) g) g = f := ⟨_, rfl⟩
      rw [hff] at hf
      have hs1 : ∀ W (n : Int), 0 ≤ n → n ≤ 3001 → Rd .i64 W A g → Calls Try.prog 21 #[Loc p s A c g e, .int .i64 n] W fun r w' => ∃ A' c', r = .returned (.tuple #[.slice A' (grp f n).length c', .int .i64 0]) ∧ Rd .i64 w' A' (grp f n) ∧ (grp f n).length ≤ c' ∧ c' ≤ 9223372036854775807 ∧ Below W.heap.size W w' := fun W n h0 h1 hR => (hS W n hR).mono (by
        rintro r w' ⟨v, rfl, ho, hb⟩
        rw [errB_zero h0 (by omega), if_pos rfl] at ho ⊢
        rw [if_pos rfl, sizesL, hff] at ho
        obtain ⟨A', c', rfl, hr, _, h1, h2⟩ := ho
        exact ⟨A', c', rfl, hr, h1, h2, hb⟩)
      obtain ⟨t1, t2, t3⟩ := grp_sum f hf n m1
      have hnx := grp_next f hf n m1
      have hsa := fun W hR => hs1 W n (by omega) (by omega) hR
      have hsb := fun W hR => hs1 W (n + 1) (by omega) (by omega) hR
      obtain ⟨ga, hga⟩ : ∃ x, grp f n = x := ⟨_, rfl⟩
      rw [hga] at hsa t1 t2 t3 hnx
      have hHS : ∀ k m x, ga[k]? = some x → m = isum (ga.take k) → 0 ≤ m ∧ 1 ≤ x ∧ m + x ≤ 3000 ∧ m + x = isum (ga.take (k + 1)) := fun k m x hx hm => by
        have h1 := isum_take ga k x hx
        have h2 := t2 x (List.mem_of_getElem? hx)
        have h3 := isum_nonneg (ga.take k) (fun y hy => t2 y (List.mem_of_mem_take hy))
        have h4 : isum (ga.take (k + 1)) + isum (ga.drop (k + 1)) = n := by rw [isum_take_drop, t1]
        have h5 := isum_nonneg (ga.drop (k + 1)) (fun y hy => t2 y (List.mem_of_mem_drop hy))
        omega
      have hT : ∀ m, m = isum (ga.take ga.length) → m = n := fun m h => by rw [h, List.take_length, t1]
      have HT := Lib.hid hT
      have HSUM := Lib.hid hHS
      have gal : ga.length ≤ 3000 := by omega
      have HSA := Lib.hid hsa
      clear hs1 hS hok hp hs hg hsl hgl hgp t1 t2 t3 hga hsa hT hHS
      rcases hnx with hx | ⟨x, tl, hx1, hx2⟩
      · rw [hx] at hsb
        have HSB := Lib.hid hsb
        clear hx hsb hf hff
        have z1 : ((ga.length : Int) + 1 == 0) = false := beq_eq_false_iff_ne.2 (by omega)
        go_enter Try.func7, Try.ntmps7
        go_wp2_with fail
        refine (awake_calls _).mono ?_
        rintro r w1 ⟨rfl, hb1⟩
        have I1 := Lib.hid (HI.out.step hb1)
        clear hb1 c0 c1 c2 c3
        obtain ⟨c0, c1, c2, c3⟩ := I1.out.bx.cells
        go_wp2_with fail
        refine (HSA.out _ I1.out.rd).mono ?_
        rintro r w2 ⟨A2, k2, rfl, hr2, hl2, hc2, hb2⟩
        have I2 := Lib.hid (I1.out.step hb2)
        have HR2 := Lib.hid hr2
        clear hb2 c0 c1 c2 c3 hr2
        obtain ⟨c0, c1, c2, c3⟩ := I2.out.bx.cells
        go_wp2_with fail
        refine (HSB.out _ I2.out.rd).mono ?_
        rintro r w3 ⟨A3, k3, rfl, hr3, hl3, hc3, hb3⟩
        have I3 := Lib.hid (I2.out.step hb3)
        obtain ⟨p3, o3, rfl, _⟩ := hr3 (by simp)
        have HR2 := Lib.hid (HR2.out.below hb3)
        have HR3 := Lib.hid hr3
        have d0 : w3.cell? ⟨p3, o3, none⟩ = some (.int .i64 1) := hr3.head
        clear hb3 c0 c1 c2 c3 hr3
        go_wp2_with fail
        go_loop [10, 11] (fun v10 v11 => ∃ (k : Nat) (m : Int), k ≤ ga.length ∧ v11 = .int .i64 k ∧ v10 = .int .i64 m ∧ Hid (m = isum (ga.take k))) (fun v10 v11 => ga.length - (intOf v11).toNat)
        case atStart => exact ⟨0, 0, Nat.zero_le _, rfl, rfl, Lib.hid (by simp [isum_nil])⟩
        case round =>
          obtain ⟨k, m, hk, rfl, rfl, hm⟩ := hrel
          by_cases hlt : k < ga.length
          · obtain ⟨x, hx⟩ : ∃ x, ga[k]? = some x := ⟨_, List.getElem?_eq_getElem hlt⟩
            obtain ⟨s1, s2, s3, s4⟩ := HSUM.out k m x hx hm.out
            obtain ⟨p2, o2, rfl, r2⟩ := HR2.out (fun h => by rw [h] at hlt; simp at hlt)
            have dk := r2 k x hx
            have S4 := Lib.hid s4
            clear s4 r2 hx
            go_wp2
            go_round
            case rel => exact ⟨k + 1, _, by omega, by go_num, rfl, S4⟩
            case measure => simp [intOf]; omega
          · obtain rfl : k = ga.length := by omega
            obtain rfl := HT.out m hm.out
            clear hm
            by_cases hk3 : k3 = 1
            · subst hk3
              rw [List.length_cons] at hl3
              obtain rfl : ga = [] := List.eq_nil_of_length_eq_zero (by omega)
              go_wp2_with fail
              refine (ints_same _ _ _ _ [] w3 (by simp) (fun h => absurd rfl h) (fun h => absurd rfl h) 0).mono ?_
              rintro r w4 ⟨rfl, q, rfl⟩
              go_wp2_with fail
              go_ret
              exact ⟨rfl, below_drewN I3.out.b _⟩
            · go_wp2_with fail
              refine (ints_same _ _ _ _ ga w3 (by omega) HR3.out.tail HR2.out 0).mono ?_
              rintro r w4 ⟨rfl, q, rfl⟩
              go_wp2_with fail
              go_ret
              exact ⟨rfl, below_drewN I3.out.b _⟩
      · subst hx1
        rw [hx2] at hsb
        have HSB := Lib.hid hsb
        clear hx2 hsb hf hff
        obtain ⟨ln, hln⟩ : ∃ ln, ((tl.length : Int) + 1 == 0) = ln := ⟨_, rfl⟩
        obtain rfl : ln = false := by rw [← hln]; exact beq_eq_false_iff_ne.2 (by omega)
        have z2 : ((tl.length : Int) + 1 == (tl.length : Int) + 1 + 1) = false := beq_eq_false_iff_ne.2 (by omega)
        have z3 : ((tl.length : Int) == (tl.length : Int) + 1) = false := beq_eq_false_iff_ne.2 (by omega)
        rw [List.length_cons] at gal
        go_enter Try.func7, Try.ntmps7
        go_wp2_with fail
        refine (awake_calls _).mono ?_
        rintro r w1 ⟨rfl, hb1⟩
        have I1 := Lib.hid (HI.out.step hb1)
        clear hb1 c0 c1 c2 c3
        obtain ⟨c0, c1, c2, c3⟩ := I1.out.bx.cells
        go_wp2_with fail
        refine (HSA.out _ I1.out.rd).mono ?_
        rintro r w2 ⟨A2, k2, rfl, hr2, hl2, hc2, hb2⟩
        have I2 := Lib.hid (I1.out.step hb2)
        obtain ⟨p2, o2, rfl, _⟩ := hr2 (by simp)
        have HR2 := Lib.hid hr2
        clear hb2 c0 c1 c2 c3 hr2
        obtain ⟨c0, c1, c2, c3⟩ := I2.out.bx.cells
        go_wp2_with fail
        refine (HSB.out _ I2.out.rd).mono ?_
        rintro r w3 ⟨A3, k3, rfl, hr3, hl3, hc3, hb3⟩
        have I3 := Lib.hid (I2.out.step hb3)
        obtain ⟨p3, o3, rfl, _⟩ := hr3 (by simp)
        have HR2 := Lib.hid (HR2.out.below hb3)
        have HR3 := Lib.hid hr3
        have d0 : w3.cell? ⟨p3, o3, none⟩ = some (.int .i64 (x + 1)) := hr3.head
        have d1 : w3.cell? ⟨p2, o2, none⟩ = some (.int .i64 x) := HR2.out.head
        clear hb3 c0 c1 c2 c3 hr3
        go_wp2_with fail
        go_loop [10, 11] (fun v10 v11 => ∃ (k : Nat) (m : Int), k ≤ tl.length + 1 ∧ v11 = .int .i64 k ∧ v10 = .int .i64 m ∧ Hid (m = isum ((x :: tl).take k))) (fun v10 v11 => tl.length + 1 - (intOf v11).toNat)
        case atStart => exact ⟨0, 0, Nat.zero_le _, rfl, rfl, Lib.hid (by simp [isum_nil])⟩
        case round =>
          obtain ⟨k, m, hk, rfl, rfl, hm⟩ := hrel
          by_cases hlt : k < tl.length + 1
          · obtain ⟨y, hy⟩ : ∃ y, (x :: tl)[k]? = some y := ⟨_, List.getElem?_eq_getElem hlt⟩
            obtain ⟨s1, s2, s3, s4⟩ := HSUM.out k m y hy hm.out
            have dk := HR2.out.at k y hy
            have S4 := Lib.hid s4
            clear s4 hy
            go_wp2
            go_round
            case rel => exact ⟨k + 1, _, by omega, by go_num, rfl, S4⟩
            case measure => simp [intOf]; omega
          · obtain rfl : k = tl.length + 1 := by omega
            obtain rfl := HT.out m hm.out
            clear hm
            obtain ⟨_, x1, x2, _⟩ := HSUM.out 0 0 x rfl rfl
            rw [List.length_cons] at hl2 hl3
            have e1 : ∀ j, Calls Try.prog 22 #[.slice (some ⟨p3, o3 + 1, none⟩) tl.length (k3 - 1), .slice (some ⟨p2, o2 + 1, none⟩) tl.length (k2 - 1)] (w3.drewN j) fun e w' => e = .returned (.bool true) ∧ ∃ m, w' = w3.drewN m := fun j => ints_same _ _ _ _ tl w3 (by omega) HR3.out.tail HR2.out.tail j
            have E1 := Lib.hid e1
            clear e1
            have e0 : ∀ A1 c1 A2 c2 j, Calls Try.prog 22 #[.slice A1 0 c1, .slice A2 0 c2] (w3.drewN j) fun e w' => e = .returned (.bool true) ∧ ∃ m, w' = w3.drewN m := fun A1 c1 A2 c2 j => ints_same A1 c1 A2 c2 [] w3 (by simp) (fun h => absurd rfl h) (fun h => absurd rfl h) j
            have E0 := Lib.hid e0
            clear e0
            by_cases hk2 : k2 = 1 <;> by_cases hk3 : k3 = 1
            iterate 3
              · obtain rfl : tl = [] := List.eq_nil_of_length_eq_zero (by omega)
                try subst hk2
                try subst hk3
                go_wp2_with fail
                go_quiet ((go_at_call 22; exact E0.out _ _ _ _ _))
                go_wp2_with fail
                go_ret
                exact ⟨rfl, below_drewN I3.out.b _⟩
            · go_wp2_with fail
              go_quiet ((go_at_call 22; exact E1.out _))
              go_wp2_with fail
              go_ret
              exact ⟨rfl, below_drewN I3.out.b _⟩
end Go.Proofs.Ytkdnlmnjhlogmaa
