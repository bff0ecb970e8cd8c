/- Package nat, its reference and its laws' helpers, part 7 (NCH NCI NCJ). -/
import Derived.Shelf.Abstract
import Derived.Test.YtfcfejlffmddnaaGreatDoorM06
section
/- Contracts: the exported functions that make one number of two. -/
namespace Go.Proofs.YtfcfejlffmddnaaGreatDoor
open Go.RowKit
set_option linter.unusedSimpArgs false
set_option linter.unusedVariables false

variable {w0 w : World} {l : List (Option Addr × Nat × Nat × Nat)}
/-- Between a world and a later one, a number and an error are given. -/
def Gave (w0 : World) (l : List (Option Addr × Nat × Nat × Nat)) (x : Int) (n : Nat) (e : Ending) (w' : World) : Prop := ∃ A k c, e = .returned (.tuple #[.slice A k c, .int .i64 x]) ∧ k ≤ 1024 ∧ Has w0 w' ((A, k, c, n) :: l)
theorem Gives.gave (H : Has w0 w l) {x : Int} {n : Nat} {e : Ending} {w' : World} (h : Gives w x n e w') : Gave w0 l x n e w' := by
  obtain ⟨A, k, c, rfl, hk, h⟩ := h
  exact ⟨A, k, c, rfl, hk, H.join h⟩
theorem Gives.from {w1 : World} (hb : Below w.heap.size w w1) {x : Int} {n : Nat} {e : Ending} {w' : World} (h : Gives w1 x n e w') : Gives w x n e w' := by
  obtain ⟨A, k, c, rfl, hk, h⟩ := h
  exact ⟨A, k, c, rfl, hk, hb.trans (h.b.mono hb.size), h.r⟩
theorem Has.two (H : Has w0 w l) {A1 : Option Addr} {k1 c1 a : Nat} {A2 : Option Addr} {k2 c2 b : Nat} (h1 : (A1, k1, c1, a) ∈ l) (h2 : (A2, k2, c2, b) ∈ l) : Has w w [(A1, k1, c1, a), (A2, k2, c2, b)] :=
  ⟨Below.refl _ _, fun p hp => H.r p (by
    simp only [List.mem_cons, List.not_mem_nil, or_false] at hp
    rcases hp with rfl | rfl <;> assumption)⟩
set_option maxRecDepth 10000 in
theorem Add_bad (A1 : Option Addr) (k1 c1 : Nat) (g1 : List Int) (A2 : Option Addr) (k2 c2 : Nat) (g2 : List Int) (w : World) (r1 : Rd .u32 w A1 g1) (r2 : Rd .u32 w A2 g2) (e1 : g1.length = k1) (e2 : g2.length = k2) (b1 : k1 ≤ 9223372036854775807) (b2 : k2 ≤ 9223372036854775807) (hv : Hid ((validB g1 && validB g2) = false)) :
    Calls Tryz.prog 40 #[.slice A1 k1 c1, .slice A2 k2 c2] w (Gives w 1 0) := by
  have hm := mult_bad (.func (.func 93) #[] #[]) .nilFunc A1 k1 c1 g1 A2 k2 c2 g2 w r1 r2 e1 e2 b1 b2 hv
  have HM := Lib.hid hm
  clear hm r1 r2 e1 e2 b1 b2
  go_enter Tryz.func40, Tryz.ntmps40
  go_wp2_with fail
  refine HM.out.mono ?_
  rintro e w' ⟨A, k, c, rfl, hk, h⟩
  go_wp2_with fail
  go_ret2
  exact ⟨A, k, c, rfl, hk, h⟩
set_option maxRecDepth 10000 in
theorem Add_times (A1 : Option Addr) (k1 c1 a : Nat) (A2 : Option Addr) (k2 c2 b : Nat) (w : World) (b1 : k1 ≤ 1024) (b2 : k2 ≤ 1024) : Times w 93 #[] A1 k1 c1 a A2 k2 c2 b 0 (a + b) (max k1 k2 + 1) :=
  ⟨enters_of Tryz.func93 (by kernel_rfl) rfl, fun W hb H => (add_h H A1 k1 c1 a A2 k2 c2 b (by simp) (by simp) (by omega) (by omega)).mono (fun e W' h => Or.inl ⟨rfl, h⟩)⟩
set_option maxRecDepth 10000 in
theorem Add_x (H : Has w0 w l) (A1 : Option Addr) (k1 c1 a : Nat) (A2 : Option Addr) (k2 c2 b : Nat) (h1 : (A1, k1, c1, a) ∈ l) (h2 : (A2, k2, c2, b) ∈ l) (b1 : k1 ≤ 1024) (b2 : k2 ≤ 1024) (x : Int) (n : Nat) (hx : Hid (giv (a + b) = (x, n))) :
    Calls Tryz.prog 40 #[.slice A1 k1 c1, .slice A2 k2 c2] w (Gave w0 l x n) := by
  have hm := mult_done 93 #[] .nilFunc A1 k1 c1 a A2 k2 c2 b w (H.two h1 h2) b1 b2 (a + b) (max k1 k2 + 1) (by omega) x n hx (Add_times A1 k1 c1 a A2 k2 c2 b w b1 b2)
  refine Calls.mono (R := Gives w x n) ?_ (fun e w' h => h.gave H)
  have HM := Lib.hid hm
  clear hm H h1 h2
  go_enter Tryz.func40, Tryz.ntmps40
  go_wp2_with fail
  refine HM.out.mono ?_
  rintro e w' ⟨A, k, c, rfl, hk, h⟩
  go_wp2_with fail
  go_ret2
  exact ⟨A, k, c, rfl, hk, h⟩
set_option maxRecDepth 10000 in
theorem Mul_bad (A1 : Option Addr) (k1 c1 : Nat) (g1 : List Int) (A2 : Option Addr) (k2 c2 : Nat) (g2 : List Int) (w : World) (r1 : Rd .u32 w A1 g1) (r2 : Rd .u32 w A2 g2) (e1 : g1.length = k1) (e2 : g2.length = k2) (b1 : k1 ≤ 9223372036854775807) (b2 : k2 ≤ 9223372036854775807) (hv : Hid ((validB g1 && validB g2) = false)) :
    Calls Tryz.prog 21 #[.slice A1 k1 c1, .slice A2 k2 c2] w (Gives w 1 0) := by
  have hm := mult_bad (.func (.func 65) #[] #[]) .nilFunc A1 k1 c1 g1 A2 k2 c2 g2 w r1 r2 e1 e2 b1 b2 hv
  have HM := Lib.hid hm
  clear hm r1 r2 e1 e2 b1 b2
  go_enter Tryz.func21, Tryz.ntmps21
  go_wp2_with fail
  refine HM.out.mono ?_
  rintro e w' ⟨A, k, c, rfl, hk, h⟩
  go_wp2_with fail
  go_ret2
  exact ⟨A, k, c, rfl, hk, h⟩
set_option maxRecDepth 10000 in
theorem Mul_times (A1 : Option Addr) (k1 c1 a : Nat) (A2 : Option Addr) (k2 c2 b : Nat) (w : World) (b1 : k1 ≤ 1024) (b2 : k2 ≤ 1024) : Times w 65 #[] A1 k1 c1 a A2 k2 c2 b 0 (a * b) (k1 + k2) :=
  ⟨enters_of Tryz.func65 (by kernel_rfl) rfl, fun W hb H => (mul_h H A1 k1 c1 a A2 k2 c2 b (by simp) (by simp) (by omega) (by omega)).mono (fun e W' h => Or.inl ⟨rfl, h⟩)⟩
set_option maxRecDepth 10000 in
theorem Mul_x (H : Has w0 w l) (A1 : Option Addr) (k1 c1 a : Nat) (A2 : Option Addr) (k2 c2 b : Nat) (h1 : (A1, k1, c1, a) ∈ l) (h2 : (A2, k2, c2, b) ∈ l) (b1 : k1 ≤ 1024) (b2 : k2 ≤ 1024) (x : Int) (n : Nat) (hx : Hid (giv (a * b) = (x, n))) :
    Calls Tryz.prog 21 #[.slice A1 k1 c1, .slice A2 k2 c2] w (Gave w0 l x n) := by
  have hm := mult_done 65 #[] .nilFunc A1 k1 c1 a A2 k2 c2 b w (H.two h1 h2) b1 b2 (a * b) (k1 + k2) (by omega) x n hx (Mul_times A1 k1 c1 a A2 k2 c2 b w b1 b2)
  refine Calls.mono (R := Gives w x n) ?_ (fun e w' h => h.gave H)
  have HM := Lib.hid hm
  clear hm H h1 h2
  go_enter Tryz.func21, Tryz.ntmps21
  go_wp2_with fail
  refine HM.out.mono ?_
  rintro e w' ⟨A, k, c, rfl, hk, h⟩
  go_wp2_with fail
  go_ret2
  exact ⟨A, k, c, rfl, hk, h⟩
set_option maxRecDepth 10000 in
theorem School_bad (A1 : Option Addr) (k1 c1 : Nat) (g1 : List Int) (A2 : Option Addr) (k2 c2 : Nat) (g2 : List Int) (w : World) (r1 : Rd .u32 w A1 g1) (r2 : Rd .u32 w A2 g2) (e1 : g1.length = k1) (e2 : g2.length = k2) (b1 : k1 ≤ 9223372036854775807) (b2 : k2 ≤ 9223372036854775807) (hv : Hid ((validB g1 && validB g2) = false)) :
    Calls Tryz.prog 48 #[.slice A1 k1 c1, .slice A2 k2 c2] w (Gives w 1 0) := by
  have hm := mult_bad (.func (.func 96) #[] #[]) .nilFunc A1 k1 c1 g1 A2 k2 c2 g2 w r1 r2 e1 e2 b1 b2 hv
  have HM := Lib.hid hm
  clear hm r1 r2 e1 e2 b1 b2
  go_enter Tryz.func48, Tryz.ntmps48
  go_wp2_with fail
  refine HM.out.mono ?_
  rintro e w' ⟨A, k, c, rfl, hk, h⟩
  go_wp2_with fail
  go_ret2
  exact ⟨A, k, c, rfl, hk, h⟩
set_option maxRecDepth 10000 in
theorem School_times (A1 : Option Addr) (k1 c1 a : Nat) (A2 : Option Addr) (k2 c2 b : Nat) (w : World) (b1 : k1 ≤ 1024) (b2 : k2 ≤ 1024) : Times w 96 #[] A1 k1 c1 a A2 k2 c2 b 0 (a * b) (k1 + k2) :=
  ⟨enters_of Tryz.func96 (by kernel_rfl) rfl, fun W hb H => (school_h H A1 k1 c1 a A2 k2 c2 b (by simp) (by simp) (by omega) (by omega)).mono (fun e W' h => Or.inl ⟨rfl, h⟩)⟩
set_option maxRecDepth 10000 in
theorem School_x (H : Has w0 w l) (A1 : Option Addr) (k1 c1 a : Nat) (A2 : Option Addr) (k2 c2 b : Nat) (h1 : (A1, k1, c1, a) ∈ l) (h2 : (A2, k2, c2, b) ∈ l) (b1 : k1 ≤ 1024) (b2 : k2 ≤ 1024) (x : Int) (n : Nat) (hx : Hid (giv (a * b) = (x, n))) :
    Calls Tryz.prog 48 #[.slice A1 k1 c1, .slice A2 k2 c2] w (Gave w0 l x n) := by
  have hm := mult_done 96 #[] .nilFunc A1 k1 c1 a A2 k2 c2 b w (H.two h1 h2) b1 b2 (a * b) (k1 + k2) (by omega) x n hx (School_times A1 k1 c1 a A2 k2 c2 b w b1 b2)
  refine Calls.mono (R := Gives w x n) ?_ (fun e w' h => h.gave H)
  have HM := Lib.hid hm
  clear hm H h1 h2
  go_enter Tryz.func48, Tryz.ntmps48
  go_wp2_with fail
  refine HM.out.mono ?_
  rintro e w' ⟨A, k, c, rfl, hk, h⟩
  go_wp2_with fail
  go_ret2
  exact ⟨A, k, c, rfl, hk, h⟩
set_option maxRecDepth 10000 in
theorem Sub_bad (A1 : Option Addr) (k1 c1 : Nat) (g1 : List Int) (A2 : Option Addr) (k2 c2 : Nat) (g2 : List Int) (w : World) (r1 : Rd .u32 w A1 g1) (r2 : Rd .u32 w A2 g2) (e1 : g1.length = k1) (e2 : g2.length = k2) (b1 : k1 ≤ 9223372036854775807) (b2 : k2 ≤ 9223372036854775807) (hv : Hid ((validB g1 && validB g2) = false)) :
    Calls Tryz.prog 41 #[.slice A1 k1 c1, .slice A2 k2 c2] w (Gives w 1 0) := by
  have hm := mult_bad (.func (.func 94) #[] #[]) .nilFunc A1 k1 c1 g1 A2 k2 c2 g2 w r1 r2 e1 e2 b1 b2 hv
  have HM := Lib.hid hm
  clear hm r1 r2 e1 e2 b1 b2
  go_enter Tryz.func41, Tryz.ntmps41
  go_wp2_with fail
  refine HM.out.mono ?_
  rintro e w' ⟨A, k, c, rfl, hk, h⟩
  go_wp2_with fail
  go_ret2
  exact ⟨A, k, c, rfl, hk, h⟩
set_option maxRecDepth 10000 in
theorem sub1_calls (H : Has w0 w l) (A1 : Option Addr) (k1 c1 a : Nat) (A2 : Option Addr) (k2 c2 b : Nat) (h1 : (A1, k1, c1, a) ∈ l) (h2 : (A2, k2, c2, b) ∈ l) (b1 : k1 ≤ 1024) (b2 : k2 ≤ 1024) (hle : b ≤ a) :
    Calls Tryz.prog 94 #[.slice A1 k1 c1, .slice A2 k2 c2] w (Made w0 l (a - b) k1) := by
  obtain ⟨r, hr⟩ : ∃ r, cmpI a b = r := ⟨_, rfl⟩
  have hrc : decide (0 ≤ r) = true := by
    rcases cmp_case a b with ⟨h, _⟩ | ⟨_, h⟩
    · omega
    · rw [hr] at h; exact decide_eq_true (by rcases h with h | h <;> omega)
  have HR := Lib.hid hr
  have HL := Lib.hid hle
  have HH := Lib.hid H
  clear hr hle H
  go_enter Tryz.func94, Tryz.ntmps94
  go_wp2_with fail
  refine (cmp_h HH.out A1 k1 c1 a A2 k2 c2 b h1 h2 (by omega) (by omega) _ HR).mono ?_
  rintro e w1 ⟨rfl, H1⟩
  go_wp2_with fail
  refine (need_ok _ _).mono ?_
  rintro e w' ⟨rfl, rfl⟩
  go_wp2_with fail
  refine (sub_h H1 A1 k1 c1 a A2 k2 c2 b h1 h2 (by omega) (by omega) HL.out).mono ?_
  rintro e w2 ⟨A3, k3, c3, n3, rfl, hn3, b3, H3⟩
  go_wp2_with fail
  go_ret
  exact ⟨A3, k3, c3, n3, rfl, hn3, b3, H3⟩
set_option maxRecDepth 10000 in
theorem sub1_no (H : Has w0 w l) (A1 : Option Addr) (k1 c1 a : Nat) (A2 : Option Addr) (k2 c2 b : Nat) (h1 : (A1, k1, c1, a) ∈ l) (h2 : (A2, k2, c2, b) ∈ l) (b1 : k1 ≤ 1024) (b2 : k2 ≤ 1024) (hlt : a < b) :
    Calls Tryz.prog 94 #[.slice A1 k1 c1, .slice A2 k2 c2] w fun e w' => e = .panicked [{ v := fail 3, recovered := false }] ∧ Has w0 w' l := by
  obtain ⟨r, hr⟩ : ∃ r, cmpI a b = r := ⟨_, rfl⟩
  have hrc : decide (0 ≤ r) = false := by
    rcases cmp_case a b with ⟨_, h⟩ | ⟨h, _⟩
    · rw [hr] at h; exact decide_eq_false (by omega)
    · omega
  have HR := Lib.hid hr
  have HH := Lib.hid H
  clear hr hlt H
  go_enter Tryz.func94, Tryz.ntmps94
  go_wp2_with fail
  refine (cmp_h HH.out A1 k1 c1 a A2 k2 c2 b h1 h2 (by omega) (by omega) _ HR).mono ?_
  rintro e w1 ⟨rfl, H1⟩
  go_wp2_with fail
  refine (need_no _ _).mono ?_
  rintro e w' ⟨rfl, rfl⟩
  go_wp2_with fail
  exact ⟨rfl, rfl, H1⟩
/-- What Sub answers. -/
def subO (a b : Nat) : Int × Nat := if a < b then (3, 0) else giv (a - b)
set_option maxRecDepth 10000 in
theorem Sub_x (H : Has w0 w l) (A1 : Option Addr) (k1 c1 a : Nat) (A2 : Option Addr) (k2 c2 b : Nat) (h1 : (A1, k1, c1, a) ∈ l) (h2 : (A2, k2, c2, b) ∈ l) (b1 : k1 ≤ 1024) (b2 : k2 ≤ 1024) (x : Int) (n : Nat) (hx : Hid (subO a b = (x, n))) :
    Calls Tryz.prog 41 #[.slice A1 k1 c1, .slice A2 k2 c2] w (Gave w0 l x n) := by
  have hm : Calls Tryz.prog 64 #[.slice A1 k1 c1, .slice A2 k2 c2, .agg #[.func (.func 94) #[] #[], .nilFunc]] w (Gives w x n) := by
    have hx := hx.out
    unfold subO at hx
    by_cases hlt : a < b
    · rw [if_pos hlt] at hx
      injection hx with hx hn
      subst hx hn
      exact mult_fail 94 #[] .nilFunc A1 k1 c1 a A2 k2 c2 b w (H.two h1 h2) b1 b2 3 0 0 (by decide) ⟨enters_of Tryz.func94 (by kernel_rfl) rfl, fun W hb H => (sub1_no H A1 k1 c1 a A2 k2 c2 b (by simp) (by simp) b1 b2 hlt).mono (fun e W' h => Or.inr ⟨by decide, h.1, h.2.b⟩)⟩
    · rw [if_neg hlt] at hx
      exact mult_done 94 #[] .nilFunc A1 k1 c1 a A2 k2 c2 b w (H.two h1 h2) b1 b2 (a - b) k1 (by omega) x n (Lib.hid hx) ⟨enters_of Tryz.func94 (by kernel_rfl) rfl, fun W hb H => (sub1_calls H A1 k1 c1 a A2 k2 c2 b (by simp) (by simp) b1 b2 (by omega)).mono (fun e W' h => Or.inl ⟨rfl, h⟩)⟩
  refine Calls.mono (R := Gives w x n) ?_ (fun e w' h => h.gave H)
  have HM := Lib.hid hm
  clear hm H h1 h2
  go_enter Tryz.func41, Tryz.ntmps41
  go_wp2_with fail
  refine HM.out.mono ?_
  rintro e w' ⟨A, k, c, rfl, hk, h⟩
  go_wp2_with fail
  go_ret2
  exact ⟨A, k, c, rfl, hk, h⟩
end Go.Proofs.YtfcfejlffmddnaaGreatDoor
end
section
/- Contracts: Karatsuba, Gcd. -/
namespace Go.Proofs.YtfcfejlffmddnaaGreatDoor
open Go.RowKit
set_option linter.unusedSimpArgs false
set_option linter.unusedVariables false

variable {w0 w : World} {l : List (Option Addr × Nat × Nat × Nat)}
theorem cuts_ok (cut : Int) (w : World) (h1 : 2 ≤ cut) (h2 : cut ≤ 1024) : Calls Tryz.prog 98 #[.int .i64 cut] w fun e w' => e = .returned (.tuple #[]) ∧ w = w' := by
  have d1 : decide (2 ≤ cut) = true := decide_eq_true h1
  have d2 : decide (cut ≤ 1024) = true := decide_eq_true h2
  go_enter Tryz.func98, Tryz.ntmps98
  go_wp2_with fail
  refine (need_ok _ _).mono ?_
  rintro e w' ⟨rfl, rfl⟩
  go_wp2_with fail
  go_end0
  exact ⟨rfl, rfl⟩
theorem cuts_no (cut : Int) (w : World) (h : cut < 2 ∨ 1024 < cut) : Calls Tryz.prog 98 #[.int .i64 cut] w fun e w' => e = .panicked [{ v := fail 1, recovered := false }] ∧ w = w' := by
  rcases h with h1 | h1
  · have d1 : decide (2 ≤ cut) = false := decide_eq_false (by omega)
    go_enter Tryz.func98, Tryz.ntmps98
    go_wp2_with fail
    refine (need_no _ _).mono ?_
    rintro e w' ⟨rfl, rfl⟩
    go_wp2_with fail
    exact ⟨rfl, rfl, rfl⟩
  · have d1 : decide (2 ≤ cut) = true := decide_eq_true (by omega)
    have d2 : decide (cut ≤ 1024) = false := decide_eq_false (by omega)
    go_enter Tryz.func98, Tryz.ntmps98
    go_wp2_with fail
    refine (need_no _ _).mono ?_
    rintro e w' ⟨rfl, rfl⟩
    go_wp2_with fail
    exact ⟨rfl, rfl, rfl⟩
set_option maxRecDepth 10000 in
theorem kar1_calls (H : Has w0 w l) (A1 : Option Addr) (k1 c1 a : Nat) (A2 : Option Addr) (k2 c2 b : Nat) (h1 : (A1, k1, c1, a) ∈ l) (h2 : (A2, k2, c2, b) ∈ l) (b1 : k1 ≤ 1024) (b2 : k2 ≤ 1024) (p : Nat) (cut : Int) (hp : Boxed w p 3 (.int .i64 cut)) (d1 : 2 ≤ cut) (d2 : cut ≤ 1024) :
    Calls Tryz.prog 97 #[.slice A1 k1 c1, .slice A2 k2 c2, .pointer (some ⟨p, 0, none⟩)] w (Made w0 l (a * b) (k1 + k2)) := by
  have hc := hp.cell
  have HH := Lib.hid H
  clear H hp
  go_enter Tryz.func97, Tryz.ntmps97
  go_wp2_with fail
  refine (cuts_ok cut w d1 d2).mono ?_
  rintro e w' ⟨rfl, rfl⟩
  go_wp2_with fail
  refine (kar_said (a + b + 1) a b (Nat.lt_succ_self _) _ _ _ HH.out A1 k1 c1 A2 k2 c2 h1 h2 (by omega) (by omega) cut d1).mono ?_
  rintro e w2 ⟨A3, k3, c3, n3, rfl, hn3, b3, H3⟩
  go_wp2_with fail
  go_ret
  exact ⟨A3, k3, c3, n3, rfl, hn3, b3, H3⟩
set_option maxRecDepth 10000 in
theorem kar1_no (A1 : Option Addr) (k1 c1 : Nat) (A2 : Option Addr) (k2 c2 : Nat) (w : World) (p : Nat) (cut : Int) (hp : Boxed w p 3 (.int .i64 cut)) (h : cut < 2 ∨ 1024 < cut) :
    Calls Tryz.prog 97 #[.slice A1 k1 c1, .slice A2 k2 c2, .pointer (some ⟨p, 0, none⟩)] w fun e w' => e = .panicked [{ v := fail 1, recovered := false }] ∧ w = w' := by
  have hc := hp.cell
  have hn := Lib.hid (cuts_no cut w h)
  clear hp h
  go_enter Tryz.func97, Tryz.ntmps97
  go_wp2_with fail
  refine hn.out.mono ?_
  rintro e w' ⟨rfl, rfl⟩
  go_wp2_with fail
  exact ⟨rfl, rfl, rfl⟩
/-- What Karatsuba answers. -/
def karO (a b : Nat) (cut : Int) : Int × Nat := if 2 ≤ cut ∧ cut ≤ 1024 then giv (a * b) else (1, 0)
set_option maxRecDepth 10000 in
theorem Karatsuba_x (H : Has w0 w l) (A1 : Option Addr) (k1 c1 a : Nat) (A2 : Option Addr) (k2 c2 b : Nat) (h1 : (A1, k1, c1, a) ∈ l) (h2 : (A2, k2, c2, b) ∈ l) (b1 : k1 ≤ 1024) (b2 : k2 ≤ 1024) (cut : Int) (x : Int) (n : Nat) (hx : Hid (karO a b cut = (x, n))) :
    Calls Tryz.prog 49 #[.slice A1 k1 c1, .slice A2 k2 c2, .int .i64 cut] w (Gave w0 l x n) := by
  have hba : Below w.heap.size w (w.alloc (.cells #[.int .i64 cut] 3)) := (Below.refl _ _).alloc (Nat.le_refl _) _
  have hm : Calls Tryz.prog 64 #[.slice A1 k1 c1, .slice A2 k2 c2, .agg #[.func (.func 97) #[] #[.pointer (some ⟨w.heap.size, 0, none⟩)], .nilFunc]] (w.alloc (.cells #[.int .i64 cut] 3)) (Gives (w.alloc (.cells #[.int .i64 cut] 3)) x n) := by
    have hx := hx.out
    have hbx : Boxed (w.alloc (.cells #[.int .i64 cut] 3)) w.heap.size 3 (.int .i64 cut) := Boxed.new w 3 _
    have HA := H.alloc (.cells #[.int .i64 cut] 3)
    unfold karO at hx
    by_cases hc : 2 ≤ cut ∧ cut ≤ 1024
    · rw [if_pos hc] at hx
      exact mult_done 97 _ .nilFunc A1 k1 c1 a A2 k2 c2 b _ (HA.two h1 h2) b1 b2 (a * b) (k1 + k2) (by omega) x n (Lib.hid hx) ⟨enters_of Tryz.func97 (by kernel_rfl) rfl, fun W hb H => (kar1_calls H A1 k1 c1 a A2 k2 c2 b (by simp) (by simp) b1 b2 w.heap.size cut ((hb.block _ hbx.lt).trans hbx) hc.1 hc.2).mono (fun e W' h => Or.inl ⟨rfl, h⟩)⟩
    · rw [if_neg hc] at hx
      injection hx with hx hn
      subst hx hn
      exact mult_fail 97 _ .nilFunc A1 k1 c1 a A2 k2 c2 b _ (HA.two h1 h2) b1 b2 1 0 0 (by decide) ⟨enters_of Tryz.func97 (by kernel_rfl) rfl, fun W hb H => (kar1_no A1 k1 c1 A2 k2 c2 W w.heap.size cut ((hb.block _ hbx.lt).trans hbx) (by omega)).mono (by rintro e W' ⟨rfl, rfl⟩; exact Or.inr ⟨by decide, rfl, Below.refl _ _⟩)⟩
  refine Calls.mono (R := Gives w x n) ?_ (fun e w' h => h.gave H)
  have HM := Lib.hid hm
  have HB := Lib.hid hba
  clear hm H h1 h2 hba
  go_enter Tryz.func49, Tryz.ntmps49
  go_wp2_with fail
  refine HM.out.mono ?_
  rintro e w' hg
  obtain ⟨A, k, c, rfl, hk, h⟩ := hg.from HB.out
  clear hg
  go_wp2_with fail
  go_ret2
  exact ⟨A, k, c, rfl, hk, h⟩
set_option maxRecDepth 10000 in
theorem Karatsuba_bad (A1 : Option Addr) (k1 c1 : Nat) (g1 : List Int) (A2 : Option Addr) (k2 c2 : Nat) (g2 : List Int) (cut : Int) (w : World) (r1 : Rd .u32 w A1 g1) (r2 : Rd .u32 w A2 g2) (e1 : g1.length = k1) (e2 : g2.length = k2) (b1 : k1 ≤ 9223372036854775807) (b2 : k2 ≤ 9223372036854775807) (hv : Hid ((validB g1 && validB g2) = false)) :
    Calls Tryz.prog 49 #[.slice A1 k1 c1, .slice A2 k2 c2, .int .i64 cut] w (Gives w 1 0) := by
  have hba : Below w.heap.size w (w.alloc (.cells #[.int .i64 cut] 3)) := (Below.refl _ _).alloc (Nat.le_refl _) _
  have hm := mult_bad (.func (.func 97) #[] #[.pointer (some ⟨w.heap.size, 0, none⟩)]) .nilFunc A1 k1 c1 g1 A2 k2 c2 g2 (w.alloc (.cells #[.int .i64 cut] 3)) (r1.alloc _) (r2.alloc _) e1 e2 b1 b2 hv
  have HM := Lib.hid hm
  have HB := Lib.hid hba
  clear hm r1 r2 e1 e2 b1 b2 hba
  go_enter Tryz.func49, Tryz.ntmps49
  go_wp2_with fail
  refine HM.out.mono ?_
  rintro e w' hg
  obtain ⟨A, k, c, rfl, hk, h⟩ := hg.from HB.out
  clear hg
  go_wp2_with fail
  go_ret2
  exact ⟨A, k, c, rfl, hk, h⟩
set_option maxRecDepth 10000 in
theorem Gcd_bad (A1 : Option Addr) (k1 c1 : Nat) (g1 : List Int) (A2 : Option Addr) (k2 c2 : Nat) (g2 : List Int) (w : World) (r1 : Rd .u32 w A1 g1) (r2 : Rd .u32 w A2 g2) (e1 : g1.length = k1) (e2 : g2.length = k2) (b1 : k1 ≤ 9223372036854775807) (b2 : k2 ≤ 9223372036854775807) (hv : Hid ((validB g1 && validB g2) = false)) :
    Calls Tryz.prog 29 #[.slice A1 k1 c1, .slice A2 k2 c2] w (Gives w 1 0) := by
  have hm := mult_bad (.func (.func 78) #[] #[]) .nilFunc A1 k1 c1 g1 A2 k2 c2 g2 w r1 r2 e1 e2 b1 b2 hv
  have HM := Lib.hid hm
  clear hm r1 r2 e1 e2 b1 b2
  go_enter Tryz.func29, Tryz.ntmps29
  go_wp2_with fail
  refine HM.out.mono ?_
  rintro e w' ⟨A, k, c, rfl, hk, h⟩
  go_wp2_with fail
  go_ret2
  exact ⟨A, k, c, rfl, hk, h⟩
theorem gcd_turn (x y : Nat) : Nat.gcd y (x % y) = Nat.gcd x y := by rw [Nat.gcd_comm x y, Nat.gcd_rec y x, Nat.gcd_comm]
set_option maxRecDepth 10000 in
set_option maxHeartbeats 1000000 in
theorem gcd1_calls (H : Has w0 w l) (A1 : Option Addr) (k1 c1 a : Nat) (A2 : Option Addr) (k2 c2 b : Nat) (h1 : (A1, k1, c1, a) ∈ l) (h2 : (A2, k2, c2, b) ∈ l) (b1 : k1 ≤ 1024) (b2 : k2 ≤ 1024) :
    Calls Tryz.prog 78 #[.slice A1 k1 c1, .slice A2 k2 c2] w (Made w0 l (Nat.gcd a b) 1024) := by
  have hst : Has w0 w ((A1, k1, c1, a) :: (A2, k2, c2, b) :: l) := H.keep (fun p hp => by
    simp only [List.mem_cons] at hp
    rcases hp with rfl | rfl | hp <;> assumption)
  have HS := Lib.hid hst
  clear H hst
  go_enter Tryz.func78, Tryz.ntmps78
  go_wp2_with fail
  go_loopw [0, 1, 5, 6] (fun v0 v1 v5 v6 wr => ∃ (A : Option Addr) (k c x : Nat) (A' : Option Addr) (k' c' y : Nat), v0 = .slice A k c ∧ v1 = .slice A' k' c' ∧ k ≤ 1024 ∧ k' ≤ 1024 ∧ Hid (Nat.gcd x y = Nat.gcd a b) ∧ Hid (Has w0 wr ((A, k, c, x) :: (A', k', c', y) :: l))) (fun v0 v1 v5 v6 wr => numOf wr v1)
  case atStart => exact ⟨A1, k1, c1, a, A2, k2, c2, b, rfl, rfl, b1, b2, Lib.hid rfl, HS⟩
  case round =>
    obtain ⟨A, k, c, x, A', k', c', y, rfl, rfl, hk, hk', HG, HX⟩ := hrel
    have hzq : Hid (numOf wr (.slice A' k' c') = y) := Lib.hid (HX.out.numOf (by simp))
    have hyl := HX.out.len (A := A') (k := k') (c := c') (n := y) (by simp)
    by_cases h0 : 0 < k'
    · have hy0 : 0 < y := pos_of_len hyl h0
      have HY := Lib.hid hy0
      have hd : decide ((0 : Int) < k') = true := decide_eq_true (by omega)
      clear hyl hy0
      go_wp2_with fail
      refine (long_h HX.out A k c x A' k' c' y (by simp) (by simp) (by omega) (by omega) HY.out).mono ?_
      rintro e w3 ⟨A5, k5, c5, n5, A6, k6, c6, n6, rfl, hn5, hn6, b5, b6, H5⟩
      have HH5 : Hid (Has w0 w3 ((A', k', c', y) :: (A6, k6, c6, n6) :: l)) := Lib.hid (H5.keep (by
        intro p hp
        simp only [List.mem_cons] at hp ⊢
        rcases hp with rfl | rfl | hp <;> simp [*]))
      clear H5
      go_wp2_with fail
      refine ⟨⟨A', k', c', y, A6, k6, c6, n6, rfl, rfl, hk', by omega, Lib.hid (by rw [hn6.out, gcd_turn]; exact HG.out), HH5⟩, ?_⟩
      rw [hzq.out, HH5.out.numOf (A := A6) (k := k6) (c := c6) (n := n6) (by simp), hn6.out]
      exact Nat.mod_lt _ HY.out
    · obtain rfl : k' = 0 := by omega
      have hy0 : y = 0 := (dg_nil_iff y).1 hyl
      have hg : x = Nat.gcd a b := by rw [← HG.out, hy0, Nat.gcd_zero_right]
      have HG2 := Lib.hid hg
      clear hyl hy0 hg
      go_wp2_with fail
      go_ret
      exact ⟨A, k, c, x, rfl, HG2, hk, HX.out.keep (fun p hp => by
        simp only [List.mem_cons] at hp ⊢
        rcases hp with rfl | hp <;> simp [*])⟩
set_option maxRecDepth 10000 in
theorem Gcd_x (H : Has w0 w l) (A1 : Option Addr) (k1 c1 a : Nat) (A2 : Option Addr) (k2 c2 b : Nat) (h1 : (A1, k1, c1, a) ∈ l) (h2 : (A2, k2, c2, b) ∈ l) (b1 : k1 ≤ 1024) (b2 : k2 ≤ 1024) (x : Int) (n : Nat) (hx : Hid (giv (Nat.gcd a b) = (x, n))) :
    Calls Tryz.prog 29 #[.slice A1 k1 c1, .slice A2 k2 c2] w (Gave w0 l x n) := by
  have hm := mult_done 78 #[] .nilFunc A1 k1 c1 a A2 k2 c2 b w (H.two h1 h2) b1 b2 (Nat.gcd a b) 1024 (by omega) x n hx ⟨enters_of Tryz.func78 (by kernel_rfl) rfl, fun W hb H => (gcd1_calls H A1 k1 c1 a A2 k2 c2 b (by simp) (by simp) b1 b2).mono (fun e W' h => Or.inl ⟨rfl, h⟩)⟩
  refine Calls.mono (R := Gives w x n) ?_ (fun e w' h => h.gave H)
  have HM := Lib.hid hm
  clear hm H h1 h2
  go_enter Tryz.func29, Tryz.ntmps29
  go_wp2_with fail
  refine HM.out.mono ?_
  rintro e w' ⟨A, k, c, rfl, hk, h⟩
  go_wp2_with fail
  go_ret2
  exact ⟨A, k, c, rfl, hk, h⟩
end Go.Proofs.YtfcfejlffmddnaaGreatDoor
end
section
/- Contracts: the exported functions that divide. -/
namespace Go.Proofs.YtfcfejlffmddnaaGreatDoor
open Go.RowKit
set_option linter.unusedSimpArgs false
set_option linter.unusedVariables false

variable {w0 w : World} {l : List (Option Addr × Nat × Nat × Nat)}
/-- Between a world and a later one, two numbers and an error are given. -/
def Gave2 (w0 : World) (l : List (Option Addr × Nat × Nat × Nat)) (x : Int) (n m : Nat) (e : Ending) (w' : World) : Prop := ∃ A k c A' k' c', e = .returned (.tuple #[.slice A k c, .slice A' k' c', .int .i64 x]) ∧ k ≤ 1024 ∧ k' ≤ 1024 ∧ Has w0 w' ((A, k, c, n) :: (A', k', c', m) :: l)
theorem Gives2.gave (H : Has w0 w l) {x : Int} {n m : Nat} {e : Ending} {w' : World} (h : Gives2 w x n m e w') : Gave2 w0 l x n m e w' := by
  obtain ⟨A, k, c, A', k', c', rfl, hk, hk', h⟩ := h
  exact ⟨A, k, c, A', k', c', rfl, hk, hk', H.join h⟩
theorem Gives2.from {w1 : World} (hb : Below w.heap.size w w1) {x : Int} {n m : Nat} {e : Ending} {w' : World} (h : Gives2 w1 x n m e w') : Gives2 w x n m e w' := by
  obtain ⟨A, k, c, A', k', c', rfl, hk, hk', h⟩ := h
  exact ⟨A, k, c, A', k', c', rfl, hk, hk', hb.trans (h.b.mono hb.size), h.r⟩
/-- What divisions answer. -/
def divO (a b : Nat) : Int × Nat × Nat := if b = 0 then (8, 0, 0) else (0, a / b, a % b)
theorem div_road (kf : Nat) (caps : Array Value) (F : Value) (A1 : Option Addr) (k1 c1 a : Nat) (A2 : Option Addr) (k2 c2 b : Nat) (w : World) (H : Has w w [(A1, k1, c1, a), (A2, k2, c2, b)]) (b1 : k1 ≤ 1024) (b2 : k2 ≤ 1024) (x : Int) (q r : Nat) (hx : divO a b = (x, q, r)) (hF : 0 < b → Over w kf caps A1 k1 c1 a A2 k2 c2 b) :
    Calls Tryz.prog 75 #[.slice A1 k1 c1, .slice A2 k2 c2, .agg #[F, .func (.func kf) #[] caps]] w (Gives2 w x q r) := by
  have e2 := H.len (A := A2) (k := k2) (c := c2) (n := b) (by simp)
  unfold divO at hx
  by_cases hb : b = 0
  · rw [if_pos hb] at hx
    injection hx with hx h2
    injection h2 with h2 h3
    subst hx h2 h3 hb
    obtain rfl : k2 = 0 := by rw [← e2, dg_zero]; rfl
    exact div_zero F _ A1 k1 c1 a A2 c2 w H b1
  · rw [if_neg hb] at hx
    injection hx with hx h2
    injection h2 with h2 h3
    subst hx h2 h3
    have hk2 : 0 < k2 := by
      rcases Nat.eq_zero_or_pos k2 with h | h
      · subst h; exact absurd ((dg_nil_iff b).1 e2) hb
      · exact h
    exact div_done kf caps F A1 k1 c1 a A2 k2 c2 b w H b1 b2 hk2 (hF (by omega))
theorem div1_calls (H : Has w0 w l) (A1 : Option Addr) (k1 c1 a : Nat) (A2 : Option Addr) (k2 c2 b : Nat) (h1 : (A1, k1, c1, a) ∈ l) (h2 : (A2, k2, c2, b) ∈ l) (b1 : k1 ≤ 1024) (b2 : k2 ≤ 1024) (hb : 0 < b) :
    Calls Tryz.prog 76 #[.slice A1 k1 c1, .slice A2 k2 c2] w (Made2 w0 l (a / b) (a % b) k1 k2) := by
  have HB := Lib.hid hb
  have HH := Lib.hid H
  clear hb H
  go_enter Tryz.func76, Tryz.ntmps76
  go_wp2_with fail
  refine (blocks_h HH.out A1 k1 c1 a A2 k2 c2 b h1 h2 (by omega) (by omega) 32 (by omega) HB.out).mono ?_
  rintro e w3 ⟨A5, k5, c5, n5, A6, k6, c6, n6, rfl, hn5, hn6, b5, b6, H5⟩
  go_wp2_with fail
  go_ret2
  exact ⟨A5, k5, c5, n5, A6, k6, c6, n6, rfl, hn5, hn6, b5, b6, H5⟩
theorem blocks1_calls (H : Has w0 w l) (A1 : Option Addr) (k1 c1 a : Nat) (A2 : Option Addr) (k2 c2 b : Nat) (h1 : (A1, k1, c1, a) ∈ l) (h2 : (A2, k2, c2, b) ∈ l) (b1 : k1 ≤ 1024) (b2 : k2 ≤ 1024) (hb : 0 < b) (p : Nat) (cut : Int) (hp : Boxed w p 3 (.int .i64 cut)) (d1 : 2 ≤ cut) :
    Calls Tryz.prog 106 #[.slice A1 k1 c1, .slice A2 k2 c2, .pointer (some ⟨p, 0, none⟩)] w (Made2 w0 l (a / b) (a % b) k1 k2) := by
  have hc := hp.cell
  have HB := Lib.hid hb
  have HH := Lib.hid H
  clear hb H hp
  go_enter Tryz.func106, Tryz.ntmps106
  go_wp2_with fail
  refine (blocks_h HH.out A1 k1 c1 a A2 k2 c2 b h1 h2 (by omega) (by omega) cut d1 HB.out).mono ?_
  rintro e w3 ⟨A5, k5, c5, n5, A6, k6, c6, n6, rfl, hn5, hn6, b5, b6, H5⟩
  go_wp2_with fail
  go_ret2
  exact ⟨A5, k5, c5, n5, A6, k6, c6, n6, rfl, hn5, hn6, b5, b6, H5⟩
set_option maxRecDepth 10000 in
theorem Div_bad (A1 : Option Addr) (k1 c1 : Nat) (g1 : List Int) (A2 : Option Addr) (k2 c2 : Nat) (g2 : List Int) (w : World) (r1 : Rd .u32 w A1 g1) (r2 : Rd .u32 w A2 g2) (e1 : g1.length = k1) (e2 : g2.length = k2) (b1 : k1 ≤ 9223372036854775807) (b2 : k2 ≤ 9223372036854775807) (hv : Hid ((validB g1 && validB g2) = false)) :
    Calls Tryz.prog 28 #[.slice A1 k1 c1, .slice A2 k2 c2] w (Gives2 w 1 0 0) := by
  have hm := div_bad .nilFunc (.func (.func 76) #[] #[]) A1 k1 c1 g1 A2 k2 c2 g2 w r1 r2 e1 e2 b1 b2 hv
  have HM := Lib.hid hm
  clear hm r1 r2 e1 e2 b1 b2
  go_enter Tryz.func28, Tryz.ntmps28
  go_wp2_with fail
  refine HM.out.mono ?_
  rintro e w' ⟨A, k, c, A', k', c', rfl, hk, hk', h⟩
  go_wp2_with fail
  go_ret3
  exact ⟨A, k, c, A', k', c', rfl, hk, hk', h⟩
set_option maxRecDepth 10000 in
theorem Div_x (H : Has w0 w l) (A1 : Option Addr) (k1 c1 a : Nat) (A2 : Option Addr) (k2 c2 b : Nat) (h1 : (A1, k1, c1, a) ∈ l) (h2 : (A2, k2, c2, b) ∈ l) (b1 : k1 ≤ 1024) (b2 : k2 ≤ 1024) (x : Int) (q r : Nat) (hx : Hid (divO a b = (x, q, r))) :
    Calls Tryz.prog 28 #[.slice A1 k1 c1, .slice A2 k2 c2] w (Gave2 w0 l x q r) := by
  have hm := div_road 76 #[] .nilFunc A1 k1 c1 a A2 k2 c2 b w (H.two h1 h2) b1 b2 x q r hx.out (fun hb => ⟨enters_of Tryz.func76 (by kernel_rfl) rfl, fun W hb2 H => div1_calls H A1 k1 c1 a A2 k2 c2 b (by simp) (by simp) b1 b2 hb⟩)
  refine Calls.mono (R := Gives2 w x q r) ?_ (fun e w' h => h.gave H)
  have HM := Lib.hid hm
  clear hm H h1 h2
  go_enter Tryz.func28, Tryz.ntmps28
  go_wp2_with fail
  refine HM.out.mono ?_
  rintro e w' ⟨A, k, c, A', k', c', rfl, hk, hk', h⟩
  go_wp2_with fail
  go_ret3
  exact ⟨A, k, c, A', k', c', rfl, hk, hk', h⟩
set_option maxRecDepth 10000 in
theorem Long_bad (A1 : Option Addr) (k1 c1 : Nat) (g1 : List Int) (A2 : Option Addr) (k2 c2 : Nat) (g2 : List Int) (w : World) (r1 : Rd .u32 w A1 g1) (r2 : Rd .u32 w A2 g2) (e1 : g1.length = k1) (e2 : g2.length = k2) (b1 : k1 ≤ 9223372036854775807) (b2 : k2 ≤ 9223372036854775807) (hv : Hid ((validB g1 && validB g2) = false)) :
    Calls Tryz.prog 61 #[.slice A1 k1 c1, .slice A2 k2 c2] w (Gives2 w 1 0 0) := by
  have hm := div_bad .nilFunc (.func (.func 79) #[] #[]) A1 k1 c1 g1 A2 k2 c2 g2 w r1 r2 e1 e2 b1 b2 hv
  have HM := Lib.hid hm
  clear hm r1 r2 e1 e2 b1 b2
  go_enter Tryz.func61, Tryz.ntmps61
  go_wp2_with fail
  refine HM.out.mono ?_
  rintro e w' ⟨A, k, c, A', k', c', rfl, hk, hk', h⟩
  go_wp2_with fail
  go_ret3
  exact ⟨A, k, c, A', k', c', rfl, hk, hk', h⟩
set_option maxRecDepth 10000 in
theorem Long_x (H : Has w0 w l) (A1 : Option Addr) (k1 c1 a : Nat) (A2 : Option Addr) (k2 c2 b : Nat) (h1 : (A1, k1, c1, a) ∈ l) (h2 : (A2, k2, c2, b) ∈ l) (b1 : k1 ≤ 1024) (b2 : k2 ≤ 1024) (x : Int) (q r : Nat) (hx : Hid (divO a b = (x, q, r))) :
    Calls Tryz.prog 61 #[.slice A1 k1 c1, .slice A2 k2 c2] w (Gave2 w0 l x q r) := by
  have hm := div_road 79 #[] .nilFunc A1 k1 c1 a A2 k2 c2 b w (H.two h1 h2) b1 b2 x q r hx.out (fun hb => ⟨enters_of Tryz.func79 (by kernel_rfl) rfl, fun W hb2 H => long_h H A1 k1 c1 a A2 k2 c2 b (by simp) (by simp) (by omega) (by omega) hb⟩)
  refine Calls.mono (R := Gives2 w x q r) ?_ (fun e w' h => h.gave H)
  have HM := Lib.hid hm
  clear hm H h1 h2
  go_enter Tryz.func61, Tryz.ntmps61
  go_wp2_with fail
  refine HM.out.mono ?_
  rintro e w' ⟨A, k, c, A', k', c', rfl, hk, hk', h⟩
  go_wp2_with fail
  go_ret3
  exact ⟨A, k, c, A', k', c', rfl, hk, hk', h⟩
set_option maxRecDepth 10000 in
theorem Newton_bad (A1 : Option Addr) (k1 c1 : Nat) (g1 : List Int) (A2 : Option Addr) (k2 c2 : Nat) (g2 : List Int) (w : World) (r1 : Rd .u32 w A1 g1) (r2 : Rd .u32 w A2 g2) (e1 : g1.length = k1) (e2 : g2.length = k2) (b1 : k1 ≤ 9223372036854775807) (b2 : k2 ≤ 9223372036854775807) (hv : Hid ((validB g1 && validB g2) = false)) :
    Calls Tryz.prog 62 #[.slice A1 k1 c1, .slice A2 k2 c2] w (Gives2 w 1 0 0) := by
  have hm := div_bad .nilFunc (.func (.func 105) #[] #[]) A1 k1 c1 g1 A2 k2 c2 g2 w r1 r2 e1 e2 b1 b2 hv
  have HM := Lib.hid hm
  clear hm r1 r2 e1 e2 b1 b2
  go_enter Tryz.func62, Tryz.ntmps62
  go_wp2_with fail
  refine HM.out.mono ?_
  rintro e w' ⟨A, k, c, A', k', c', rfl, hk, hk', h⟩
  go_wp2_with fail
  go_ret3
  exact ⟨A, k, c, A', k', c', rfl, hk, hk', h⟩
set_option maxRecDepth 10000 in
theorem Newton_x (H : Has w0 w l) (A1 : Option Addr) (k1 c1 a : Nat) (A2 : Option Addr) (k2 c2 b : Nat) (h1 : (A1, k1, c1, a) ∈ l) (h2 : (A2, k2, c2, b) ∈ l) (b1 : k1 ≤ 1024) (b2 : k2 ≤ 1024) (x : Int) (q r : Nat) (hx : Hid (divO a b = (x, q, r))) :
    Calls Tryz.prog 62 #[.slice A1 k1 c1, .slice A2 k2 c2] w (Gave2 w0 l x q r) := by
  have hm := div_road 105 #[] .nilFunc A1 k1 c1 a A2 k2 c2 b w (H.two h1 h2) b1 b2 x q r hx.out (fun hb => ⟨enters_of Tryz.func105 (by kernel_rfl) rfl, fun W hb2 H => newton_h H A1 k1 c1 a A2 k2 c2 b (by simp) (by simp) (by omega) (by omega) hb⟩)
  refine Calls.mono (R := Gives2 w x q r) ?_ (fun e w' h => h.gave H)
  have HM := Lib.hid hm
  clear hm H h1 h2
  go_enter Tryz.func62, Tryz.ntmps62
  go_wp2_with fail
  refine HM.out.mono ?_
  rintro e w' ⟨A, k, c, A', k', c', rfl, hk, hk', h⟩
  go_wp2_with fail
  go_ret3
  exact ⟨A, k, c, A', k', c', rfl, hk, hk', h⟩
/-- What Blocks answers. -/
def blkO (a b : Nat) (cut : Int) : Int × Nat × Nat := if 2 ≤ cut ∧ cut ≤ 1024 then divO a b else (1, 0, 0)
set_option maxRecDepth 10000 in
theorem Blocks_bad (A1 : Option Addr) (k1 c1 : Nat) (g1 : List Int) (A2 : Option Addr) (k2 c2 : Nat) (g2 : List Int) (cut : Int) (w : World) (r1 : Rd .u32 w A1 g1) (r2 : Rd .u32 w A2 g2) (e1 : g1.length = k1) (e2 : g2.length = k2) (b1 : k1 ≤ 9223372036854775807) (b2 : k2 ≤ 9223372036854775807) (hv : Hid ((validB g1 && validB g2) = false)) :
    Calls Tryz.prog 63 #[.slice A1 k1 c1, .slice A2 k2 c2, .int .i64 cut] w (Gives2 w 1 0 0) := by
  have hba : Below w.heap.size w (w.alloc (.cells #[.int .i64 cut] 3)) := (Below.refl _ _).alloc (Nat.le_refl _) _
  have hm := div_bad .nilFunc (.func (.func 106) #[] #[.pointer (some ⟨w.heap.size, 0, none⟩)]) A1 k1 c1 g1 A2 k2 c2 g2 (w.alloc (.cells #[.int .i64 cut] 3)) (r1.alloc _) (r2.alloc _) e1 e2 b1 b2 hv
  have hv1 := valid_calls A1 c1 k1 g1 (w.alloc (.cells #[.int .i64 cut] 3)) e1 b1 (r1.alloc _)
  have hv2 := valid_calls A2 c2 k2 g2 (w.alloc (.cells #[.int .i64 cut] 3)) e2 b2 (r2.alloc _)
  have hc0 : (w.alloc (.cells #[.int .i64 cut] 3)).cell? ⟨w.heap.size, 0, none⟩ = some (.int .i64 cut) := (Boxed.new w 3 (.int .i64 cut)).cell
  obtain ⟨wa, hwa⟩ : ∃ wa, w.alloc (.cells #[.int .i64 cut] 3) = wa := ⟨_, rfl⟩
  rw [hwa] at hba hm hv1 hv2 hc0
  have HM := Lib.hid hm
  have HB := Lib.hid hba
  obtain ⟨v1, hv1'⟩ : ∃ v, validB g1 = v := ⟨_, rfl⟩
  obtain ⟨v2, hv2'⟩ : ∃ v, validB g2 = v := ⟨_, rfl⟩
  have HV1 := Lib.hid (hv1 v1 (Lib.hid hv1'))
  have HV2 := Lib.hid (hv2 v2 (Lib.hid hv2'))
  have hvv := hv.out
  rw [hv1', hv2'] at hvv
  clear hm r1 r2 e1 e2 b1 b2 hba hv1 hv2 hv1' hv2'
  cases v1
  · clear HV2 hvv
    go_enter Tryz.func63, Tryz.ntmps63
    go_wp2_with fail
    refine HV1.out.mono ?_
    rintro e w' ⟨rfl, rfl⟩
    go_wp2_with fail
    refine HM.out.mono ?_
    rintro e w' hg
    obtain ⟨A, k, c, A', k', c', rfl, hk, hk', h⟩ := hg.from HB.out
    clear hg
    go_wp2_with fail
    go_ret3
    exact ⟨A, k, c, A', k', c', rfl, hk, hk', h⟩
  · obtain rfl : v2 = false := by cases v2 <;> simp_all
    clear hvv
    go_enter Tryz.func63, Tryz.ntmps63
    go_wp2_with fail
    refine HV1.out.mono ?_
    rintro e w' ⟨rfl, rfl⟩
    go_wp2_with fail
    refine HV2.out.mono ?_
    rintro e w' ⟨rfl, rfl⟩
    go_wp2_with fail
    refine HM.out.mono ?_
    rintro e w' hg
    obtain ⟨A, k, c, A', k', c', rfl, hk, hk', h⟩ := hg.from HB.out
    clear hg
    go_wp2_with fail
    go_ret3
    exact ⟨A, k, c, A', k', c', rfl, hk, hk', h⟩
set_option maxRecDepth 10000 in
theorem Blocks_x (H : Has w0 w l) (A1 : Option Addr) (k1 c1 a : Nat) (A2 : Option Addr) (k2 c2 b : Nat) (h1 : (A1, k1, c1, a) ∈ l) (h2 : (A2, k2, c2, b) ∈ l) (b1 : k1 ≤ 1024) (b2 : k2 ≤ 1024) (cut : Int) (x : Int) (q r : Nat) (hx : Hid (blkO a b cut = (x, q, r))) :
    Calls Tryz.prog 63 #[.slice A1 k1 c1, .slice A2 k2 c2, .int .i64 cut] w (Gave2 w0 l x q r) := by
  have hba : Below w.heap.size w (w.alloc (.cells #[.int .i64 cut] 3)) := (Below.refl _ _).alloc (Nat.le_refl _) _
  have hbx : Boxed (w.alloc (.cells #[.int .i64 cut] 3)) w.heap.size 3 (.int .i64 cut) := Boxed.new w 3 _
  have HA := H.alloc (.cells #[.int .i64 cut] 3)
  obtain ⟨wa, hwa⟩ : ∃ wa, w.alloc (.cells #[.int .i64 cut] 3) = wa := ⟨_, rfl⟩
  rw [hwa] at hba hbx HA
  obtain ⟨r1, e1, p1, q1⟩ := HA.at h1
  obtain ⟨r2, e2, p2, q2⟩ := HA.at h2
  have HV1 := Lib.hid (valid_calls A1 c1 k1 (dg a) wa e1 (by omega) r1 true (Lib.hid (valid_dg a (by omega))))
  have HV2 := Lib.hid (valid_calls A2 c2 k2 (dg b) wa e2 (by omega) r2 true (Lib.hid (valid_dg b (by omega))))
  have hc0 := hbx.cell
  refine Calls.mono (R := Gives2 w x q r) ?_ (fun e w' h => h.gave H)
  have hx := hx.out
  unfold blkO at hx
  by_cases hc : 2 ≤ cut ∧ cut ≤ 1024
  · rw [if_pos hc] at hx
    have HM := Lib.hid (div_road 106 #[.pointer (some ⟨w.heap.size, 0, none⟩)] .nilFunc A1 k1 c1 a A2 k2 c2 b wa (HA.two h1 h2) b1 b2 x q r hx (fun hb => ⟨enters_of Tryz.func106 (by kernel_rfl) rfl, fun W hb2 H => blocks1_calls H A1 k1 c1 a A2 k2 c2 b (by simp) (by simp) b1 b2 hb w.heap.size cut ((hb2.block _ hbx.lt).trans hbx) hc.1⟩))
    have HB := Lib.hid hba
    have d1 : ¬ cut < 2 := by omega
    have d2 : decide (1024 < cut) = false := decide_eq_false (by omega)
    clear H h1 h2 hba hx HA r1 r2 e1 e2 hbx hc
    go_enter Tryz.func63, Tryz.ntmps63
    go_wp2_with fail
    refine HV1.out.mono ?_
    rintro e w' ⟨rfl, rfl⟩
    go_wp2_with fail
    refine HV2.out.mono ?_
    rintro e w' ⟨rfl, rfl⟩
    go_wp2_with fail
    refine HM.out.mono ?_
    rintro e w' hg
    obtain ⟨A, k, c, A', k', c', rfl, hk, hk', h⟩ := hg.from HB.out
    clear hg
    go_wp2_with fail
    go_ret3
    exact ⟨A, k, c, A', k', c', rfl, hk, hk', h⟩
  · rw [if_neg hc] at hx
    injection hx with hx h2
    injection h2 with h2 h3
    subst hx h2 h3
    have HB := Lib.hid hba
    clear H h1 hba HA r1 r2 e1 e2 hbx
    by_cases hc1 : cut < 2
    · clear hc
      go_enter Tryz.func63, Tryz.ntmps63
      go_wp2_with fail
      refine HV1.out.mono ?_
      rintro e w' ⟨rfl, rfl⟩
      go_wp2_with fail
      refine HV2.out.mono ?_
      rintro e w' ⟨rfl, rfl⟩
      go_wp2_with fail
      go_ret3
      exact Gives2.nil 1 HB.out
    · have hc2 : 1024 < cut := by omega
      clear hc
      go_enter Tryz.func63, Tryz.ntmps63
      go_wp2_with fail
      refine HV1.out.mono ?_
      rintro e w' ⟨rfl, rfl⟩
      go_wp2_with fail
      refine HV2.out.mono ?_
      rintro e w' ⟨rfl, rfl⟩
      go_wp2_with fail
      go_ret3
      exact Gives2.nil 1 HB.out
end Go.Proofs.YtfcfejlffmddnaaGreatDoor
end
