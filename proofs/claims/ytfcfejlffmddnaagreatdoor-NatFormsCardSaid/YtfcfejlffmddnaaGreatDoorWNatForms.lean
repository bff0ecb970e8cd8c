/- The law NatForms: its walk. -/
import Derived.Test.YtfcfejlffmddnaaGreatDoorM13
section
/- The laws on numbers: entry, bounds. -/
namespace Go.Proofs.YtfcfejlffmddnaaGreatDoor
open Go.RowKit
set_option linter.unusedSimpArgs false
set_option linter.unusedVariables false
set_option linter.constructorNameAsVariable false

variable {w0 w : World} {l : List (Option Addr × Nat × Nat × Nat)}
theorem Lists.three (w : World) (A1 : Option Addr) (k1 c1 : Nat) (g1 : List Int) (A2 : Option Addr) (k2 c2 : Nat) (g2 : List Int) (A3 : Option Addr) (k3 c3 : Nat) (g3 : List Int) (i1 : Inp w A1 k1 c1 g1) (i2 : Inp w A2 k2 c2 g2) (i3 : Inp w A3 k3 c3 g3) :
    Lists (w.alloc (.cells #[.slice A1 k1 c1, .slice A2 k2 c2, .slice A3 k3 c3] 23)) w.heap.size 3 [(A1, k1, c1, g1), (A2, k2, c2, g2), (A3, k3, c3, g3)] := by
  refine ⟨rfl, fun j p hp => ?_, fun p hp => ?_⟩
  · rw [Lib.cell_of_heap (World.alloc_heap_new w _)]
    match j, hp with
    | 0, hp => simp at hp; subst hp; rfl
    | 1, hp => simp at hp; subst hp; rfl
    | 2, hp => simp at hp; subst hp; rfl
  · simp only [List.mem_cons, List.not_mem_nil, or_false] at hp
    rcases hp with rfl | rfl | rfl
    · exact ⟨i1.len, i1.lim, i1.rd.alloc _⟩
    · exact ⟨i2.len, i2.lim, i2.rd.alloc _⟩
    · exact ⟨i3.len, i3.lim, i3.rd.alloc _⟩
/-- A list that is a number of at most m elements. -/
def okB (m k : Nat) (g : List Int) : Bool := decide (k ≤ m) && validB g
theorem okB_num {m : Nat} {A : Option Addr} {k c : Nat} {g : List Int} (hi : Inp w A k c g) (h : okB m k g = true) : ∃ x, g = dg x ∧ k ≤ m ∧ k ≤ 1024 ∧ (dg x).length ≤ m := by
  unfold okB at h
  rw [Bool.and_eq_true] at h
  obtain ⟨x, rfl, hx⟩ := validB_num hi.ok h.2
  have h1 := of_decide_eq_true h.1
  have h2 := hi.len
  exact ⟨x, rfl, h1, by omega, by omega⟩
theorem numbers1 (m : Nat) (A1 : Option Addr) (k1 c1 : Nat) (g1 : List Int) (i1 : Inp w A1 k1 c1 g1) (b : Bool) (hb : Hid (okB m k1 g1 = b)) :
    Calls Tryz.prog 39 #[.int .i64 m, .slice (some ⟨w.heap.size, 0, none⟩) 1 1] (w.alloc (.cells #[.slice A1 k1 c1] 23)) fun e w' => e = .returned (.bool b) ∧ Hid (Has w w' []) :=
  (numbers_calls m _ 1 1 _ _ (Lists.one w A1 k1 c1 g1 i1.rd i1.len i1.lim) (by decide) b (Lib.hid (by rw [← hb.out]; simp [okB]))).mono (fun e w' ⟨he, hw⟩ => ⟨he, Lib.hid (hw ▸ (Has.nil w).alloc _)⟩)
theorem numbers2 (m : Nat) (A1 : Option Addr) (k1 c1 : Nat) (g1 : List Int) (A2 : Option Addr) (k2 c2 : Nat) (g2 : List Int) (i1 : Inp w A1 k1 c1 g1) (i2 : Inp w A2 k2 c2 g2) (b : Bool) (hb : Hid ((okB m k1 g1 && okB m k2 g2) = b)) :
    Calls Tryz.prog 39 #[.int .i64 m, .slice (some ⟨w.heap.size, 0, none⟩) 2 2] (w.alloc (.cells #[.slice A1 k1 c1, .slice A2 k2 c2] 23)) fun e w' => e = .returned (.bool b) ∧ Hid (Has w w' []) :=
  (numbers_calls m _ 2 2 _ _ (Lists.two w A1 k1 c1 g1 A2 k2 c2 g2 i1.rd i2.rd i1.len i2.len i1.lim i2.lim) (by decide) b (Lib.hid (by rw [← hb.out]; simp [okB]))).mono (fun e w' ⟨he, hw⟩ => ⟨he, Lib.hid (hw ▸ (Has.nil w).alloc _)⟩)
theorem numbers3 (m : Nat) (A1 : Option Addr) (k1 c1 : Nat) (g1 : List Int) (A2 : Option Addr) (k2 c2 : Nat) (g2 : List Int) (A3 : Option Addr) (k3 c3 : Nat) (g3 : List Int) (i1 : Inp w A1 k1 c1 g1) (i2 : Inp w A2 k2 c2 g2) (i3 : Inp w A3 k3 c3 g3) (b : Bool) (hb : Hid ((okB m k1 g1 && okB m k2 g2 && okB m k3 g3) = b)) :
    Calls Tryz.prog 39 #[.int .i64 m, .slice (some ⟨w.heap.size, 0, none⟩) 3 3] (w.alloc (.cells #[.slice A1 k1 c1, .slice A2 k2 c2, .slice A3 k3 c3] 23)) fun e w' => e = .returned (.bool b) ∧ Hid (Has w w' []) :=
  (numbers_calls m _ 3 3 _ _ (Lists.three w A1 k1 c1 g1 A2 k2 c2 g2 A3 k3 c3 g3 i1 i2 i3) (by decide) b (Lib.hid (by rw [← hb.out]; simp [okB, Bool.and_assoc]))).mono (fun e w' ⟨he, hw⟩ => ⟨he, Lib.hid (hw ▸ (Has.nil w).alloc _)⟩)
theorem Inp.has {A : Option Addr} {k c x : Nat} (h : Inp w A k c (dg x)) (H : Has w0 w l) : Has w0 w ((A, k, c, x) :: l) := H.cons h.rd h.len h.cap h.capm
theorem lenadd {x y i j : Nat} (hx : (dg x).length ≤ i) (hy : (dg y).length ≤ j) : (dg (x + y)).length ≤ i + j + 1 := by
  refine len_of_lt ?_
  have h1 := lt_of_len hx
  have h2 := lt_of_len hy
  have h3 : 4294967296 ^ i ≤ 4294967296 ^ (i + j) := Nat.pow_le_pow_right (by decide) (by omega)
  have h4 : 4294967296 ^ j ≤ 4294967296 ^ (i + j) := Nat.pow_le_pow_right (by decide) (by omega)
  rw [Nat.pow_succ]
  omega
theorem lenmul {x y i j : Nat} (hx : (dg x).length ≤ i) (hy : (dg y).length ≤ j) : (dg (x * y)).length ≤ i + j := by
  refine len_of_lt ?_
  rw [Nat.pow_add]
  exact Nat.mul_lt_mul'' (lt_of_len hx) (lt_of_len hy)
theorem lenle {x y i : Nat} (h : x ≤ y) (hy : (dg y).length ≤ i) : (dg x).length ≤ i := len_of_lt (Nat.lt_of_le_of_lt h (lt_of_len hy))
theorem subO_add {a b : Nat} (h : (dg a).length ≤ 1024) : subO (a + b) b = (0, a) := by
  unfold subO
  rw [if_neg (by omega), Nat.add_sub_cancel, giv_ok h]
theorem giv_le {n i : Nat} (h : (dg n).length ≤ i) (hi : i ≤ 1024) : giv n = (0, n) := giv_ok (Nat.le_trans h hi)
theorem len_zero : (dg 0).length ≤ 0 := by rw [dg_zero]; exact Nat.le_refl _
theorem len_lit {n : Nat} (h : n < 4294967296 ^ 1) : (dg n).length ≤ 1 := len_of_lt h
end Go.Proofs.YtfcfejlffmddnaaGreatDoor
end
section
/- Contracts of the reference: Valid, Cmp. -/
namespace Go.Proofs.YtfcfejlffmddnaaGreatDoor
open Go.RowKit
set_option linter.unusedSimpArgs false
set_option linter.unusedVariables false
set_option linter.constructorNameAsVariable false

set_option maxRecDepth 10000 in
theorem rvalid_calls (A : Option Addr) (c k : Nat) (g : List Int) (w : World) (hk : g.length = k) (hb : k ≤ 9223372036854775807) (hR : Rd .u32 w A g) (b : Bool) (h : Hid (validB g = b)) :
    Calls Tryz.prog 23 #[.slice A k c] w fun e w' => e = .returned (.bool b) ∧ w = w' := by
  have hv := h.out
  unfold validB at hv
  by_cases h1 : k ≤ 1024
  · cases k with
    | zero =>
      have hg : g = [] := List.eq_nil_of_length_eq_zero hk
      obtain rfl : b = true := by rw [← hv, hg]; simp
      clear hv h hR hk hg
      go_enter Tryz.func23, Tryz.ntmps23
      go_wp2
      go_ret
      exact ⟨rfl, rfl⟩
    | succ k =>
      obtain ⟨x, hx⟩ : ∃ x, g[k]? = some x := ⟨_, List.getElem?_eq_getElem (by omega)⟩
      obtain ⟨b1, o, rfl, hcc⟩ := hR (by rintro rfl; simp at hx)
      have hcell := hcc k x hx
      have hl : g.getLast? = some x := by rw [List.getLast?_eq_getElem?, hk]; exact hx
      have hv2 : b = !(x == 0) := by
        rw [← hv, hl, hk]
        by_cases hx0 : x = 0
        · subst hx0; simp
        · rw [show (x == 0) = false from beq_eq_false_iff_ne.2 hx0]
          simp only [Bool.not_false, decide_eq_true_eq]
          exact ⟨h1, fun h => hx0 (Option.some.inj h)⟩
      clear hv h hR hk hcc hx hl
      by_cases hx0 : x = 0
      · subst hx0
        obtain rfl : b = false := by rw [hv2]; rfl
        clear hv2
        go_enter Tryz.func23, Tryz.ntmps23
        go_wp2
        go_ret
        exact ⟨rfl, rfl⟩
      · have hxb : (x == 0) = false := beq_eq_false_iff_ne.2 hx0
        obtain rfl : b = true := by rw [hv2, hxb]; rfl
        clear hv2
        go_enter Tryz.func23, Tryz.ntmps23
        go_wp2
        go_ret
        exact ⟨by simp [hx0, hxb], rfl⟩
  · obtain rfl : b = false := by rw [← hv, hk]; simp [h1]
    clear hv h hR hk
    go_enter Tryz.func23, Tryz.ntmps23
    go_wp2
    go_ret
    exact ⟨rfl, rfl⟩
variable {w0 w : World} {l : List (Option Addr × Nat × Nat × Nat)}
theorem div_top (x m : Nat) : x / 4294967296 ^ m = 4294967296 * (x / 4294967296 ^ (m + 1)) + x / 4294967296 ^ m % 4294967296 := by
  rw [Nat.pow_succ, ← Nat.div_div_eq_div_mul]
  exact (Nat.div_add_mod _ _).symm
theorem cmp_digit {x y m : Nat} (h : x / 4294967296 ^ (m + 1) = y / 4294967296 ^ (m + 1)) :
    (x / 4294967296 ^ m % 4294967296 < y / 4294967296 ^ m % 4294967296 → x < y) ∧ (x / 4294967296 ^ m % 4294967296 = y / 4294967296 ^ m % 4294967296 → x / 4294967296 ^ m = y / 4294967296 ^ m) := by
  have h1 := div_top x m
  have h2 := div_top y m
  rw [h] at h1
  refine ⟨fun h3 => ?_, fun h3 => by omega⟩
  rcases Nat.lt_or_ge x y with h4 | h4
  · exact h4
  · have := Nat.div_le_div_right (c := 4294967296 ^ m) h4
    omega
set_option maxRecDepth 10000 in
set_option maxHeartbeats 1000000 in
theorem rcmp_h (H : Has w0 w l) (A1 : Option Addr) (k1 c1 x : Nat) (A2 : Option Addr) (k2 c2 y : Nat) (h1 : (A1, k1, c1, x) ∈ l) (h2 : (A2, k2, c2, y) ∈ l) (b1 : k1 ≤ 1099511627776) (b2 : k2 ≤ 1099511627776) (r : Int) (hr : Hid (cmpI x y = r)) :
    Calls Tryz.prog 42 #[.slice A1 k1 c1, .slice A2 k2 c2] w fun e w' => e = .returned (.int .i64 r) ∧ w = w' := by
  have e1 := H.len h1
  have e2 := H.len h2
  obtain ⟨N, hN⟩ : ∃ N, max k1 k2 = N := ⟨_, rfl⟩
  have hN2 : max (k1 : Int) (k2 : Int) = (N : Int) := by omega
  have hx0 : x / 4294967296 ^ N = 0 := Nat.div_eq_of_lt (lt_of_len (by omega))
  have hy0 : y / 4294967296 ^ N = 0 := Nat.div_eq_of_lt (lt_of_len (by omega))
  have hA1 := fun (i : Nat) => rat_h H A1 k1 c1 x i h1 b1 _ (Lib.hid (dg_getD x i))
  have hA2 := fun (i : Nat) => rat_h H A2 k2 c2 y i h2 b2 _ (Lib.hid (dg_getD y i))
  have HA1 := Lib.hid hA1
  have HA2 := Lib.hid hA2
  have H0 := Lib.hid (hx0.trans hy0.symm)
  have HN := Lib.hid hN
  have hNb : N ≤ 1099511627776 := by omega
  clear hA1 hA2 hx0 hy0 e1 e2 hN b1 b2 H h1 h2
  go_enter Tryz.func42, Tryz.ntmps42
  go_wp2_with fail
  go_loop [5] (fun v => ∃ m : Nat, m ≤ N ∧ v = .int .i64 ((m : Int) - 1) ∧ Hid (x / 4294967296 ^ m = y / 4294967296 ^ m)) (fun v => (intOf v + 1).toNat)
  case atStart => exact ⟨N, Nat.le_refl _, by first | rfl | (congr 1; omega) | skip, H0⟩
  case round =>
    obtain ⟨m, hm, rfl, he⟩ := hrel
    cases m with
    | zero =>
      obtain rfl : x = y := by simpa using he.out
      obtain rfl : r = 0 := by rw [← hr.out]; unfold cmpI; simp
      clear hr he
      go_wp2_with fail
      go_ret
      exact ⟨rfl, rfl⟩
    | succ m =>
      have hmm : ((m + 1 : Nat) : Int) - 1 = m := by omega
      have hge : decide ((0 : Int) ≤ (m : Int)) = true := decide_eq_true (by omega)
      obtain ⟨xi, hxi⟩ : ∃ xi, x / 4294967296 ^ m % 4294967296 = xi := ⟨_, rfl⟩
      obtain ⟨yi, hyi⟩ : ∃ yi, y / 4294967296 ^ m % 4294967296 = yi := ⟨_, rfl⟩
      have C1 := HA1.out m
      have C2 := HA2.out m
      rw [hxi] at C1
      rw [hyi] at C2
      have D := cmp_digit he.out
      have D2 := cmp_digit he.out.symm
      rw [hxi, hyi] at D D2
      have HD := Lib.hid D
      have HD2 := Lib.hid D2
      clear D D2 he hxi hyi
      rcases Nat.lt_trichotomy xi yi with h | h | h
      · obtain rfl : r = -1 := by rw [← hr.out]; unfold cmpI; rw [if_pos (HD.out.1 h)]
        go_wp2_with fail
        refine C1.mono ?_
        rintro e w' ⟨rfl, rfl⟩
        go_wp2_with fail
        refine C2.mono ?_
        rintro e w' ⟨rfl, rfl⟩
        go_wp2_with fail
        go_ret
        exact ⟨rfl, rfl⟩
      · have HE := Lib.hid (HD.out.2 h)
        subst h
        go_wp2_with fail
        refine C1.mono ?_
        rintro e w' ⟨rfl, rfl⟩
        go_wp2_with fail
        refine C2.mono ?_
        rintro e w' ⟨rfl, rfl⟩
        go_wp2_with fail
        refine C1.mono ?_
        rintro e w' ⟨rfl, rfl⟩
        go_wp2_with fail
        refine C2.mono ?_
        rintro e w' ⟨rfl, rfl⟩
        go_wp2_with fail
        go_round
        case rel => exact ⟨m, by omega, by first | rfl | (congr 1), HE⟩
        case measure => simp [intOf]
      · obtain rfl : r = 1 := by
          have := HD2.out.1 h
          rw [← hr.out]; unfold cmpI; rw [if_neg (by omega), if_pos this]
        have hn : ¬ xi < yi := by omega
        go_wp2_with fail
        refine C1.mono ?_
        rintro e w' ⟨rfl, rfl⟩
        go_wp2_with fail
        refine C2.mono ?_
        rintro e w' ⟨rfl, rfl⟩
        go_wp2_with fail
        refine C1.mono ?_
        rintro e w' ⟨rfl, rfl⟩
        go_wp2_with fail
        refine C2.mono ?_
        rintro e w' ⟨rfl, rfl⟩
        go_wp2_with fail
        go_ret
        exact ⟨rfl, rfl⟩
end Go.Proofs.YtfcfejlffmddnaaGreatDoor
end
section
/- Contracts of the reference: Bits, Bit, Zeros. -/
namespace Go.Proofs.YtfcfejlffmddnaaGreatDoor
open Go.RowKit
set_option linter.unusedSimpArgs false
set_option linter.unusedVariables false
set_option linter.constructorNameAsVariable false

variable {w0 w : World} {l : List (Option Addr × Nat × Nat × Nat)}
theorem bl_half {y : Nat} (h : 0 < y) : bl y = bl (y / 2) + 1 := by
  by_cases h2 : y / 2 = 0
  · obtain rfl : y = 1 := by omega
    decide
  · obtain ⟨h3, h4, h5⟩ := bl_spec h2
    obtain ⟨b, hb⟩ : ∃ b, bl (y / 2) = b + 1 := ⟨bl (y / 2) - 1, by omega⟩
    rw [hb] at h4 h5 ⊢
    rw [Nat.add_sub_cancel] at h4
    refine bl_unique ?_ ?_
    · rw [Nat.pow_succ]; omega
    · rw [Nat.pow_succ]; omega
set_option maxRecDepth 10000 in
set_option maxHeartbeats 1000000 in
theorem rbits_h (H : Has w0 w l) (A1 : Option Addr) (k1 c1 x : Nat) (h1 : (A1, k1, c1, x) ∈ l) (b1 : k1 ≤ 10000) :
    Calls Tryz.prog 59 #[.slice A1 k1 c1] w fun e w' => e = .returned (.int .i64 (bl x)) ∧ w = w' := by
  have e1 := H.len h1
  by_cases hx : x = 0
  · subst hx
    rw [dg_zero] at e1
    obtain rfl : k1 = 0 := e1.symm
    clear e1 h1 H
    rw [bl_zero]
    go_enter Tryz.func59, Tryz.ntmps59
    go_wp2_with fail
    go_ret
    exact ⟨rfl, rfl⟩
  · obtain ⟨m, t, hm, ht, ht0, ht1, hb⟩ := top_at x hx
    obtain rfl : k1 = m + 1 := by omega
    obtain ⟨r1, _, _, _⟩ := H.at h1
    obtain ⟨b, o, rfl, hcc⟩ := r1 (by intro h; rw [h] at hm; simp at hm)
    have hcell := hcc m _ ht
    have hmm : ((m + 1 : Nat) : Int) - 1 = m := by omega
    have hk0 : (((m + 1 : Nat) : Int) == 0) = false := by simp; omega
    have HB := Lib.hid hb
    clear hcc ht hm r1 h1 H hx e1 hb
    go_enter Tryz.func59, Tryz.ntmps59
    go_wp2_with fail
    go_loop [4, 5] (fun v4 v5 => ∃ (j y : Nat), v4 = .int .i64 (32 * (m : Int) + j) ∧ v5 = .int .u32 y ∧ j ≤ 32 * 10000 ∧ y < 4294967296 ∧ Hid (bl t = j + bl y)) (fun v4 v5 => (intOf v5).toNat)
    case atStart => exact ⟨0, t, by first | rfl | simp, rfl, by omega, ht1, Lib.hid (Nat.zero_add _).symm⟩
    case round =>
      obtain ⟨j, y, rfl, rfl, hj, hy, HI⟩ := hrel
      by_cases hy0 : 0 < y
      · have HN : Hid (bl t = j + 1 + bl (y / 2)) := Lib.hid (by rw [HI.out, bl_half hy0]; omega)
        have hj2 : j + 1 ≤ 32 * 10000 := by
          have h1 := HN.out
          have h2 : bl t ≤ 32 := (bl_le (n := t) (k := 32)).2 ht1
          omega
        obtain ⟨y2, hy2⟩ : ∃ y2, y / 2 = y2 := ⟨_, rfl⟩
        have f1 : (y : Int).tdiv 2 = (y2 : Int) := by rw [Int.tdiv_eq_ediv_of_nonneg (by omega)]; omega
        have f2 : (y : Int) / 2 = (y2 : Int) := by omega
        have f3 : y2 < y := by omega
        rw [hy2] at HN
        clear hy2
        go_wp2_with fail
        go_round
        case rel => exact ⟨j + 1, y2, by first | rfl | (congr 1; omega), by first | rfl | simp, by omega, by omega, HN⟩
        case measure => simp [intOf]; omega
      · obtain rfl : y = 0 := by omega
        have hf : ((bl x : Nat) : Int) = 32 * (m : Int) + j := by
          have h1 := HI.out
          have h2 := HB.out
          rw [bl_zero] at h1
          omega
        go_wp2_with fail
        go_ret
        exact ⟨by first | rfl | (rw [hf]; rfl), rfl⟩
theorem bit_eq (x i : Nat) : x / 4294967296 ^ (i / 32) % 4294967296 / 2 ^ (i % 32) % 2 = x / 2 ^ i % 2 := by
  obtain ⟨q, hq⟩ : ∃ q, i / 32 = q := ⟨_, rfl⟩
  obtain ⟨r, hr⟩ : ∃ r, i % 32 = r := ⟨_, rfl⟩
  have hi : i = 32 * q + r := by omega
  have hr2 : r < 32 := by omega
  rw [hq, hr, hi, Nat.pow_add, ← Nat.div_div_eq_div_mul, ← pow32]
  generalize x / 4294967296 ^ q = y
  obtain ⟨s, hs⟩ : ∃ s, 32 = r + (s + 1) := ⟨31 - r, by omega⟩
  have h3 : (4294967296 : Nat) = 2 ^ r * (2 ^ s * 2) := by rw [← Nat.pow_succ, ← Nat.pow_add, ← hs]
  rw [h3, Nat.mod_mul_right_div_self, Nat.mul_comm (2 ^ s), Nat.mod_mul_right_mod]
set_option maxRecDepth 10000 in
theorem rbit_h (H : Has w0 w l) (A1 : Option Addr) (k1 c1 x : Nat) (i : Nat) (h1 : (A1, k1, c1, x) ∈ l) (b1 : k1 ≤ 10000) (hi : i ≤ 100000000) (z : Nat) (hz : Hid (x / 2 ^ i % 2 = z)) :
    Calls Tryz.prog 104 #[.slice A1 k1 c1, .int .i64 i] w fun e w' => e = .returned (.int .u64 z) ∧ w = w' := by
  have HA := rat_h H A1 k1 c1 x (i / 32) h1 (by omega) _ (Lib.hid (dg_getD x (i / 32)))
  have hb := bit_eq x i
  rw [hz.out] at hb
  obtain ⟨y, hy⟩ : ∃ y, x / 4294967296 ^ (i / 32) % 4294967296 = y := ⟨_, rfl⟩
  rw [hy] at HA hb
  have hy2 : y < 4294967296 := by rw [← hy]; exact Nat.mod_lt _ (by decide)
  obtain ⟨q, hq⟩ : ∃ q, i / 32 = q := ⟨_, rfl⟩
  obtain ⟨r, hr⟩ : ∃ r, i % 32 = r := ⟨_, rfl⟩
  rw [hq] at HA
  rw [hr] at hb
  have hr2 : r < 32 := by omega
  have x1 : (i : Int).tdiv 32 = (q : Int) := by rw [Int.tdiv_eq_ediv_of_nonneg (by omega)]; omega
  have x2 : (i : Int).tmod 32 = (r : Int) := by rw [Int.tmod_eq_emod_of_nonneg (by omega)]; omega
  have x3 : wrap64 (q : Int) = (q : Int) := by unfold wrap64; omega
  obtain ⟨s, hs⟩ : ∃ s, y / 2 ^ r = s := ⟨_, rfl⟩
  rw [hs] at hb
  have x4 : (y : Int) / 2 ^ r = (s : Int) := by rw [← hs, Int.natCast_ediv, Int.natCast_pow]; rfl
  have x5 : (s : Int).tmod 2 = (z : Int) := by rw [← hb, Int.tmod_eq_emod_of_nonneg (by omega)]; omega
  have x6 : (s : Int) % 2 = (z : Int) := by rw [← hb]; omega
  clear hq hr hs hb hy hz h1 H
  go_enter Tryz.func104, Tryz.ntmps104
  go_wp2_with fail
  refine HA.mono ?_
  rintro e w' ⟨rfl, rfl⟩
  go_wp2_with fail
  go_ret
  exact ⟨rfl, rfl⟩
theorem twos_bit {x z n : Nat} (hx : x ≠ 0) (h : Twos x z) (hn : n ≤ z) : x / 2 ^ n % 2 = if n = z then 1 else 0 := by
  rcases h with ⟨h, _⟩ | ⟨m, hm⟩
  · exact absurd h hx
  · obtain ⟨d, rfl⟩ : ∃ d, z = n + d := ⟨z - n, by omega⟩
    rw [hm, Nat.pow_add, Nat.mul_assoc, Nat.mul_div_cancel_left _ (Nat.pow_pos (by decide))]
    cases d with
    | zero => rw [if_pos (by omega)]; simp
    | succ d => rw [if_neg (by omega), Nat.pow_succ, Nat.mul_assoc, Nat.mul_left_comm]; exact Nat.mul_mod_right _ _
set_option maxRecDepth 10000 in
set_option maxHeartbeats 1000000 in
theorem rzeros_h (H : Has w0 w l) (A1 : Option Addr) (k1 c1 x : Nat) (h1 : (A1, k1, c1, x) ∈ l) (b1 : k1 ≤ 10000) (z : Nat) (hz : Hid (Twos x z)) (hzb : z ≤ 1000000) :
    Calls Tryz.prog 60 #[.slice A1 k1 c1] w fun e w' => e = .returned (.int .i64 z) ∧ w = w' := by
  have e1 := Lib.hid (H.len h1)
  by_cases hx : x = 0
  · subst hx
    have e2 := e1.out
    rw [dg_zero] at e2
    obtain rfl : k1 = 0 := e2.symm
    obtain rfl : z = 0 := by
      rcases hz.out with ⟨_, h⟩ | ⟨m, hm⟩
      · exact h
      · have h1 : 0 < 2 ^ z := Nat.pow_pos (by decide)
        have h2 : 0 < 2 ^ z * (2 * m + 1) := Nat.mul_pos h1 (by omega)
        omega
    clear e2 e1 h1 H hz
    go_enter Tryz.func60, Tryz.ntmps60
    go_wp2_with fail
    go_loop [3] (fun v => v = .int .i64 0) (fun v => 0)
    case atStart => exact rfl
    case round =>
      obtain rfl := hrel
      go_wp2_with fail
      go_ret
      exact ⟨rfl, rfl⟩
  · have hk : 0 < k1 := by
      rcases Nat.eq_zero_or_pos k1 with h | h
      · exact absurd ((dg_nil_iff x).1 (by rw [e1.out, h])) hx
      · exact h
    have HT := Lib.hid (fun n hn => twos_bit hx hz.out (n := n) hn)
    have HB := Lib.hid (fun (n : Nat) (hn : n ≤ 100000000) (v : Nat) hv => rbit_h H A1 k1 c1 x n h1 b1 hn v hv)
    clear hx h1 H hz
    go_enter Tryz.func60, Tryz.ntmps60
    go_wp2_with fail
    go_loop [3] (fun v => ∃ n : Nat, n ≤ z ∧ v = .int .i64 n) (fun v => z - (intOf v).toNat)
    case atStart => exact ⟨0, Nat.zero_le _, rfl⟩
    case round =>
      obtain ⟨n, hn, rfl⟩ := hrel
      have hbit := HT.out n hn
      by_cases he : n = z
      · subst he
        rw [if_pos rfl] at hbit
        go_wp2_with fail
        refine (HB.out n (by omega) 1 (Lib.hid hbit)).mono ?_
        rintro e w' ⟨rfl, rfl⟩
        go_wp2_with fail
        go_ret
        exact ⟨rfl, rfl⟩
      · rw [if_neg he] at hbit
        go_wp2_with fail
        refine (HB.out n (by omega) 0 (Lib.hid hbit)).mono ?_
        rintro e w' ⟨rfl, rfl⟩
        go_wp2_with fail
        go_round
        case rel => exact ⟨n + 1, by omega, by go_num⟩
        case measure => simp [intOf]; omega
end Go.Proofs.YtfcfejlffmddnaaGreatDoor
end
section
/- The law NatForms. -/
namespace Go.Proofs.YtfcfejlffmddnaaGreatDoor
open Go.RowKit
set_option linter.unusedSimpArgs false
set_option linter.unusedVariables false
set_option linter.constructorNameAsVariable false

variable {w0 w : World} {l : List (Option Addr × Nat × Nat × Nat)}
theorem wf_u64 {n : Int} (h : (Lit.int .u64 n).wf = true) : ∃ r : Nat, n = r ∧ r < 18446744073709551616 := by
  simp [Lit.wf, IntKind.min, IntKind.max, IntKind.signed, IntKind.bits] at h
  exact ⟨n.toNat, by omega, by omega⟩
theorem two_limbs {a k : Nat} (h : (dg a).length = k) (hk : k ≤ 2) : a < 18446744073709551616 := by
  have := lt_of_len (n := a) (k := 2) (by omega)
  rwa [show (4294967296 : Nat) ^ 2 = 18446744073709551616 from rfl] at this
set_option maxRecDepth 100000 in
set_option maxHeartbeats 4000000 in
theorem forms_calls (w : World) (hT : Tabs w) (A1 : Option Addr) (k1 c1 : Nat) (g1 : List Int) (A2 : Option Addr) (k2 c2 : Nat) (g2 : List Int) (i1 : Inp w A1 k1 c1 g1) (i2 : Inp w A2 k2 c2 g2) (n : Int) (wn : (Lit.int .u64 n).wf = true) :
    Calls Tryz.prog 16 #[.slice A1 k1 c1, .slice A2 k2 c2, .int .u64 n] w (True1 w) := by
  have HT := Lib.hid hT
  have I1 := Lib.hid i1
  have I2 := Lib.hid i2
  have H0 := Lib.hid (Has.nil w)
  clear hT i1 i2
  obtain ⟨n, rfl, hn⟩ := wf_u64 wn
  clear wn
  by_cases q1 : k1 ≤ 1100
  case neg =>
    go_enter Tryz.func16, Tryz.ntmps16
    go_wp2_with fail
    refine (light_calls A1 k1 c1 1100 w false (Lib.hid (decide_eq_false q1))).mono ?_
    rintro e w' ⟨rfl, rfl⟩
    go_wp2_with fail
    refine (sanity_at H0 HT).mono ?_
    rintro e w1 ⟨rfl, H1⟩
    clear H0
    go_wp2_with fail
    go_ret
    exact ⟨rfl, H1.out.b⟩
  by_cases q2 : k2 ≤ 1100
  case neg =>
    go_enter Tryz.func16, Tryz.ntmps16
    go_wp2_with fail
    refine (light_calls A1 k1 c1 1100 w true (Lib.hid (decide_eq_true q1))).mono ?_
    rintro e w' ⟨rfl, rfl⟩
    go_wp2_with fail
    refine (light_calls A2 k2 c2 1100 w false (Lib.hid (decide_eq_false q2))).mono ?_
    rintro e w' ⟨rfl, rfl⟩
    go_wp2_with fail
    refine (sanity_at H0 HT).mono ?_
    rintro e w1 ⟨rfl, H1⟩
    clear H0
    go_wp2_with fail
    go_ret
    exact ⟨rfl, H1.out.b⟩
  cases v1 : validB g1
  case false =>
    go_enter Tryz.func16, Tryz.ntmps16
    go_wp2_with fail
    refine (light_calls A1 k1 c1 1100 w true (Lib.hid (decide_eq_true q1))).mono ?_
    rintro e w' ⟨rfl, rfl⟩
    go_wp2_with fail
    refine (light_calls A2 k2 c2 1100 w true (Lib.hid (decide_eq_true q2))).mono ?_
    rintro e w' ⟨rfl, rfl⟩
    go_wp2_with fail
    refine (ToUint_bad A1 k1 c1 g1 _ (I1.out.rd.below H0.out.b) I1.out.len I1.out.lim (Lib.hid v1)).mono ?_
    rintro e w1 ⟨rfl, hgi⟩
    have h := H0.out.below hgi
    clear hgi
    have H1 := Lib.hid h
    clear h H0
    go_wp2_with fail
    refine (Cmp_bad A1 k1 c1 g1 A2 k2 c2 g2 _ (I1.out.rd.below H1.out.b) (I2.out.rd.below H1.out.b) I1.out.len I2.out.len I1.out.lim I2.out.lim (Lib.hid (by rw [v1]; rfl))).mono ?_
    rintro e w2 ⟨rfl, hgi⟩
    have h := H1.out.below hgi
    clear hgi
    have H2 := Lib.hid h
    clear h H1
    go_wp2_with fail
    refine (Bits_bad A1 k1 c1 g1 _ (I1.out.rd.below H2.out.b) I1.out.len I1.out.lim (Lib.hid v1)).mono ?_
    rintro e w3 ⟨rfl, hgi⟩
    have h := H2.out.below hgi
    clear hgi
    have H3 := Lib.hid h
    clear h H2
    go_wp2_with fail
    refine (Zeros_bad A1 k1 c1 g1 _ (I1.out.rd.below H3.out.b) I1.out.len I1.out.lim (Lib.hid v1)).mono ?_
    rintro e w4 ⟨rfl, hgi⟩
    have h := H3.out.below hgi
    clear hgi
    have H4 := Lib.hid h
    clear h H3
    go_wp2_with fail
    refine (valid_calls A1 c1 k1 g1 _ I1.out.len I1.out.lim (I1.out.rd.below H4.out.b) false (Lib.hid v1)).mono ?_
    rintro e w' ⟨rfl, rfl⟩
    go_wp2_with fail
    refine (rvalid_calls A1 c1 k1 g1 _ I1.out.len I1.out.lim (I1.out.rd.below H4.out.b) false (Lib.hid v1)).mono ?_
    rintro e w' ⟨rfl, rfl⟩
    go_wp2_with fail
    refine (FromUint_x H4.out n hn).mono ?_
    rintro e w5 ⟨B5, j5, d5, n5, rfl, hn5, b5, h⟩
    rw [hn5.out] at h
    clear hn5
    have H5 := Lib.hid h
    clear h H4
    go_wp2_with fail
    refine (rof_h H5.out n hn).mono ?_
    rintro e w6 ⟨B6, j6, d6, n6, rfl, hn6, b6, h⟩
    rw [hn6.out] at h
    clear hn6
    have H6 := Lib.hid h
    clear h H5
    go_wp2_with fail
    refine (rsame_h H6.out B5 j5 d5 (n) B6 j6 d6 (n) (.tail _ (.head _)) (.head _) (Nat.le_trans b5 (by decide)) (Nat.le_trans b6 (by decide)) true (Lib.hid (decide_eq_true rfl))).mono ?_
    rintro e w7 ⟨rfl, h⟩
    have H7 := Lib.hid h
    clear h H6
    go_wp2_with fail
    refine (rvalid_calls A1 c1 k1 g1 _ I1.out.len I1.out.lim (I1.out.rd.below H7.out.b) false (Lib.hid v1)).mono ?_
    rintro e w' ⟨rfl, rfl⟩
    go_wp2_with fail
    refine (sanity_at H7 HT).mono ?_
    rintro e w8 ⟨rfl, H8⟩
    clear H7
    go_wp2_with fail
    go_ret
    exact ⟨rfl, H8.out.b⟩
  obtain ⟨a, rfl, e1, _⟩ := I1.out.num H0.out v1
  have HV1 := Lib.hid v1
  cases v2 : validB g2
  case false =>
    have HM : Hid ((validB (dg a) && validB g2) = false) := Lib.hid (by rw [v1, v2]; rfl)
    clear v1
    by_cases hk : 2 < k1
    case pos =>
      have hk2 : ¬ k1 ≤ 2 := by omega
      go_enter Tryz.func16, Tryz.ntmps16
      go_wp2_with fail
      refine (light_calls A1 k1 c1 1100 w true (Lib.hid (decide_eq_true q1))).mono ?_
      rintro e w' ⟨rfl, rfl⟩
      go_wp2_with fail
      refine (light_calls A2 k2 c2 1100 w true (Lib.hid (decide_eq_true q2))).mono ?_
      rintro e w' ⟨rfl, rfl⟩
      have h := ((I1.out.below H0.out.b).has (H0.out))
      have H1 := Lib.hid h
      clear h H0
      go_wp2_with fail
      refine (ToUint_big H1.out A1 k1 c1 (a) (.head _) e1 hk).mono ?_
      rintro e w2 ⟨rfl, hgi⟩
      have h := H1.out.below hgi
      clear hgi
      have H2 := Lib.hid h
      clear h H1
      go_wp2_with fail
      refine (Cmp_bad A1 k1 c1 (dg a) A2 k2 c2 g2 _ (I1.out.rd.below H2.out.b) (I2.out.rd.below H2.out.b) I1.out.len I2.out.len I1.out.lim I2.out.lim (HM)).mono ?_
      rintro e w3 ⟨rfl, hgi⟩
      have h := H2.out.below hgi
      clear hgi
      have H3 := Lib.hid h
      clear h H2
      go_wp2_with fail
      refine (Bits_x H3.out A1 k1 c1 (a) (.head _) e1).mono ?_
      rintro e w4 ⟨rfl, hgi⟩
      have h := H3.out.below hgi
      clear hgi
      have H4 := Lib.hid h
      clear h H3
      go_wp2_with fail
      refine (Zeros_x H4.out (HT.out.below H4.out.b) A1 k1 c1 (a) (.head _) e1).mono ?_
      rintro e w5 ⟨z, hz, lz, rfl, hgi⟩
      have h := H4.out.below hgi
      clear hgi
      have H5 := Lib.hid h
      clear h H4
      go_wp2_with fail
      refine (valid_calls A1 c1 k1 (dg a) _ I1.out.len I1.out.lim (I1.out.rd.below H5.out.b) true (HV1)).mono ?_
      rintro e w' ⟨rfl, rfl⟩
      go_wp2_with fail
      refine (rvalid_calls A1 c1 k1 (dg a) _ I1.out.len I1.out.lim (I1.out.rd.below H5.out.b) true (HV1)).mono ?_
      rintro e w' ⟨rfl, rfl⟩
      go_wp2_with fail
      refine (FromUint_x H5.out n hn).mono ?_
      rintro e w6 ⟨B6, j6, d6, n6, rfl, hn6, b6, h⟩
      rw [hn6.out] at h
      clear hn6
      have H6 := Lib.hid h
      clear h H5
      go_wp2_with fail
      refine (rof_h H6.out n hn).mono ?_
      rintro e w7 ⟨B7, j7, d7, n7, rfl, hn7, b7, h⟩
      rw [hn7.out] at h
      clear hn7
      have H7 := Lib.hid h
      clear h H6
      go_wp2_with fail
      refine (rsame_h H7.out B6 j6 d6 (n) B7 j7 d7 (n) (.tail _ (.head _)) (.head _) (Nat.le_trans b6 (by decide)) (Nat.le_trans b7 (by decide)) true (Lib.hid (decide_eq_true rfl))).mono ?_
      rintro e w8 ⟨rfl, h⟩
      have H8 := Lib.hid h
      clear h H7
      go_wp2_with fail
      refine (rvalid_calls A1 c1 k1 (dg a) _ I1.out.len I1.out.lim (I1.out.rd.below H8.out.b) true (HV1)).mono ?_
      rintro e w' ⟨rfl, rfl⟩
      go_wp2_with fail
      refine (rvalid_calls A2 c2 k2 g2 _ I2.out.len I2.out.lim (I2.out.rd.below H8.out.b) false (Lib.hid v2)).mono ?_
      rintro e w' ⟨rfl, rfl⟩
      go_wp2_with fail
      refine (sanity_at H8 HT).mono ?_
      rintro e w9 ⟨rfl, H9⟩
      clear H8
      go_wp2_with fail
      go_ret
      exact ⟨rfl, H9.out.b⟩
    case neg =>
      have hk2 : k1 ≤ 2 := by omega
      have HA := Lib.hid (two_limbs I1.out.len hk2)
      go_enter Tryz.func16, Tryz.ntmps16
      go_wp2_with fail
      refine (light_calls A1 k1 c1 1100 w true (Lib.hid (decide_eq_true q1))).mono ?_
      rintro e w' ⟨rfl, rfl⟩
      go_wp2_with fail
      refine (light_calls A2 k2 c2 1100 w true (Lib.hid (decide_eq_true q2))).mono ?_
      rintro e w' ⟨rfl, rfl⟩
      have h := ((I1.out.below H0.out.b).has (H0.out))
      have H1 := Lib.hid h
      clear h H0
      go_wp2_with fail
      refine (ToUint_x H1.out A1 k1 c1 (a) (.head _) hk2).mono ?_
      rintro e w2 ⟨rfl, hgi⟩
      have h := H1.out.below hgi
      clear hgi
      have H2 := Lib.hid h
      clear h H1
      go_wp2_with fail
      refine (Cmp_bad A1 k1 c1 (dg a) A2 k2 c2 g2 _ (I1.out.rd.below H2.out.b) (I2.out.rd.below H2.out.b) I1.out.len I2.out.len I1.out.lim I2.out.lim (HM)).mono ?_
      rintro e w3 ⟨rfl, hgi⟩
      have h := H2.out.below hgi
      clear hgi
      have H3 := Lib.hid h
      clear h H2
      go_wp2_with fail
      refine (Bits_x H3.out A1 k1 c1 (a) (.head _) e1).mono ?_
      rintro e w4 ⟨rfl, hgi⟩
      have h := H3.out.below hgi
      clear hgi
      have H4 := Lib.hid h
      clear h H3
      go_wp2_with fail
      refine (Zeros_x H4.out (HT.out.below H4.out.b) A1 k1 c1 (a) (.head _) e1).mono ?_
      rintro e w5 ⟨z, hz, lz, rfl, hgi⟩
      have h := H4.out.below hgi
      clear hgi
      have H5 := Lib.hid h
      clear h H4
      go_wp2_with fail
      refine (valid_calls A1 c1 k1 (dg a) _ I1.out.len I1.out.lim (I1.out.rd.below H5.out.b) true (HV1)).mono ?_
      rintro e w' ⟨rfl, rfl⟩
      go_wp2_with fail
      refine (rvalid_calls A1 c1 k1 (dg a) _ I1.out.len I1.out.lim (I1.out.rd.below H5.out.b) true (HV1)).mono ?_
      rintro e w' ⟨rfl, rfl⟩
      go_wp2_with fail
      refine (FromUint_x H5.out n hn).mono ?_
      rintro e w6 ⟨B6, j6, d6, n6, rfl, hn6, b6, h⟩
      rw [hn6.out] at h
      clear hn6
      have H6 := Lib.hid h
      clear h H5
      go_wp2_with fail
      refine (rof_h H6.out n hn).mono ?_
      rintro e w7 ⟨B7, j7, d7, n7, rfl, hn7, b7, h⟩
      rw [hn7.out] at h
      clear hn7
      have H7 := Lib.hid h
      clear h H6
      go_wp2_with fail
      refine (rsame_h H7.out B6 j6 d6 (n) B7 j7 d7 (n) (.tail _ (.head _)) (.head _) (Nat.le_trans b6 (by decide)) (Nat.le_trans b7 (by decide)) true (Lib.hid (decide_eq_true rfl))).mono ?_
      rintro e w8 ⟨rfl, h⟩
      have H8 := Lib.hid h
      clear h H7
      go_wp2_with fail
      refine (rvalid_calls A1 c1 k1 (dg a) _ I1.out.len I1.out.lim (I1.out.rd.below H8.out.b) true (HV1)).mono ?_
      rintro e w' ⟨rfl, rfl⟩
      go_wp2_with fail
      refine (rof_h H8.out a HA.out).mono ?_
      rintro e w9 ⟨B9, j9, d9, n9, rfl, hn9, b9, h⟩
      rw [hn9.out] at h
      clear hn9
      have H9 := Lib.hid h
      clear h H8
      go_wp2_with fail
      refine (rsame_h H9.out B9 j9 d9 (a) A1 k1 c1 (a) (.head _) (.tail _ (.tail _ (.tail _ (.head _)))) (Nat.le_trans b9 (by decide)) (Nat.le_trans e1 (by decide)) true (Lib.hid (decide_eq_true rfl))).mono ?_
      rintro e w10 ⟨rfl, h⟩
      have H10 := Lib.hid h
      clear h H9
      go_wp2_with fail
      refine (rvalid_calls A2 c2 k2 g2 _ I2.out.len I2.out.lim (I2.out.rd.below H10.out.b) false (Lib.hid v2)).mono ?_
      rintro e w' ⟨rfl, rfl⟩
      go_wp2_with fail
      refine (sanity_at H10 HT).mono ?_
      rintro e w11 ⟨rfl, H11⟩
      clear H10
      go_wp2_with fail
      go_ret
      exact ⟨rfl, H11.out.b⟩
  case true =>
    obtain ⟨b, rfl, e2, _⟩ := I2.out.num H0.out v2
    have HV2 := Lib.hid v2
    obtain ⟨r, hr⟩ : ∃ r, Hid (cmpI a b = r) := ⟨_, Lib.hid rfl⟩
    clear v1 v2
    by_cases hk : 2 < k1
    case pos =>
      have hk2 : ¬ k1 ≤ 2 := by omega
      go_enter Tryz.func16, Tryz.ntmps16
      go_wp2_with fail
      refine (light_calls A1 k1 c1 1100 w true (Lib.hid (decide_eq_true q1))).mono ?_
      rintro e w' ⟨rfl, rfl⟩
      go_wp2_with fail
      refine (light_calls A2 k2 c2 1100 w true (Lib.hid (decide_eq_true q2))).mono ?_
      rintro e w' ⟨rfl, rfl⟩
      have h := ((I2.out.below H0.out.b).has (((I1.out.below H0.out.b).has (H0.out))))
      have H1 := Lib.hid h
      clear h H0
      go_wp2_with fail
      refine (ToUint_big H1.out A1 k1 c1 (a) (.tail _ (.head _)) e1 hk).mono ?_
      rintro e w2 ⟨rfl, hgi⟩
      have h := H1.out.below hgi
      clear hgi
      have H2 := Lib.hid h
      clear h H1
      go_wp2_with fail
      refine (Cmp_x H2.out A1 k1 c1 (a) A2 k2 c2 (b) (.tail _ (.head _)) (.head _) e1 e2 (r) (Lib.hid (hr.out))).mono ?_
      rintro e w3 ⟨rfl, hb⟩
      have h := H2.out.below hb
      clear hb
      have H3 := Lib.hid h
      clear h H2
      go_wp2_with fail
      refine (Bits_x H3.out A1 k1 c1 (a) (.tail _ (.head _)) e1).mono ?_
      rintro e w4 ⟨rfl, hgi⟩
      have h := H3.out.below hgi
      clear hgi
      have H4 := Lib.hid h
      clear h H3
      go_wp2_with fail
      refine (Zeros_x H4.out (HT.out.below H4.out.b) A1 k1 c1 (a) (.tail _ (.head _)) e1).mono ?_
      rintro e w5 ⟨z, hz, lz, rfl, hgi⟩
      have h := H4.out.below hgi
      clear hgi
      have H5 := Lib.hid h
      clear h H4
      go_wp2_with fail
      refine (valid_calls A1 c1 k1 (dg a) _ I1.out.len I1.out.lim (I1.out.rd.below H5.out.b) true (HV1)).mono ?_
      rintro e w' ⟨rfl, rfl⟩
      go_wp2_with fail
      refine (rvalid_calls A1 c1 k1 (dg a) _ I1.out.len I1.out.lim (I1.out.rd.below H5.out.b) true (HV1)).mono ?_
      rintro e w' ⟨rfl, rfl⟩
      go_wp2_with fail
      refine (FromUint_x H5.out n hn).mono ?_
      rintro e w6 ⟨B6, j6, d6, n6, rfl, hn6, b6, h⟩
      rw [hn6.out] at h
      clear hn6
      have H6 := Lib.hid h
      clear h H5
      go_wp2_with fail
      refine (rof_h H6.out n hn).mono ?_
      rintro e w7 ⟨B7, j7, d7, n7, rfl, hn7, b7, h⟩
      rw [hn7.out] at h
      clear hn7
      have H7 := Lib.hid h
      clear h H6
      go_wp2_with fail
      refine (rsame_h H7.out B6 j6 d6 (n) B7 j7 d7 (n) (.tail _ (.head _)) (.head _) (Nat.le_trans b6 (by decide)) (Nat.le_trans b7 (by decide)) true (Lib.hid (decide_eq_true rfl))).mono ?_
      rintro e w8 ⟨rfl, h⟩
      have H8 := Lib.hid h
      clear h H7
      go_wp2_with fail
      refine (rvalid_calls A1 c1 k1 (dg a) _ I1.out.len I1.out.lim (I1.out.rd.below H8.out.b) true (HV1)).mono ?_
      rintro e w' ⟨rfl, rfl⟩
      go_wp2_with fail
      refine (rvalid_calls A2 c2 k2 (dg b) _ I2.out.len I2.out.lim (I2.out.rd.below H8.out.b) true (HV2)).mono ?_
      rintro e w' ⟨rfl, rfl⟩
      go_wp2_with fail
      refine (sanity_at H8 HT).mono ?_
      rintro e w9 ⟨rfl, H9⟩
      clear H8
      go_wp2_with fail
      refine (rcmp_h H9.out A1 k1 c1 (a) A2 k2 c2 (b) (.tail _ (.tail _ (.tail _ (.head _)))) (.tail _ (.tail _ (.head _))) (Nat.le_trans e1 (by decide)) (Nat.le_trans e2 (by decide)) r hr).mono ?_
      rintro e w' ⟨rfl, rfl⟩
      go_wp2_with fail
      refine (rbits_h H9.out A1 k1 c1 (a) (.tail _ (.tail _ (.tail _ (.head _)))) (Nat.le_trans e1 (by decide))).mono ?_
      rintro e w' ⟨rfl, rfl⟩
      go_wp2_with fail
      refine (rzeros_h H9.out A1 k1 c1 (a) (.tail _ (.tail _ (.tail _ (.head _)))) (Nat.le_trans e1 (by decide)) z hz (by omega)).mono ?_
      rintro e w' ⟨rfl, rfl⟩
      go_wp2_with fail
      go_ret
      exact ⟨rfl, H9.out.b⟩
    case neg =>
      have hk2 : k1 ≤ 2 := by omega
      have HA := Lib.hid (two_limbs I1.out.len hk2)
      go_enter Tryz.func16, Tryz.ntmps16
      go_wp2_with fail
      refine (light_calls A1 k1 c1 1100 w true (Lib.hid (decide_eq_true q1))).mono ?_
      rintro e w' ⟨rfl, rfl⟩
      go_wp2_with fail
      refine (light_calls A2 k2 c2 1100 w true (Lib.hid (decide_eq_true q2))).mono ?_
      rintro e w' ⟨rfl, rfl⟩
      have h := ((I2.out.below H0.out.b).has (((I1.out.below H0.out.b).has (H0.out))))
      have H1 := Lib.hid h
      clear h H0
      go_wp2_with fail
      refine (ToUint_x H1.out A1 k1 c1 (a) (.tail _ (.head _)) hk2).mono ?_
      rintro e w2 ⟨rfl, hgi⟩
      have h := H1.out.below hgi
      clear hgi
      have H2 := Lib.hid h
      clear h H1
      go_wp2_with fail
      refine (Cmp_x H2.out A1 k1 c1 (a) A2 k2 c2 (b) (.tail _ (.head _)) (.head _) e1 e2 (r) (Lib.hid (hr.out))).mono ?_
      rintro e w3 ⟨rfl, hb⟩
      have h := H2.out.below hb
      clear hb
      have H3 := Lib.hid h
      clear h H2
      go_wp2_with fail
      refine (Bits_x H3.out A1 k1 c1 (a) (.tail _ (.head _)) e1).mono ?_
      rintro e w4 ⟨rfl, hgi⟩
      have h := H3.out.below hgi
      clear hgi
      have H4 := Lib.hid h
      clear h H3
      go_wp2_with fail
      refine (Zeros_x H4.out (HT.out.below H4.out.b) A1 k1 c1 (a) (.tail _ (.head _)) e1).mono ?_
      rintro e w5 ⟨z, hz, lz, rfl, hgi⟩
      have h := H4.out.below hgi
      clear hgi
      have H5 := Lib.hid h
      clear h H4
      go_wp2_with fail
      refine (valid_calls A1 c1 k1 (dg a) _ I1.out.len I1.out.lim (I1.out.rd.below H5.out.b) true (HV1)).mono ?_
      rintro e w' ⟨rfl, rfl⟩
      go_wp2_with fail
      refine (rvalid_calls A1 c1 k1 (dg a) _ I1.out.len I1.out.lim (I1.out.rd.below H5.out.b) true (HV1)).mono ?_
      rintro e w' ⟨rfl, rfl⟩
      go_wp2_with fail
      refine (FromUint_x H5.out n hn).mono ?_
      rintro e w6 ⟨B6, j6, d6, n6, rfl, hn6, b6, h⟩
      rw [hn6.out] at h
      clear hn6
      have H6 := Lib.hid h
      clear h H5
      go_wp2_with fail
      refine (rof_h H6.out n hn).mono ?_
      rintro e w7 ⟨B7, j7, d7, n7, rfl, hn7, b7, h⟩
      rw [hn7.out] at h
      clear hn7
      have H7 := Lib.hid h
      clear h H6
      go_wp2_with fail
      refine (rsame_h H7.out B6 j6 d6 (n) B7 j7 d7 (n) (.tail _ (.head _)) (.head _) (Nat.le_trans b6 (by decide)) (Nat.le_trans b7 (by decide)) true (Lib.hid (decide_eq_true rfl))).mono ?_
      rintro e w8 ⟨rfl, h⟩
      have H8 := Lib.hid h
      clear h H7
      go_wp2_with fail
      refine (rvalid_calls A1 c1 k1 (dg a) _ I1.out.len I1.out.lim (I1.out.rd.below H8.out.b) true (HV1)).mono ?_
      rintro e w' ⟨rfl, rfl⟩
      go_wp2_with fail
      refine (rof_h H8.out a HA.out).mono ?_
      rintro e w9 ⟨B9, j9, d9, n9, rfl, hn9, b9, h⟩
      rw [hn9.out] at h
      clear hn9
      have H9 := Lib.hid h
      clear h H8
      go_wp2_with fail
      refine (rsame_h H9.out B9 j9 d9 (a) A1 k1 c1 (a) (.head _) (.tail _ (.tail _ (.tail _ (.tail _ (.head _))))) (Nat.le_trans b9 (by decide)) (Nat.le_trans e1 (by decide)) true (Lib.hid (decide_eq_true rfl))).mono ?_
      rintro e w10 ⟨rfl, h⟩
      have H10 := Lib.hid h
      clear h H9
      go_wp2_with fail
      refine (rvalid_calls A2 c2 k2 (dg b) _ I2.out.len I2.out.lim (I2.out.rd.below H10.out.b) true (HV2)).mono ?_
      rintro e w' ⟨rfl, rfl⟩
      go_wp2_with fail
      refine (sanity_at H10 HT).mono ?_
      rintro e w11 ⟨rfl, H11⟩
      clear H10
      go_wp2_with fail
      refine (rcmp_h H11.out A1 k1 c1 (a) A2 k2 c2 (b) (.tail _ (.tail _ (.tail _ (.tail _ (.head _))))) (.tail _ (.tail _ (.tail _ (.head _)))) (Nat.le_trans e1 (by decide)) (Nat.le_trans e2 (by decide)) r hr).mono ?_
      rintro e w' ⟨rfl, rfl⟩
      go_wp2_with fail
      refine (rbits_h H11.out A1 k1 c1 (a) (.tail _ (.tail _ (.tail _ (.tail _ (.head _))))) (Nat.le_trans e1 (by decide))).mono ?_
      rintro e w' ⟨rfl, rfl⟩
      go_wp2_with fail
      refine (rzeros_h H11.out A1 k1 c1 (a) (.tail _ (.tail _ (.tail _ (.tail _ (.head _))))) (Nat.le_trans e1 (by decide)) z hz (by omega)).mono ?_
      rintro e w' ⟨rfl, rfl⟩
      go_wp2_with fail
      go_ret
      exact ⟨rfl, H11.out.b⟩
end Go.Proofs.YtfcfejlffmddnaaGreatDoor
end
