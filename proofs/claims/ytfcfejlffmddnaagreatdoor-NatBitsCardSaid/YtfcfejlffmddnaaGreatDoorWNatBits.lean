/- The law NatBits: its walk. -/
import Derived.Test.YtfcfejlffmddnaaGreatDoorM13
section
/- The laws on numbers: entry, bounds. -/
namespace Go.Proofs.YtfcfejlffmddnaaGreatDoor
open Go.RowKit
set_option linter.unusedSimpArgs false
set_option linter.unusedVariables false
set_option linter.constructorNameAsVariable false

variable {w0 w : World} {l : List (Option Addr × Nat × Nat × Nat)}
theorem Lists.three (w : World) (A1 : Option Addr) (k1 c1 : Nat) (g1 : List Int) (A2 : Option Addr) (k2 c2 : Nat) (g2 : List Int) (A3 : Option Addr) (k3 c3 : Nat) (g3 : List Int) (i1 : Inp w A1 k1 c1 g1) (i2 : Inp w A2 k2 c2 g2) (i3 : Inp w A3 k3 c3 g3) :
    Lists (w.alloc (.cells #[.slice A1 k1 c1, .slice A2 k2 c2, .slice A3 k3 c3] 23)) w.heap.size 3 [(A1, k1, c1, g1), (A2, k2, c2, g2), (A3, k3, c3, g3)] := by
  refine ⟨rfl, fun j p hp => ?_, fun p hp => ?_⟩
  · rw [Lib.cell_of_heap (World.alloc_heap_new w _)]
    match j, hp with
    | 0, hp => simp at hp; subst hp; rfl
    | 1, hp => simp at hp; subst hp; rfl
    | 2, hp => simp at hp; subst hp; rfl
  · simp only [List.mem_cons, List.not_mem_nil, or_false] at hp
    rcases hp with rfl | rfl | rfl
    · exact ⟨i1.len, i1.lim, i1.rd.alloc _⟩
    · exact ⟨i2.len, i2.lim, i2.rd.alloc _⟩
    · exact ⟨i3.len, i3.lim, i3.rd.alloc _⟩
/-- A list that is a number of at most m elements. -/
def okB (m k : Nat) (g : List Int) : Bool := decide (k ≤ m) && validB g
theorem okB_num {m : Nat} {A : Option Addr} {k c : Nat} {g : List Int} (hi : Inp w A k c g) (h : okB m k g = true) : ∃ x, g = dg x ∧ k ≤ m ∧ k ≤ 1024 ∧ (dg x).length ≤ m := by
  unfold okB at h
  rw [Bool.and_eq_true] at h
  obtain ⟨x, rfl, hx⟩ := validB_num hi.ok h.2
  have h1 := of_decide_eq_true h.1
  have h2 := hi.len
  exact ⟨x, rfl, h1, by omega, by omega⟩
theorem numbers1 (m : Nat) (A1 : Option Addr) (k1 c1 : Nat) (g1 : List Int) (i1 : Inp w A1 k1 c1 g1) (b : Bool) (hb : Hid (okB m k1 g1 = b)) :
    Calls Tryz.prog 39 #[.int .i64 m, .slice (some ⟨w.heap.size, 0, none⟩) 1 1] (w.alloc (.cells #[.slice A1 k1 c1] 23)) fun e w' => e = .returned (.bool b) ∧ Hid (Has w w' []) :=
  (numbers_calls m _ 1 1 _ _ (Lists.one w A1 k1 c1 g1 i1.rd i1.len i1.lim) (by decide) b (Lib.hid (by rw [← hb.out]; simp [okB]))).mono (fun e w' ⟨he, hw⟩ => ⟨he, Lib.hid (hw ▸ (Has.nil w).alloc _)⟩)
theorem numbers2 (m : Nat) (A1 : Option Addr) (k1 c1 : Nat) (g1 : List Int) (A2 : Option Addr) (k2 c2 : Nat) (g2 : List Int) (i1 : Inp w A1 k1 c1 g1) (i2 : Inp w A2 k2 c2 g2) (b : Bool) (hb : Hid ((okB m k1 g1 && okB m k2 g2) = b)) :
    Calls Tryz.prog 39 #[.int .i64 m, .slice (some ⟨w.heap.size, 0, none⟩) 2 2] (w.alloc (.cells #[.slice A1 k1 c1, .slice A2 k2 c2] 23)) fun e w' => e = .returned (.bool b) ∧ Hid (Has w w' []) :=
  (numbers_calls m _ 2 2 _ _ (Lists.two w A1 k1 c1 g1 A2 k2 c2 g2 i1.rd i2.rd i1.len i2.len i1.lim i2.lim) (by decide) b (Lib.hid (by rw [← hb.out]; simp [okB]))).mono (fun e w' ⟨he, hw⟩ => ⟨he, Lib.hid (hw ▸ (Has.nil w).alloc _)⟩)
theorem numbers3 (m : Nat) (A1 : Option Addr) (k1 c1 : Nat) (g1 : List Int) (A2 : Option Addr) (k2 c2 : Nat) (g2 : List Int) (A3 : Option Addr) (k3 c3 : Nat) (g3 : List Int) (i1 : Inp w A1 k1 c1 g1) (i2 : Inp w A2 k2 c2 g2) (i3 : Inp w A3 k3 c3 g3) (b : Bool) (hb : Hid ((okB m k1 g1 && okB m k2 g2 && okB m k3 g3) = b)) :
    Calls Tryz.prog 39 #[.int .i64 m, .slice (some ⟨w.heap.size, 0, none⟩) 3 3] (w.alloc (.cells #[.slice A1 k1 c1, .slice A2 k2 c2, .slice A3 k3 c3] 23)) fun e w' => e = .returned (.bool b) ∧ Hid (Has w w' []) :=
  (numbers_calls m _ 3 3 _ _ (Lists.three w A1 k1 c1 g1 A2 k2 c2 g2 A3 k3 c3 g3 i1 i2 i3) (by decide) b (Lib.hid (by rw [← hb.out]; simp [okB, Bool.and_assoc]))).mono (fun e w' ⟨he, hw⟩ => ⟨he, Lib.hid (hw ▸ (Has.nil w).alloc _)⟩)
theorem Inp.has {A : Option Addr} {k c x : Nat} (h : Inp w A k c (dg x)) (H : Has w0 w l) : Has w0 w ((A, k, c, x) :: l) := H.cons h.rd h.len h.cap h.capm
theorem lenadd {x y i j : Nat} (hx : (dg x).length ≤ i) (hy : (dg y).length ≤ j) : (dg (x + y)).length ≤ i + j + 1 := by
  refine len_of_lt ?_
  have h1 := lt_of_len hx
  have h2 := lt_of_len hy
  have h3 : 4294967296 ^ i ≤ 4294967296 ^ (i + j) := Nat.pow_le_pow_right (by decide) (by omega)
  have h4 : 4294967296 ^ j ≤ 4294967296 ^ (i + j) := Nat.pow_le_pow_right (by decide) (by omega)
  rw [Nat.pow_succ]
  omega
theorem lenmul {x y i j : Nat} (hx : (dg x).length ≤ i) (hy : (dg y).length ≤ j) : (dg (x * y)).length ≤ i + j := by
  refine len_of_lt ?_
  rw [Nat.pow_add]
  exact Nat.mul_lt_mul'' (lt_of_len hx) (lt_of_len hy)
theorem lenle {x y i : Nat} (h : x ≤ y) (hy : (dg y).length ≤ i) : (dg x).length ≤ i := len_of_lt (Nat.lt_of_le_of_lt h (lt_of_len hy))
theorem subO_add {a b : Nat} (h : (dg a).length ≤ 1024) : subO (a + b) b = (0, a) := by
  unfold subO
  rw [if_neg (by omega), Nat.add_sub_cancel, giv_ok h]
theorem giv_le {n i : Nat} (h : (dg n).length ≤ i) (hi : i ≤ 1024) : giv n = (0, n) := giv_ok (Nat.le_trans h hi)
theorem len_zero : (dg 0).length ≤ 0 := by rw [dg_zero]; exact Nat.le_refl _
theorem len_lit {n : Nat} (h : n < 4294967296 ^ 1) : (dg n).length ≤ 1 := len_of_lt h
end Go.Proofs.YtfcfejlffmddnaaGreatDoor
end
section
/- The law NatBits. -/
namespace Go.Proofs.YtfcfejlffmddnaaGreatDoor
open Go.RowKit
set_option linter.unusedSimpArgs false
set_option linter.unusedVariables false
set_option linter.constructorNameAsVariable false

variable {w0 w : World} {l : List (Option Addr × Nat × Nat × Nat)}
theorem wf_u16 {n : Int} (h : (Lit.int .u16 n).wf = true) : ∃ r : Nat, n = r ∧ r < 65536 := by
  simp [Lit.wf, IntKind.min, IntKind.max, IntKind.signed, IntKind.bits] at h
  exact ⟨n.toNat, by omega, by omega⟩
theorem len_two {k j : Nat} (h : k < 32 * j) : (dg (2 ^ k)).length ≤ j := by
  refine len_of_lt ?_
  rw [show (4294967296 : Nat) = 2 ^ 32 from rfl, ← Nat.pow_mul]
  exact Nat.pow_lt_pow_right (by decide) h
theorem powO_two {a i j : Nat} (h : (dg (a ^ i)).length ≤ j) (hj : j ≤ 1024) : powO a (i : Int) = (0, a ^ i) := by
  unfold powO; rw [if_neg (by omega), Int.toNat_natCast, giv_le h hj]
theorem shlO_le {a i j : Nat} (h : (dg (a * 2 ^ i)).length ≤ j) (hj : j ≤ 1024) : shlO a (i : Int) = (0, a * 2 ^ i) := by
  unfold shlO; rw [if_neg (by omega), Int.toNat_natCast, giv_le h hj]
theorem shrO_le {a i j : Nat} (h : (dg a).length ≤ j) (hj : j ≤ 1024) : shrO a (i : Int) = (0, a / 2 ^ i) := by
  unfold shrO; rw [if_neg (by omega), Int.toNat_natCast, giv_le (lenle (Nat.div_le_self _ _) h) hj]
theorem divO_two {a k : Nat} : divO a (2 ^ k) = (0, a / 2 ^ k, a % 2 ^ k) := if_neg (Nat.pos_iff_ne_zero.1 (Nat.pow_pos (by decide)))
theorem cmpI_lt2 {a b : Nat} (h : a < b) : cmpI a b = -1 := if_pos h
theorem cmpI_le0 {a b : Nat} (h : a ≤ b) : decide (cmpI a b ≤ 0) = true := by
  unfold cmpI
  by_cases h1 : a < b
  · rw [if_pos h1]; decide
  · rw [if_neg h1, if_neg (by omega)]; decide
theorem twos_zero {z : Nat} (h : Twos 0 z) : z = 0 := by
  rcases h with ⟨_, h⟩ | ⟨m, hm⟩
  · exact h
  · have h1 : 0 < 2 ^ z := Nat.pow_pos (by decide)
    have h2 : 0 < 2 ^ z * (2 * m + 1) := Nat.mul_pos h1 (by omega)
    omega
theorem twos_odd {a z : Nat} (ha : a ≠ 0) (h : Twos a z) : ∃ m, a / 2 ^ z = 2 * m + 1 ∧ (2 * m + 1) * 2 ^ z = a := by
  rcases h with ⟨h, _⟩ | ⟨m, hm⟩
  · exact absurd h ha
  · refine ⟨m, ?_, by rw [hm, Nat.mul_comm]⟩
    rw [hm, Nat.mul_div_cancel_left _ (Nat.pow_pos (by decide))]
variable {w0 w : World} {l : List (Option Addr × Nat × Nat × Nat)}
theorem Has.void2 (H : Has w0 w l) {A : Option Addr} {k c n : Nat} (h : (A, k, c, n) ∈ l) (hn : n = 0) : k = 0 := by subst hn; exact H.none h
theorem Has.pos2 (H : Has w0 w l) {A : Option Addr} {k c n : Nat} (h : (A, k, c, n) ∈ l) (hn : n ≠ 0) : 0 < k := by
  have h1 := H.len h
  rcases Nat.eq_zero_or_pos k with h0 | h0
  · rw [h0] at h1; exact absurd ((dg_nil_iff n).1 h1) hn
  · exact h0
theorem Has.first (H : Has w0 w l) {A : Option Addr} {k c n : Nat} (h : (A, k, c, n) ∈ l) (hn : n ≠ 0) : ∃ b o, A = some ⟨b, o, Option.none⟩ ∧ w.cell? ⟨b, o, Option.none⟩ = some (.int .u32 ((n % 4294967296 : Nat) : Int)) := by
  obtain ⟨r, _, _, _⟩ := H.at h
  have hd : dg n = ((n % 4294967296 : Nat) : Int) :: dg (n / 4294967296) := dg_pos hn
  obtain ⟨b, o, rfl, hc⟩ := r (by rw [hd]; exact List.cons_ne_nil _ _)
  exact ⟨b, o, rfl, hc 0 _ (by rw [hd]; rfl)⟩
set_option maxRecDepth 100000 in
set_option maxHeartbeats 4000000 in
theorem bits_calls (w : World) (hT : Tabs w) (A1 : Option Addr) (k1 c1 : Nat) (g1 : List Int) (i1 : Inp w A1 k1 c1 g1) (n : Int) (wn : (Lit.int .u16 n).wf = true) :
    Calls Tryz.prog 18 #[.slice A1 k1 c1, .int .u16 n] w (True1 w) := by
  have HT := Lib.hid hT
  have I1 := Lib.hid i1
  have H0 := Lib.hid (Has.nil w)
  clear hT i1
  cases q : (okB 500 k1 g1)
  case false =>
    go_enter Tryz.func18, Tryz.ntmps18
    go_wp2_with fail
    refine (numbers1 500 A1 k1 c1 g1 I1.out false (Lib.hid q)).mono ?_
    rintro e w1 ⟨rfl, H1⟩
    go_wp2_with fail
    refine (sanity_at H1 HT).mono ?_
    rintro e w2 ⟨rfl, H2⟩
    clear H1
    go_wp2_with fail
    go_ret
    exact ⟨rfl, H2.out.b⟩
  have HN := Lib.hid (numbers1 500 A1 k1 c1 g1 I1.out true (Lib.hid q))
  obtain ⟨a, rfl, m1, e1, f1⟩ := okB_num I1.out q
  clear q
  obtain ⟨n, rfl, hn⟩ := wf_u16 wn
  obtain ⟨k, hk⟩ : ∃ k, k = n % 10000 := ⟨_, rfl⟩
  have lk : k < 10000 := by omega
  have x1 : IntKind.i64.wrap (n : Int) = n := by rw [IntKind.wrap_i64]; omega
  have x2 : (n : Int).tmod 10000 = (k : Int) := by rw [hk, Int.tmod_eq_emod_of_nonneg (by omega)]; omega
  have x3 : IntKind.i64.wrap (k : Int) = k := by rw [IntKind.wrap_i64]; omega
  have lp : (dg (2 ^ k)).length ≤ 313 := len_two (by omega)
  have lm : (dg (a * 2 ^ k)).length ≤ 813 := lenmul f1 lp
  clear hk wn
  go_enter Tryz.func18, Tryz.ntmps18
  go_wp2_with fail
  refine HN.out.mono ?_
  rintro e w1 ⟨rfl, h0⟩
  have h := ((I1.out.below h0.out.b).has (h0.out))
  clear h0 HN
  have H1 := Lib.hid h
  clear h H0
  have h := H1.out.one 2 (by decide) (by decide)
  have H2 := Lib.hid h
  clear h H1
  go_wp2_with fail
  refine (Pow_x H2.out _ 1 1 (2) k (.head _) (by decide) 0 (2 ^ k) (Lib.hid (powO_two lp (by decide)))).mono ?_
  rintro e w3 ⟨B3, j3, d3, rfl, b3, h⟩
  have H3 := Lib.hid h
  clear h H2
  go_wp2_with fail
  refine (Shl_x H3.out A1 k1 c1 (a) k (.tail _ (.tail _ (.head _))) e1 0 (a * 2 ^ k) (Lib.hid (shlO_le lm (by decide)))).mono ?_
  rintro e w4 ⟨B4, j4, d4, rfl, b4, h⟩
  have H4 := Lib.hid h
  clear h H3
  go_wp2_with fail
  refine (Mul_x H4.out A1 k1 c1 (a) B3 j3 d3 (2 ^ k) (.tail _ (.tail _ (.tail _ (.head _)))) (.tail _ (.head _)) e1 b3 0 (a * 2 ^ k) (Lib.hid (giv_le (i := 813) (lm) (by decide)))).mono ?_
  rintro e w5 ⟨B5, j5, d5, rfl, b5, h⟩
  have H5 := Lib.hid h
  clear h H4
  go_wp2_with fail
  refine (Shr_x H5.out A1 k1 c1 (a) k (.tail _ (.tail _ (.tail _ (.tail _ (.head _))))) e1 0 (a / 2 ^ k) (Lib.hid (shrO_le f1 (by decide)))).mono ?_
  rintro e w6 ⟨B6, j6, d6, rfl, b6, h⟩
  have H6 := Lib.hid h
  clear h H5
  go_wp2_with fail
  refine (Div_x H6.out A1 k1 c1 (a) B3 j3 d3 (2 ^ k) (.tail _ (.tail _ (.tail _ (.tail _ (.tail _ (.head _)))))) (.tail _ (.tail _ (.tail _ (.head _)))) e1 b3 0 (a / 2 ^ k) (a % 2 ^ k) (Lib.hid (divO_two))).mono ?_
  rintro e w7 ⟨B7, j7, d7, B7', j7', d7', rfl, b7, b7', h⟩
  have H7 := Lib.hid h
  clear h H6
  go_wp2_with fail
  refine (rsame_h H7.out B4 j4 d4 (a * 2 ^ k) B5 j5 d5 (a * 2 ^ k) (.tail _ (.tail _ (.tail _ (.tail _ (.head _))))) (.tail _ (.tail _ (.tail _ (.head _)))) (Nat.le_trans b4 (by decide)) (Nat.le_trans b5 (by decide)) true (Lib.hid (decide_eq_true rfl))).mono ?_
  rintro e w8 ⟨rfl, h⟩
  have H8 := Lib.hid h
  clear h H7
  go_wp2_with fail
  refine (rsame_h H8.out B6 j6 d6 (a / 2 ^ k) B7 j7 d7 (a / 2 ^ k) (.tail _ (.tail _ (.head _))) (.head _) (Nat.le_trans b6 (by decide)) (Nat.le_trans b7 (by decide)) true (Lib.hid (decide_eq_true rfl))).mono ?_
  rintro e w9 ⟨rfl, h⟩
  have H9 := Lib.hid h
  clear h H8
  go_wp2_with fail
  refine (Bits_x H9.out A1 k1 c1 (a) (.tail _ (.tail _ (.tail _ (.tail _ (.tail _ (.tail _ (.tail _ (.head _)))))))) e1).mono ?_
  rintro e w10 ⟨rfl, hgi⟩
  have h := H9.out.below hgi
  clear hgi
  have H10 := Lib.hid h
  clear h H9
  go_wp2_with fail
  refine (Zeros_x H10.out (HT.out.below H10.out.b) A1 k1 c1 (a) (.tail _ (.tail _ (.tail _ (.tail _ (.tail _ (.tail _ (.tail _ (.head _)))))))) e1).mono ?_
  rintro e w11 ⟨z, hz, lz, rfl, hgi⟩
  have h := H10.out.below hgi
  clear hgi
  have H11 := Lib.hid h
  clear h H10
  by_cases ha : a = 0
  case pos =>
    have z0 := twos_zero (by have := hz.out; rwa [ha] at this)
    subst z0
    have y1 : bl a = 0 := by rw [ha]; rfl
    obtain rfl := H11.out.void2 (.tail _ (.tail _ (.tail _ (.tail _ (.tail _ (.tail _ (.tail _ (.head _)))))))) ha
    clear ha
    go_wp2_with fail
    refine (sanity_at H11 HT).mono ?_
    rintro e w12 ⟨rfl, H12⟩
    clear H11
    go_wp2_with fail
    go_ret
    exact ⟨rfl, H12.out.b⟩
  have y1 : ((k1 : Int) == 0) = false := by have := H11.out.pos2 (.tail _ (.tail _ (.tail _ (.tail _ (.tail _ (.tail _ (.tail _ (.head _)))))))) ha; simp; omega
  have HA := Lib.hid ha
  obtain ⟨hb1, hb2, hb3⟩ := bl_spec ha
  have hb4 : bl a ≤ 16000 := Nat.le_trans (bl_len a) (by omega)
  generalize bl a = b at hb1 hb2 hb3 hb4 ⊢
  have x4 : IntKind.i64.wrap ((b : Int) - 1) = ((b - 1 : Nat) : Int) := by rw [IntKind.wrap_i64]; omega
  have x5 : IntKind.i64.wrap ((b - 1 : Nat) : Int) = ((b - 1 : Nat) : Int) := by rw [IntKind.wrap_i64]; omega
  have x6 : ((b : Int) - 1) = ((b - 1 : Nat) : Int) := by omega
  have lt : (dg (2 ^ (b - 1))).length ≤ 501 := len_two (by omega)
  have ln : (dg (2 ^ b)).length ≤ 501 := len_two (by omega)
  have HL := Lib.hid (cmpI_le0 hb2)
  have HR := Lib.hid (cmpI_lt2 hb3)
  obtain ⟨m, hm1, hm2⟩ := twos_odd ha hz.out
  have HM1 := Lib.hid hm1
  have HM2 := Lib.hid hm2
  have lo : (dg (2 * m + 1)).length ≤ 500 := lenle (by rw [← hm1]; exact Nat.div_le_self _ _) f1
  have hl2 : (dg ((2 * m + 1) * 2 ^ z)).length ≤ 500 := by rw [hm2]; exact f1
  obtain ⟨cc, hcc⟩ : ∃ cc, Hid (cmpI (2 ^ (b - 1)) a = cc) := ⟨_, Lib.hid rfl⟩
  have x7 : decide (cc ≤ 0) = true := by rw [← hcc.out]; exact HL.out
  clear ha hb1 hb2 hb3 hm1 hm2 HL hz
  have h := H11.out.one 2 (by decide) (by decide)
  have H12 := Lib.hid h
  clear h H11
  go_wp2_with fail
  refine (Pow_x H12.out _ 1 1 (2) (b - 1 : Nat) (.head _) (by decide) 0 (2 ^ (b - 1)) (Lib.hid (powO_two lt (by decide)))).mono ?_
  rintro e w13 ⟨B13, j13, d13, rfl, b13, h⟩
  have H13 := Lib.hid h
  clear h H12
  have h := H13.out.one 2 (by decide) (by decide)
  have H14 := Lib.hid h
  clear h H13
  go_wp2_with fail
  refine (Pow_x H14.out _ 1 1 (2) b (.head _) (by decide) 0 (2 ^ b) (Lib.hid (powO_two ln (by decide)))).mono ?_
  rintro e w15 ⟨B15, j15, d15, rfl, b15, h⟩
  have H15 := Lib.hid h
  clear h H14
  go_wp2_with fail
  refine (Cmp_x H15.out B13 j13 d13 (2 ^ (b - 1)) A1 k1 c1 (a) (.tail _ (.tail _ (.head _))) (.tail _ (.tail _ (.tail _ (.tail _ (.tail _ (.tail _ (.tail _ (.tail _ (.tail _ (.tail _ (.tail _ (.head _)))))))))))) b13 e1 (cc) (Lib.hid (hcc.out))).mono ?_
  rintro e w16 ⟨rfl, hb⟩
  have h := H15.out.below hb
  clear hb
  have H16 := Lib.hid h
  clear h H15
  go_wp2_with fail
  refine (Cmp_x H16.out A1 k1 c1 (a) B15 j15 d15 (2 ^ b) (.tail _ (.tail _ (.tail _ (.tail _ (.tail _ (.tail _ (.tail _ (.tail _ (.tail _ (.tail _ (.tail _ (.head _)))))))))))) (.head _) e1 b15 (-1) (Lib.hid (HR.out))).mono ?_
  rintro e w17 ⟨rfl, hb⟩
  have h := H16.out.below hb
  clear hb
  have H17 := Lib.hid h
  clear h H16
  go_wp2_with fail
  refine (Shr_x H17.out A1 k1 c1 (a) z (.tail _ (.tail _ (.tail _ (.tail _ (.tail _ (.tail _ (.tail _ (.tail _ (.tail _ (.tail _ (.tail _ (.head _)))))))))))) e1 0 (2 * m + 1) (Lib.hid (by rw [shrO_le f1 (by decide), HM1.out]))).mono ?_
  rintro e w18 ⟨B18, j18, d18, rfl, b18, h⟩
  have H18 := Lib.hid h
  clear h H17
  go_wp2_with fail
  refine (Shl_x H18.out B18 j18 d18 (2 * m + 1) z (.head _) b18 0 ((2 * m + 1) * 2 ^ z) (Lib.hid (shlO_le hl2 (by decide)))).mono ?_
  rintro e w19 ⟨B19, j19, d19, rfl, b19, h⟩
  have H19 := Lib.hid h
  clear h H18
  go_wp2_with fail
  refine (sanity_at H19 HT).mono ?_
  rintro e w20 ⟨rfl, H20⟩
  clear H19
  have y2 := H20.out.pos2 (.tail _ (.head _)) (by omega)
  obtain ⟨ob, oo, rfl, hcell⟩ := H20.out.first (.tail _ (.head _)) (by omega)
  obtain ⟨x0, hx0⟩ : ∃ x0, (2 * m + 1) % 4294967296 = x0 := ⟨_, rfl⟩
  rw [hx0] at hcell
  have x8 : (x0 : Int).tmod 2 = 1 := by rw [Int.tmod_eq_emod_of_nonneg (by omega)]; omega
  clear hx0
  go_wp2_with fail
  refine (rsame_h H20.out B19 j19 d19 ((2 * m + 1) * 2 ^ z) A1 k1 c1 (a) (.head _) (.tail _ (.tail _ (.tail _ (.tail _ (.tail _ (.tail _ (.tail _ (.tail _ (.tail _ (.tail _ (.tail _ (.tail _ (.tail _ (.head _)))))))))))))) (Nat.le_trans b19 (by decide)) (Nat.le_trans e1 (by decide)) true (Lib.hid (decide_eq_true HM2.out))).mono ?_
  rintro e w21 ⟨rfl, h⟩
  have H21 := Lib.hid h
  clear h H20
  go_wp2_with fail
  go_ret
  exact ⟨rfl, H21.out.b⟩
end Go.Proofs.YtfcfejlffmddnaaGreatDoor
end
