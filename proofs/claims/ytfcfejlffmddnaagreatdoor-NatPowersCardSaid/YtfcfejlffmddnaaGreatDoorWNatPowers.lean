/- The law NatPowers: its walk. -/
import Derived.Test.YtfcfejlffmddnaaGreatDoorM13
section
/- The laws on numbers: entry, bounds. -/
namespace Go.Proofs.YtfcfejlffmddnaaGreatDoor
open Go.RowKit
set_option linter.unusedSimpArgs false
set_option linter.unusedVariables false
set_option linter.constructorNameAsVariable false

variable {w0 w : World} {l : List (Option Addr × Nat × Nat × Nat)}
theorem Lists.three (w : World) (A1 : Option Addr) (k1 c1 : Nat) (g1 : List Int) (A2 : Option Addr) (k2 c2 : Nat) (g2 : List Int) (A3 : Option Addr) (k3 c3 : Nat) (g3 : List Int) (i1 : Inp w A1 k1 c1 g1) (i2 : Inp w A2 k2 c2 g2) (i3 : Inp w A3 k3 c3 g3) :
    Lists (w.alloc (.cells #[.slice A1 k1 c1, .slice A2 k2 c2, .slice A3 k3 c3] 23)) w.heap.size 3 [(A1, k1, c1, g1), (A2, k2, c2, g2), (A3, k3, c3, g3)] := by
  refine ⟨rfl, fun j p hp => ?_, fun p hp => ?_⟩
  · rw [Lib.cell_of_heap (World.alloc_heap_new w _)]
    match j, hp with
    | 0, hp => simp at hp; subst hp; rfl
    | 1, hp => simp at hp; subst hp; rfl
    | 2, hp => simp at hp; subst hp; rfl
  · simp only [List.mem_cons, List.not_mem_nil, or_false] at hp
    rcases hp with rfl | rfl | rfl
    · exact ⟨i1.len, i1.lim, i1.rd.alloc _⟩
    · exact ⟨i2.len, i2.lim, i2.rd.alloc _⟩
    · exact ⟨i3.len, i3.lim, i3.rd.alloc _⟩
/-- A list that is a number of at most m elements. -/
def okB (m k : Nat) (g : List Int) : Bool := decide (k ≤ m) && validB g
theorem okB_num {m : Nat} {A : Option Addr} {k c : Nat} {g : List Int} (hi : Inp w A k c g) (h : okB m k g = true) : ∃ x, g = dg x ∧ k ≤ m ∧ k ≤ 1024 ∧ (dg x).length ≤ m := by
  unfold okB at h
  rw [Bool.and_eq_true] at h
  obtain ⟨x, rfl, hx⟩ := validB_num hi.ok h.2
  have h1 := of_decide_eq_true h.1
  have h2 := hi.len
  exact ⟨x, rfl, h1, by omega, by omega⟩
theorem numbers1 (m : Nat) (A1 : Option Addr) (k1 c1 : Nat) (g1 : List Int) (i1 : Inp w A1 k1 c1 g1) (b : Bool) (hb : Hid (okB m k1 g1 = b)) :
    Calls Tryz.prog 39 #[.int .i64 m, .slice (some ⟨w.heap.size, 0, none⟩) 1 1] (w.alloc (.cells #[.slice A1 k1 c1] 23)) fun e w' => e = .returned (.bool b) ∧ Hid (Has w w' []) :=
  (numbers_calls m _ 1 1 _ _ (Lists.one w A1 k1 c1 g1 i1.rd i1.len i1.lim) (by decide) b (Lib.hid (by rw [← hb.out]; simp [okB]))).mono (fun e w' ⟨he, hw⟩ => ⟨he, Lib.hid (hw ▸ (Has.nil w).alloc _)⟩)
theorem numbers2 (m : Nat) (A1 : Option Addr) (k1 c1 : Nat) (g1 : List Int) (A2 : Option Addr) (k2 c2 : Nat) (g2 : List Int) (i1 : Inp w A1 k1 c1 g1) (i2 : Inp w A2 k2 c2 g2) (b : Bool) (hb : Hid ((okB m k1 g1 && okB m k2 g2) = b)) :
    Calls Tryz.prog 39 #[.int .i64 m, .slice (some ⟨w.heap.size, 0, none⟩) 2 2] (w.alloc (.cells #[.slice A1 k1 c1, .slice A2 k2 c2] 23)) fun e w' => e = .returned (.bool b) ∧ Hid (Has w w' []) :=
  (numbers_calls m _ 2 2 _ _ (Lists.two w A1 k1 c1 g1 A2 k2 c2 g2 i1.rd i2.rd i1.len i2.len i1.lim i2.lim) (by decide) b (Lib.hid (by rw [← hb.out]; simp [okB]))).mono (fun e w' ⟨he, hw⟩ => ⟨he, Lib.hid (hw ▸ (Has.nil w).alloc _)⟩)
theorem numbers3 (m : Nat) (A1 : Option Addr) (k1 c1 : Nat) (g1 : List Int) (A2 : Option Addr) (k2 c2 : Nat) (g2 : List Int) (A3 : Option Addr) (k3 c3 : Nat) (g3 : List Int) (i1 : Inp w A1 k1 c1 g1) (i2 : Inp w A2 k2 c2 g2) (i3 : Inp w A3 k3 c3 g3) (b : Bool) (hb : Hid ((okB m k1 g1 && okB m k2 g2 && okB m k3 g3) = b)) :
    Calls Tryz.prog 39 #[.int .i64 m, .slice (some ⟨w.heap.size, 0, none⟩) 3 3] (w.alloc (.cells #[.slice A1 k1 c1, .slice A2 k2 c2, .slice A3 k3 c3] 23)) fun e w' => e = .returned (.bool b) ∧ Hid (Has w w' []) :=
  (numbers_calls m _ 3 3 _ _ (Lists.three w A1 k1 c1 g1 A2 k2 c2 g2 A3 k3 c3 g3 i1 i2 i3) (by decide) b (Lib.hid (by rw [← hb.out]; simp [okB, Bool.and_assoc]))).mono (fun e w' ⟨he, hw⟩ => ⟨he, Lib.hid (hw ▸ (Has.nil w).alloc _)⟩)
theorem Inp.has {A : Option Addr} {k c x : Nat} (h : Inp w A k c (dg x)) (H : Has w0 w l) : Has w0 w ((A, k, c, x) :: l) := H.cons h.rd h.len h.cap h.capm
theorem lenadd {x y i j : Nat} (hx : (dg x).length ≤ i) (hy : (dg y).length ≤ j) : (dg (x + y)).length ≤ i + j + 1 := by
  refine len_of_lt ?_
  have h1 := lt_of_len hx
  have h2 := lt_of_len hy
  have h3 : 4294967296 ^ i ≤ 4294967296 ^ (i + j) := Nat.pow_le_pow_right (by decide) (by omega)
  have h4 : 4294967296 ^ j ≤ 4294967296 ^ (i + j) := Nat.pow_le_pow_right (by decide) (by omega)
  rw [Nat.pow_succ]
  omega
theorem lenmul {x y i j : Nat} (hx : (dg x).length ≤ i) (hy : (dg y).length ≤ j) : (dg (x * y)).length ≤ i + j := by
  refine len_of_lt ?_
  rw [Nat.pow_add]
  exact Nat.mul_lt_mul'' (lt_of_len hx) (lt_of_len hy)
theorem lenle {x y i : Nat} (h : x ≤ y) (hy : (dg y).length ≤ i) : (dg x).length ≤ i := len_of_lt (Nat.lt_of_le_of_lt h (lt_of_len hy))
theorem subO_add {a b : Nat} (h : (dg a).length ≤ 1024) : subO (a + b) b = (0, a) := by
  unfold subO
  rw [if_neg (by omega), Nat.add_sub_cancel, giv_ok h]
theorem giv_le {n i : Nat} (h : (dg n).length ≤ i) (hi : i ≤ 1024) : giv n = (0, n) := giv_ok (Nat.le_trans h hi)
theorem len_zero : (dg 0).length ≤ 0 := by rw [dg_zero]; exact Nat.le_refl _
theorem len_lit {n : Nat} (h : n < 4294967296 ^ 1) : (dg n).length ≤ 1 := len_of_lt h
end Go.Proofs.YtfcfejlffmddnaaGreatDoor
end
section
/- The law NatPowers. -/
namespace Go.Proofs.YtfcfejlffmddnaaGreatDoor
open Go.RowKit
set_option linter.unusedSimpArgs false
set_option linter.unusedVariables false
set_option linter.constructorNameAsVariable false

variable {w0 w : World} {l : List (Option Addr × Nat × Nat × Nat)}
theorem wf_u8 {n : Int} (h : (Lit.int .u8 n).wf = true) : ∃ r : Nat, n = r ∧ r < 256 := by
  simp [Lit.wf, IntKind.min, IntKind.max, IntKind.signed, IntKind.bits] at h
  exact ⟨n.toNat, by omega, by omega⟩
theorem powO_nat (a i : Nat) : powO a (i : Int) = giv (a ^ i) := by unfold powO; rw [if_neg (by omega), Int.toNat_natCast]
theorem lenpow {x i j n : Nat} (hx : (dg x).length ≤ j) (hi : i ≤ n) : (dg (x ^ i)).length ≤ j * n + 1 := by
  refine len_of_lt ?_
  have h1 := lt_of_len hx
  have h2 : x ^ i ≤ (4294967296 ^ j) ^ i := Nat.pow_le_pow_left (Nat.le_of_lt h1) i
  have h3 : (4294967296 ^ j) ^ i ≤ (4294967296 ^ j) ^ n := Nat.pow_le_pow_right (Nat.pow_pos (by decide)) hi
  refine Nat.lt_of_le_of_lt (Nat.le_trans h2 h3) ?_
  rw [← Nat.pow_mul]
  exact Nat.pow_lt_pow_right (by decide) (by omega)
theorem powO_le {a i j : Nat} (h : (dg (a ^ i)).length ≤ j) (hj : j ≤ 1024) : powO a (i : Int) = (0, a ^ i) := by rw [powO_nat, giv_le h hj]
theorem cmpI_lt' {a b : Nat} (h : a < b) : cmpI a b = -1 := if_pos h
theorem root_self {r k a : Nat} (hk : 0 < k) (h : r ^ k ≤ a ^ k ∧ a ^ k < (r + 1) ^ k) : r = a := root_unique h ⟨Nat.le_refl _, Nat.pow_lt_pow_left (by omega) (by omega)⟩
theorem root_below {r k b : Nat} (hk : 0 < k) (h : r ^ k ≤ b) : r ≤ b := Nat.le_trans (Nat.le_self_pow (by omega) r) h
variable {w0 w : World} {l : List (Option Addr × Nat × Nat × Nat)}
theorem Has.void (H : Has w0 w l) {A : Option Addr} {k c n : Nat} (h : (A, k, c, n) ∈ l) (hn : n = 0) : k = 0 := by subst hn; exact H.none h
set_option maxRecDepth 100000 in
set_option maxHeartbeats 4000000 in
theorem powers_calls (w : World) (hT : Tabs w) (A1 : Option Addr) (k1 c1 : Nat) (g1 : List Int) (A2 : Option Addr) (k2 c2 : Nat) (g2 : List Int) (i1 : Inp w A1 k1 c1 g1) (i2 : Inp w A2 k2 c2 g2) (m n : Int) (wm : (Lit.int .u8 m).wf = true) (wn : (Lit.int .u8 n).wf = true) :
    Calls Tryz.prog 13 #[.slice A1 k1 c1, .slice A2 k2 c2, .int .u8 m, .int .u8 n] w (True1 w) := by
  have HT := Lib.hid hT
  have I1 := Lib.hid i1
  have I2 := Lib.hid i2
  have H0 := Lib.hid (Has.nil w)
  clear hT i1 i2
  cases q : (okB 20 k1 g1 && okB 20 k2 g2)
  case false =>
    go_enter Tryz.func13, Tryz.ntmps13
    go_wp2_with fail
    refine (numbers2 20 A1 k1 c1 g1 A2 k2 c2 g2 I1.out I2.out false (Lib.hid q)).mono ?_
    rintro e w1 ⟨rfl, H1⟩
    go_wp2_with fail
    refine (sanity_at H1 HT).mono ?_
    rintro e w2 ⟨rfl, H2⟩
    clear H1
    go_wp2_with fail
    go_ret
    exact ⟨rfl, H2.out.b⟩
  have HN := Lib.hid (numbers2 20 A1 k1 c1 g1 A2 k2 c2 g2 I1.out I2.out true (Lib.hid q))
  rw [Bool.and_eq_true] at q
  obtain ⟨a, rfl, m1, e1, f1⟩ := okB_num I1.out q.1
  obtain ⟨b, rfl, m2, e2, f2⟩ := okB_num I2.out q.2
  clear q
  obtain ⟨m, rfl, hm⟩ := wf_u8 wm
  obtain ⟨n, rfl, hn⟩ := wf_u8 wn
  obtain ⟨i, hi⟩ : ∃ i, i = m % 20 := ⟨_, rfl⟩
  obtain ⟨k, hk⟩ : ∃ k, k = n % 20 := ⟨_, rfl⟩
  have li : i < 20 := by omega
  have lk : k < 20 := by omega
  have x1 : IntKind.i64.wrap (m : Int) = m := by rw [IntKind.wrap_i64]; omega
  have x2 : IntKind.i64.wrap (n : Int) = n := by rw [IntKind.wrap_i64]; omega
  have x3 : (m : Int).tmod 20 = (i : Int) := by rw [hi, Int.tmod_eq_emod_of_nonneg (by omega)]; omega
  have x4 : (n : Int).tmod 20 = (k : Int) := by rw [hk, Int.tmod_eq_emod_of_nonneg (by omega)]; omega
  have x5 : IntKind.i64.wrap (i : Int) = i := by rw [IntKind.wrap_i64]; omega
  have x6 : IntKind.i64.wrap (k : Int) = k := by rw [IntKind.wrap_i64]; omega
  have x7 : IntKind.i64.wrap ((i : Int) + (k : Int)) = ((i + k : Nat) : Int) := by rw [IntKind.wrap_i64]; omega
  have x8 : IntKind.i64.wrap ((k : Int) + 1) = ((k + 1 : Nat) : Int) := by rw [IntKind.wrap_i64]; omega
  have lx : (dg (a ^ i)).length ≤ 401 := lenpow f1 (by omega : i ≤ 20)
  have ly : (dg (a ^ k)).length ≤ 401 := lenpow f1 (by omega : k ≤ 20)
  have lz : (dg (a ^ (i + k))).length ≤ 801 := lenpow f1 (by omega : i + k ≤ 40)
  have lw : (dg (b ^ k)).length ≤ 401 := lenpow f2 (by omega : k ≤ 20)
  have ll : (dg ((a * b) ^ k)).length ≤ 801 := lenpow (lenmul f1 f2) (by omega : k ≤ 20)
  clear hi hk wm wn
  go_enter Tryz.func13, Tryz.ntmps13
  go_wp2_with fail
  refine HN.out.mono ?_
  rintro e w1 ⟨rfl, h0⟩
  have h := ((I2.out.below h0.out.b).has (((I1.out.below h0.out.b).has (h0.out))))
  clear h0 HN
  have H1 := Lib.hid h
  clear h H0
  go_wp2_with fail
  refine (Pow_x H1.out A1 k1 c1 (a) i (.tail _ (.head _)) e1 0 (a ^ i) (Lib.hid (powO_le lx (by decide)))).mono ?_
  rintro e w2 ⟨B2, j2, d2, rfl, b2, h⟩
  have H2 := Lib.hid h
  clear h H1
  go_wp2_with fail
  refine (Pow_x H2.out A1 k1 c1 (a) k (.tail _ (.tail _ (.head _))) e1 0 (a ^ k) (Lib.hid (powO_le ly (by decide)))).mono ?_
  rintro e w3 ⟨B3, j3, d3, rfl, b3, h⟩
  have H3 := Lib.hid h
  clear h H2
  go_wp2_with fail
  refine (Pow_x H3.out A1 k1 c1 (a) (i + k : Nat) (.tail _ (.tail _ (.tail _ (.head _)))) e1 0 (a ^ (i + k)) (Lib.hid (powO_le lz (by decide)))).mono ?_
  rintro e w4 ⟨B4, j4, d4, rfl, b4, h⟩
  have H4 := Lib.hid h
  clear h H3
  go_wp2_with fail
  refine (Mul_x H4.out B2 j2 d2 (a ^ i) B3 j3 d3 (a ^ k) (.tail _ (.tail _ (.head _))) (.tail _ (.head _)) b2 b3 0 ((a ^ i) * (a ^ k)) (Lib.hid (giv_le (i := 802) (lenmul (lx) (ly)) (by decide)))).mono ?_
  rintro e w5 ⟨B5, j5, d5, rfl, b5, h⟩
  have H5 := Lib.hid h
  clear h H4
  go_wp2_with fail
  refine (rsame_h H5.out B5 j5 d5 ((a ^ i) * (a ^ k)) B4 j4 d4 (a ^ (i + k)) (.head _) (.tail _ (.head _)) (Nat.le_trans b5 (by decide)) (Nat.le_trans b4 (by decide)) true (Lib.hid (decide_eq_true (Nat.pow_add a i k).symm))).mono ?_
  rintro e w6 ⟨rfl, h⟩
  have H6 := Lib.hid h
  clear h H5
  go_wp2_with fail
  refine (Mul_x H6.out A1 k1 c1 (a) A2 k2 c2 (b) (.tail _ (.tail _ (.tail _ (.tail _ (.tail _ (.head _)))))) (.tail _ (.tail _ (.tail _ (.tail _ (.head _))))) e1 e2 0 (a * b) (Lib.hid (giv_le (i := 40) (lenmul (f1) (f2)) (by decide)))).mono ?_
  rintro e w7 ⟨B7, j7, d7, rfl, b7, h⟩
  have H7 := Lib.hid h
  clear h H6
  go_wp2_with fail
  refine (Pow_x H7.out B7 j7 d7 (a * b) k (.head _) b7 0 ((a * b) ^ k) (Lib.hid (powO_le ll (by decide)))).mono ?_
  rintro e w8 ⟨B8, j8, d8, rfl, b8, h⟩
  have H8 := Lib.hid h
  clear h H7
  go_wp2_with fail
  refine (Pow_x H8.out A2 k2 c2 (b) k (.tail _ (.tail _ (.tail _ (.tail _ (.tail _ (.tail _ (.head _))))))) e2 0 (b ^ k) (Lib.hid (powO_le lw (by decide)))).mono ?_
  rintro e w9 ⟨B9, j9, d9, rfl, b9, h⟩
  have H9 := Lib.hid h
  clear h H8
  go_wp2_with fail
  refine (Mul_x H9.out B3 j3 d3 (a ^ k) B9 j9 d9 (b ^ k) (.tail _ (.tail _ (.tail _ (.tail _ (.tail _ (.head _)))))) (.head _) b3 b9 0 ((a ^ k) * (b ^ k)) (Lib.hid (giv_le (i := 802) (lenmul (ly) (lw)) (by decide)))).mono ?_
  rintro e w10 ⟨B10, j10, d10, rfl, b10, h⟩
  have H10 := Lib.hid h
  clear h H9
  go_wp2_with fail
  refine (rsame_h H10.out B8 j8 d8 ((a * b) ^ k) B10 j10 d10 ((a ^ k) * (b ^ k)) (.tail _ (.tail _ (.head _))) (.head _) (Nat.le_trans b8 (by decide)) (Nat.le_trans b10 (by decide)) true (Lib.hid (decide_eq_true (Nat.mul_pow a b k)))).mono ?_
  rintro e w11 ⟨rfl, h⟩
  have H11 := Lib.hid h
  clear h H10
  by_cases hk0 : 0 < k
  case neg =>
    go_wp2_with fail
    refine (Root_x H11.out A2 k2 c2 (b) (k + 1) (.tail _ (.tail _ (.tail _ (.tail _ (.tail _ (.tail _ (.tail _ (.tail _ (.head _))))))))) e2 (by omega) (by omega)).mono ?_
    rintro e w12 ⟨u, hu, B12, j12, d12, B12', j12', d12', rfl, b12, b12', h⟩
    have H12 := Lib.hid h
    clear h H11
    have HU := Lib.hid (root_below (by omega) hu.out.1)
    have HE := Lib.hid (Nat.add_sub_of_le hu.out.1)
    have lp : (dg (u ^ (k + 1))).length ≤ 20 := lenle hu.out.1 f2
    have lu : (dg u).length ≤ 20 := lenle HU.out f2
    have lr : (dg (b - u ^ (k + 1))).length ≤ 20 := lenle (Nat.sub_le _ _) f2
    have lq : (dg ((u + 1) ^ (k + 1))).length ≤ 441 := lenpow (lenadd lu (len_lit (by decide))) (by omega : k + 1 ≤ 20)
    go_wp2_with fail
    refine (Pow_x H12.out B12 j12 d12 (u) (k + 1 : Nat) (.head _) b12 0 (u ^ (k + 1)) (Lib.hid (powO_le lp (by decide)))).mono ?_
    rintro e w13 ⟨B13, j13, d13, rfl, b13, h⟩
    have H13 := Lib.hid h
    clear h H12
    go_wp2_with fail
    refine (Add_x H13.out B13 j13 d13 (u ^ (k + 1)) B12' j12' d12' (b - u ^ (k + 1)) (.head _) (.tail _ (.tail _ (.head _))) b13 b12' 0 ((u ^ (k + 1)) + (b - u ^ (k + 1))) (Lib.hid (giv_le (i := 41) (lenadd (lp) (lr)) (by decide)))).mono ?_
    rintro e w14 ⟨B14, j14, d14, rfl, b14, h⟩
    have H14 := Lib.hid h
    clear h H13
    have h := H14.out.one 1 (by decide) (by decide)
    have H15 := Lib.hid h
    clear h H14
    go_wp2_with fail
    refine (Add_x H15.out B12 j12 d12 (u) _ 1 1 (1) (.tail _ (.tail _ (.tail _ (.head _)))) (.head _) b12 (by decide) 0 (u + 1) (Lib.hid (giv_le (i := 22) (lenadd (lu) (len_lit (by decide))) (by decide)))).mono ?_
    rintro e w16 ⟨B16, j16, d16, rfl, b16, h⟩
    have H16 := Lib.hid h
    clear h H15
    go_wp2_with fail
    refine (rsame_h H16.out B14 j14 d14 ((u ^ (k + 1)) + (b - u ^ (k + 1))) A2 k2 c2 (b) (.tail _ (.tail _ (.head _))) (.tail _ (.tail _ (.tail _ (.tail _ (.tail _ (.tail _ (.tail _ (.tail _ (.tail _ (.tail _ (.tail _ (.tail _ (.tail _ (.tail _ (.head _))))))))))))))) (Nat.le_trans b14 (by decide)) (Nat.le_trans e2 (by decide)) true (Lib.hid (decide_eq_true HE.out))).mono ?_
    rintro e w17 ⟨rfl, h⟩
    have H17 := Lib.hid h
    clear h H16
    go_wp2_with fail
    refine (Pow_x H17.out B16 j16 d16 (u + 1) (k + 1 : Nat) (.head _) b16 0 ((u + 1) ^ (k + 1)) (Lib.hid (powO_le lq (by decide)))).mono ?_
    rintro e w18 ⟨B18, j18, d18, rfl, b18, h⟩
    have H18 := Lib.hid h
    clear h H17
    go_wp2_with fail
    refine (Cmp_x H18.out A2 k2 c2 (b) B18 j18 d18 ((u + 1) ^ (k + 1)) (.tail _ (.tail _ (.tail _ (.tail _ (.tail _ (.tail _ (.tail _ (.tail _ (.tail _ (.tail _ (.tail _ (.tail _ (.tail _ (.tail _ (.tail _ (.head _)))))))))))))))) (.head _) e2 b18 (-1) (Lib.hid (cmpI_lt' hu.out.2))).mono ?_
    rintro e w19 ⟨rfl, hb⟩
    have h := H18.out.below hb
    clear hb
    have H19 := Lib.hid h
    clear h H18
    go_wp2_with fail
    refine (sanity_at H19 HT).mono ?_
    rintro e w20 ⟨rfl, H20⟩
    clear H19
    go_wp2_with fail
    go_ret
    exact ⟨rfl, H20.out.b⟩
  have HK := Lib.hid hk0
  go_wp2_with fail
  refine (Root_x H11.out B3 j3 d3 (a ^ k) (k) (.tail _ (.tail _ (.tail _ (.tail _ (.tail _ (.tail _ (.head _))))))) b3 HK.out (by omega)).mono ?_
  rintro e w12 ⟨v, hv, B12, j12, d12, B12', j12', d12', rfl, b12, b12', h⟩
  have H12 := Lib.hid h
  clear h H11
  obtain rfl := (root_self HK.out hv.out).symm
  obtain rfl := H12.out.void (.tail _ (.head _)) (Nat.sub_self _)
  go_wp2_with fail
  refine (rsame_h H12.out B12 j12 d12 (a) A1 k1 c1 (a) (.head _) (.tail _ (.tail _ (.tail _ (.tail _ (.tail _ (.tail _ (.tail _ (.tail _ (.tail _ (.tail _ (.tail _ (.head _)))))))))))) (Nat.le_trans b12 (by decide)) (Nat.le_trans e1 (by decide)) true (Lib.hid (decide_eq_true rfl))).mono ?_
  rintro e w13 ⟨rfl, h⟩
  have H13 := Lib.hid h
  clear h H12
  go_wp2_with fail
  refine (Root_x H13.out A2 k2 c2 (b) (k + 1) (.tail _ (.tail _ (.tail _ (.tail _ (.tail _ (.tail _ (.tail _ (.tail _ (.tail _ (.tail _ (.head _))))))))))) e2 (by omega) (by omega)).mono ?_
  rintro e w14 ⟨u, hu, B14, j14, d14, B14', j14', d14', rfl, b14, b14', h⟩
  have H14 := Lib.hid h
  clear h H13
  have HU := Lib.hid (root_below (by omega) hu.out.1)
  have HE := Lib.hid (Nat.add_sub_of_le hu.out.1)
  have lp : (dg (u ^ (k + 1))).length ≤ 20 := lenle hu.out.1 f2
  have lu : (dg u).length ≤ 20 := lenle HU.out f2
  have lr : (dg (b - u ^ (k + 1))).length ≤ 20 := lenle (Nat.sub_le _ _) f2
  have lq : (dg ((u + 1) ^ (k + 1))).length ≤ 441 := lenpow (lenadd lu (len_lit (by decide))) (by omega : k + 1 ≤ 20)
  go_wp2_with fail
  refine (Pow_x H14.out B14 j14 d14 (u) (k + 1 : Nat) (.head _) b14 0 (u ^ (k + 1)) (Lib.hid (powO_le lp (by decide)))).mono ?_
  rintro e w15 ⟨B15, j15, d15, rfl, b15, h⟩
  have H15 := Lib.hid h
  clear h H14
  go_wp2_with fail
  refine (Add_x H15.out B15 j15 d15 (u ^ (k + 1)) B14' j14' d14' (b - u ^ (k + 1)) (.head _) (.tail _ (.tail _ (.head _))) b15 b14' 0 ((u ^ (k + 1)) + (b - u ^ (k + 1))) (Lib.hid (giv_le (i := 41) (lenadd (lp) (lr)) (by decide)))).mono ?_
  rintro e w16 ⟨B16, j16, d16, rfl, b16, h⟩
  have H16 := Lib.hid h
  clear h H15
  have h := H16.out.one 1 (by decide) (by decide)
  have H17 := Lib.hid h
  clear h H16
  go_wp2_with fail
  refine (Add_x H17.out B14 j14 d14 (u) _ 1 1 (1) (.tail _ (.tail _ (.tail _ (.head _)))) (.head _) b14 (by decide) 0 (u + 1) (Lib.hid (giv_le (i := 22) (lenadd (lu) (len_lit (by decide))) (by decide)))).mono ?_
  rintro e w18 ⟨B18, j18, d18, rfl, b18, h⟩
  have H18 := Lib.hid h
  clear h H17
  go_wp2_with fail
  refine (rsame_h H18.out B16 j16 d16 ((u ^ (k + 1)) + (b - u ^ (k + 1))) A2 k2 c2 (b) (.tail _ (.tail _ (.head _))) (.tail _ (.tail _ (.tail _ (.tail _ (.tail _ (.tail _ (.tail _ (.tail _ (.tail _ (.tail _ (.tail _ (.tail _ (.tail _ (.tail _ (.tail _ (.tail _ (.head _))))))))))))))))) (Nat.le_trans b16 (by decide)) (Nat.le_trans e2 (by decide)) true (Lib.hid (decide_eq_true HE.out))).mono ?_
  rintro e w19 ⟨rfl, h⟩
  have H19 := Lib.hid h
  clear h H18
  go_wp2_with fail
  refine (Pow_x H19.out B18 j18 d18 (u + 1) (k + 1 : Nat) (.head _) b18 0 ((u + 1) ^ (k + 1)) (Lib.hid (powO_le lq (by decide)))).mono ?_
  rintro e w20 ⟨B20, j20, d20, rfl, b20, h⟩
  have H20 := Lib.hid h
  clear h H19
  go_wp2_with fail
  refine (Cmp_x H20.out A2 k2 c2 (b) B20 j20 d20 ((u + 1) ^ (k + 1)) (.tail _ (.tail _ (.tail _ (.tail _ (.tail _ (.tail _ (.tail _ (.tail _ (.tail _ (.tail _ (.tail _ (.tail _ (.tail _ (.tail _ (.tail _ (.tail _ (.tail _ (.head _)))))))))))))))))) (.head _) e2 b20 (-1) (Lib.hid (cmpI_lt' hu.out.2))).mono ?_
  rintro e w21 ⟨rfl, hb⟩
  have h := H20.out.below hb
  clear hb
  have H21 := Lib.hid h
  clear h H20
  go_wp2_with fail
  refine (sanity_at H21 HT).mono ?_
  rintro e w22 ⟨rfl, H22⟩
  clear H21
  go_wp2_with fail
  go_ret
  exact ⟨rfl, H22.out.b⟩
end Go.Proofs.YtfcfejlffmddnaaGreatDoor
end
