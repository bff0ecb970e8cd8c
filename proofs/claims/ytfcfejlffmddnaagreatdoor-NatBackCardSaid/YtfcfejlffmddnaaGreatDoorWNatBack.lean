/- The law NatBack: its walk. -/
import Derived.Test.YtfcfejlffmddnaaGreatDoorM13
import Derived.Lib.SlBytesRow
section
/- The laws on numbers: entry, bounds. -/
namespace Go.Proofs.YtfcfejlffmddnaaGreatDoor
open Go.RowKit
set_option linter.unusedSimpArgs false
set_option linter.unusedVariables false
set_option linter.constructorNameAsVariable false

variable {w0 w : World} {l : List (Option Addr × Nat × Nat × Nat)}
theorem Lists.three (w : World) (A1 : Option Addr) (k1 c1 : Nat) (g1 : List Int) (A2 : Option Addr) (k2 c2 : Nat) (g2 : List Int) (A3 : Option Addr) (k3 c3 : Nat) (g3 : List Int) (i1 : Inp w A1 k1 c1 g1) (i2 : Inp w A2 k2 c2 g2) (i3 : Inp w A3 k3 c3 g3) :
    Lists (w.alloc (.cells #[.slice A1 k1 c1, .slice A2 k2 c2, .slice A3 k3 c3] 23)) w.heap.size 3 [(A1, k1, c1, g1), (A2, k2, c2, g2), (A3, k3, c3, g3)] := by
  refine ⟨rfl, fun j p hp => ?_, fun p hp => ?_⟩
  · rw [Lib.cell_of_heap (World.alloc_heap_new w _)]
    match j, hp with
    | 0, hp => simp at hp; subst hp; rfl
    | 1, hp => simp at hp; subst hp; rfl
    | 2, hp => simp at hp; subst hp; rfl
  · simp only [List.mem_cons, List.not_mem_nil, or_false] at hp
    rcases hp with rfl | rfl | rfl
    · exact ⟨i1.len, i1.lim, i1.rd.alloc _⟩
    · exact ⟨i2.len, i2.lim, i2.rd.alloc _⟩
    · exact ⟨i3.len, i3.lim, i3.rd.alloc _⟩
/-- A list that is a number of at most m elements. -/
def okB (m k : Nat) (g : List Int) : Bool := decide (k ≤ m) && validB g
theorem okB_num {m : Nat} {A : Option Addr} {k c : Nat} {g : List Int} (hi : Inp w A k c g) (h : okB m k g = true) : ∃ x, g = dg x ∧ k ≤ m ∧ k ≤ 1024 ∧ (dg x).length ≤ m := by
  unfold okB at h
  rw [Bool.and_eq_true] at h
  obtain ⟨x, rfl, hx⟩ := validB_num hi.ok h.2
  have h1 := of_decide_eq_true h.1
  have h2 := hi.len
  exact ⟨x, rfl, h1, by omega, by omega⟩
theorem numbers1 (m : Nat) (A1 : Option Addr) (k1 c1 : Nat) (g1 : List Int) (i1 : Inp w A1 k1 c1 g1) (b : Bool) (hb : Hid (okB m k1 g1 = b)) :
    Calls Tryz.prog 39 #[.int .i64 m, .slice (some ⟨w.heap.size, 0, none⟩) 1 1] (w.alloc (.cells #[.slice A1 k1 c1] 23)) fun e w' => e = .returned (.bool b) ∧ Hid (Has w w' []) :=
  (numbers_calls m _ 1 1 _ _ (Lists.one w A1 k1 c1 g1 i1.rd i1.len i1.lim) (by decide) b (Lib.hid (by rw [← hb.out]; simp [okB]))).mono (fun e w' ⟨he, hw⟩ => ⟨he, Lib.hid (hw ▸ (Has.nil w).alloc _)⟩)
theorem numbers2 (m : Nat) (A1 : Option Addr) (k1 c1 : Nat) (g1 : List Int) (A2 : Option Addr) (k2 c2 : Nat) (g2 : List Int) (i1 : Inp w A1 k1 c1 g1) (i2 : Inp w A2 k2 c2 g2) (b : Bool) (hb : Hid ((okB m k1 g1 && okB m k2 g2) = b)) :
    Calls Tryz.prog 39 #[.int .i64 m, .slice (some ⟨w.heap.size, 0, none⟩) 2 2] (w.alloc (.cells #[.slice A1 k1 c1, .slice A2 k2 c2] 23)) fun e w' => e = .returned (.bool b) ∧ Hid (Has w w' []) :=
  (numbers_calls m _ 2 2 _ _ (Lists.two w A1 k1 c1 g1 A2 k2 c2 g2 i1.rd i2.rd i1.len i2.len i1.lim i2.lim) (by decide) b (Lib.hid (by rw [← hb.out]; simp [okB]))).mono (fun e w' ⟨he, hw⟩ => ⟨he, Lib.hid (hw ▸ (Has.nil w).alloc _)⟩)
theorem numbers3 (m : Nat) (A1 : Option Addr) (k1 c1 : Nat) (g1 : List Int) (A2 : Option Addr) (k2 c2 : Nat) (g2 : List Int) (A3 : Option Addr) (k3 c3 : Nat) (g3 : List Int) (i1 : Inp w A1 k1 c1 g1) (i2 : Inp w A2 k2 c2 g2) (i3 : Inp w A3 k3 c3 g3) (b : Bool) (hb : Hid ((okB m k1 g1 && okB m k2 g2 && okB m k3 g3) = b)) :
    Calls Tryz.prog 39 #[.int .i64 m, .slice (some ⟨w.heap.size, 0, none⟩) 3 3] (w.alloc (.cells #[.slice A1 k1 c1, .slice A2 k2 c2, .slice A3 k3 c3] 23)) fun e w' => e = .returned (.bool b) ∧ Hid (Has w w' []) :=
  (numbers_calls m _ 3 3 _ _ (Lists.three w A1 k1 c1 g1 A2 k2 c2 g2 A3 k3 c3 g3 i1 i2 i3) (by decide) b (Lib.hid (by rw [← hb.out]; simp [okB, Bool.and_assoc]))).mono (fun e w' ⟨he, hw⟩ => ⟨he, Lib.hid (hw ▸ (Has.nil w).alloc _)⟩)
theorem Inp.has {A : Option Addr} {k c x : Nat} (h : Inp w A k c (dg x)) (H : Has w0 w l) : Has w0 w ((A, k, c, x) :: l) := H.cons h.rd h.len h.cap h.capm
theorem lenadd {x y i j : Nat} (hx : (dg x).length ≤ i) (hy : (dg y).length ≤ j) : (dg (x + y)).length ≤ i + j + 1 := by
  refine len_of_lt ?_
  have h1 := lt_of_len hx
  have h2 := lt_of_len hy
  have h3 : 4294967296 ^ i ≤ 4294967296 ^ (i + j) := Nat.pow_le_pow_right (by decide) (by omega)
  have h4 : 4294967296 ^ j ≤ 4294967296 ^ (i + j) := Nat.pow_le_pow_right (by decide) (by omega)
  rw [Nat.pow_succ]
  omega
theorem lenmul {x y i j : Nat} (hx : (dg x).length ≤ i) (hy : (dg y).length ≤ j) : (dg (x * y)).length ≤ i + j := by
  refine len_of_lt ?_
  rw [Nat.pow_add]
  exact Nat.mul_lt_mul'' (lt_of_len hx) (lt_of_len hy)
theorem lenle {x y i : Nat} (h : x ≤ y) (hy : (dg y).length ≤ i) : (dg x).length ≤ i := len_of_lt (Nat.lt_of_le_of_lt h (lt_of_len hy))
theorem subO_add {a b : Nat} (h : (dg a).length ≤ 1024) : subO (a + b) b = (0, a) := by
  unfold subO
  rw [if_neg (by omega), Nat.add_sub_cancel, giv_ok h]
theorem giv_le {n i : Nat} (h : (dg n).length ≤ i) (hi : i ≤ 1024) : giv n = (0, n) := giv_ok (Nat.le_trans h hi)
theorem len_zero : (dg 0).length ≤ 0 := by rw [dg_zero]; exact Nat.le_refl _
theorem len_lit {n : Nat} (h : n < 4294967296 ^ 1) : (dg n).length ≤ 1 := len_of_lt h
end Go.Proofs.YtfcfejlffmddnaaGreatDoor
end
section
/- Numerals read back. -/
namespace Go.Proofs.YtfcfejlffmddnaaGreatDoor
open Go.RowKit
set_option linter.unusedSimpArgs false
set_option linter.unusedVariables false
set_option linter.constructorNameAsVariable false

theorem u8_digit {d : Nat} (h : d < 10) : (UInt8.ofNat (48 + d)).toNat = 48 + d := by
  rw [UInt8.toNat_ofNat']; omega
theorem isDg_digit {d : Nat} (h : d < 10) : isDg (UInt8.ofNat (48 + d)) = true := by
  unfold isDg; rw [u8_digit h]; exact decide_eq_true (by omega)
theorem dec_spec (u : Nat) : (Lib.decDigits u).all isDg = true ∧ vd (Lib.decDigits u) = u ∧ Lib.decDigits u ≠ [] ∧ (u ≠ 0 → (Lib.decDigits u).head? ≠ some 48) := by
  induction u using Nat.strongRecOn with
  | _ u ih =>
    by_cases h : u < 10
    · rw [Lib.decDigits_one h]
      refine ⟨by rw [List.all_cons, List.all_nil, isDg_digit h]; rfl, by rw [show ∀ x : UInt8, [x] = [] ++ [x] from fun _ => rfl, vd_snoc, u8_digit h]; simp [vd], by simp, fun h0 he => ?_⟩
      have h1 : UInt8.ofNat (48 + u) = 48 := by simpa using he
      have h2 := congrArg UInt8.toNat h1
      rw [u8_digit h] at h2
      have : (48 : UInt8).toNat = 48 := rfl
      omega
    · obtain ⟨i1, i2, i3, i4⟩ := ih (u / 10) (by omega)
      have hd : u % 10 < 10 := Nat.mod_lt _ (by decide)
      rw [dec_big h]
      refine ⟨by rw [List.all_append, i1, List.all_cons, List.all_nil, isDg_digit hd]; rfl, ?_, by simp, fun h0 => ?_⟩
      · rw [vd_snoc, i2, u8_digit hd]; omega
      · have := i4 (by omega)
        cases hl : Lib.decDigits (u / 10) with
        | nil => exact absurd hl i3
        | cons x xs => rw [hl] at this; simpa using this
theorem dec_size {a : Nat} (h : (dg a).length ≤ 1024) : (Lib.decDigits a).length ≤ 10240 := by
  rw [Lib.decDigits_length]
  obtain ⟨k, hk⟩ : ∃ k, k = 1024 := ⟨_, rfl⟩
  rw [← hk] at h
  have h1 := lt_of_len h
  have h2 : 4294967296 ^ k ≤ (10 ^ 10) ^ k := Nat.pow_le_pow_left (by decide) k
  rw [← Nat.pow_mul] at h2
  have h3 := (pad_dec (10 * k) a (by omega) (Nat.lt_of_lt_of_le h1 h2)).2
  omega
theorem parO_dec {a : Nat} (h : (dg a).length ≤ 1024) : parO (Lib.decDigits a) = (0, a) := by
  obtain ⟨d1, d2, d3, d4⟩ := dec_spec a
  have hl := dec_size h
  have hf : formB (Lib.decDigits a) = true := by
    unfold formB
    rw [d1, decide_eq_true d3]
    by_cases h0 : a = 0
    · subst h0; rw [Lib.decDigits_one (by decide)]; decide
    · rw [decide_eq_true (d4 h0)]; simp
  unfold parO
  rw [if_neg (by omega), if_pos hf, d2, giv_ok h]
theorem dec_next {a d : Nat} (ha : a ≠ 0) (hd : d < 10) : S (Lib.decDigits (a * 10 + d)) = S (Lib.decDigits a) ++ S [UInt8.ofNat (48 + d)] := by
  rw [dec_big (by omega), show (a * 10 + d) / 10 = a by omega, show (a * 10 + d) % 10 = d by omega]
  symm
  apply S_of
  rw [L_append, L_S, L_S]
end Go.Proofs.YtfcfejlffmddnaaGreatDoor
end
section
/- The law NatBack. -/
namespace Go.Proofs.YtfcfejlffmddnaaGreatDoor
open Go.RowKit
set_option linter.unusedSimpArgs false
set_option linter.unusedVariables false
set_option linter.constructorNameAsVariable false

variable {w0 w : World} {l : List (Option Addr × Nat × Nat × Nat)}
theorem wf_u8' {n : Int} (h : (Lit.int .u8 n).wf = true) : ∃ r : Nat, n = r ∧ r < 256 := by
  simp [Lit.wf, IntKind.min, IntKind.max, IntKind.signed, IntKind.bits] at h
  exact ⟨n.toNat, by omega, by omega⟩
theorem giv_two (n : Nat) : giv n = (0, n) ∧ (dg n).length ≤ 1024 ∨ giv n = (2, 0) := by
  by_cases h : (dg n).length ≤ 1024
  · exact Or.inl ⟨giv_ok h, h⟩
  · exact Or.inr (giv_no h)
theorem back_cases {a d : Nat} {f g : Int} {tn sn : Nat} (h1 : giv (a * 10) = (f, tn)) (h2 : giv (tn + d) = (g, sn)) : f = 2 ∨ (f = 0 ∧ g = 2) ∨ (f = 0 ∧ g = 0 ∧ sn = a * 10 + d) := by
  rcases giv_two (a * 10) with ⟨h, _⟩ | h <;> rw [h] at h1 <;> cases h1
  · rcases giv_two (a * 10 + d) with ⟨h, _⟩ | h <;> rw [h] at h2 <;> cases h2
    · exact Or.inr (Or.inr ⟨rfl, rfl, rfl⟩)
    · exact Or.inr (Or.inl ⟨rfl, rfl⟩)
  · exact Or.inl rfl
theorem conv_digit (w : World) (d : Nat) (hd : d < 10) (t : ByteArray) (ht : S [UInt8.ofNat (48 + d)] = t) :
    (convert 60 9 (.slice (some ⟨w.heap.size, 0, none⟩) 1 1)).run Tryz.prog (w.alloc (.cells #[.int .u8 (48 + (d : Int))] 5)) = .ok (.string t) (w.alloc (.cells #[.int .u8 (48 + (d : Int))] 5)) := by
  have h := Lib.run_convert_whole (P := Tryz.prog) (w.alloc (.cells #[.int .u8 (48 + (d : Int))] 5)) 60 5 9 (by kernel_rfl) (by kernel_rfl) (by kernel_rfl) w.heap.size 0 (S [UInt8.ofNat (48 + d)]) (fun i hi => by
    rw [S_size] at hi
    obtain rfl : i = 0 := by simp at hi; omega
    rw [Lib.cell_of_heap (World.alloc_heap_new w _)]
    show _ = some (Value.int .u8 ((UInt8.ofNat (48 + d)).toNat : Int))
    rw [u8_digit hd]
    simp) 1
  rw [S_size, ht] at h
  exact h
variable {w0 w : World} {l : List (Option Addr × Nat × Nat × Nat)}
theorem Has.void3 (H : Has w0 w l) {A : Option Addr} {k c n : Nat} (h : (A, k, c, n) ∈ l) (hn : n = 0) : k = 0 := by subst hn; exact H.none h
theorem Has.pos3 (H : Has w0 w l) {A : Option Addr} {k c n : Nat} (h : (A, k, c, n) ∈ l) (hn : n ≠ 0) : 0 < k := by
  have h1 := H.len h
  rcases Nat.eq_zero_or_pos k with h0 | h0
  · rw [h0] at h1; exact absurd ((dg_nil_iff n).1 h1) hn
  · exact h0
theorem text_at (H : Hid (Has w0 w l)) (hT : Hid (Tabs w0)) (A : Option Addr) (k c X : Nat) (hm : (A, k, c, X) ∈ l) (hk : k ≤ 1024) :
    Calls Tryz.prog 35 #[.slice A k c] w fun e w' => e = .returned (.tuple #[.string (S (Lib.decDigits X)), .int .i64 0]) ∧ Hid (Has w0 w' l) :=
  (Text_good w (hT.out.below H.out.b) A k c X (H.out.just hm) hk).mono (fun e w' ⟨he, hb⟩ => ⟨he, Lib.hid (H.out.below hb)⟩)
set_option maxRecDepth 100000 in
set_option maxHeartbeats 4000000 in
theorem back_calls (w : World) (hT : Tabs w) (A1 : Option Addr) (k1 c1 : Nat) (g1 : List Int) (i1 : Inp w A1 k1 c1 g1) (n : Int) (wn : (Lit.int .u8 n).wf = true) :
    Calls Tryz.prog 10 #[.slice A1 k1 c1, .int .u8 n] w (True1 w) := by
  have HT := Lib.hid hT
  have I1 := Lib.hid i1
  have H0 := Lib.hid (Has.nil w)
  clear hT i1
  cases q : (okB 1024 k1 g1)
  case false =>
    go_enter Tryz.func10, Tryz.ntmps10
    go_wp2_with fail
    refine (numbers1 1024 A1 k1 c1 g1 I1.out false (Lib.hid q)).mono ?_
    rintro e w1 ⟨rfl, H1⟩
    go_wp2_with fail
    refine (sanity_at H1 HT).mono ?_
    rintro e w2 ⟨rfl, H2⟩
    clear H1
    go_wp2_with fail
    go_ret
    exact ⟨rfl, H2.out.b⟩
  have HN := Lib.hid (numbers1 1024 A1 k1 c1 g1 I1.out true (Lib.hid q))
  obtain ⟨a, rfl, m1, e1, f1⟩ := okB_num I1.out q
  clear q
  obtain ⟨n, rfl, hn⟩ := wf_u8' wn
  obtain ⟨d, hd⟩ : ∃ d, d = n % 10 := ⟨_, rfl⟩
  have ld : d < 10 := by omega
  have x1 : IntKind.u8.wrap (n : Int) = n := by unfold IntKind.wrap; simp [IntKind.bits, IntKind.signed]; omega
  have x2 : (n : Int).tmod 10 = (d : Int) := by rw [hd, Int.tmod_eq_emod_of_nonneg (by omega)]; omega
  have x3 : IntKind.u8.wrap (d : Int) = d := by unfold IntKind.wrap; simp [IntKind.bits, IntKind.signed]; omega
  have x4 : IntKind.u64.wrap (d : Int) = d := by unfold IntKind.wrap; simp [IntKind.bits, IntKind.signed]; omega
  have x5 : IntKind.u8.wrap (48 + (d : Int)) = ((48 + d : Nat) : Int) := by unfold IntKind.wrap; simp [IntKind.bits, IntKind.signed]; omega
  obtain ⟨t, ht⟩ : ∃ t, S [UInt8.ofNat (48 + d)] = t := ⟨_, rfl⟩
  have HT2 := Lib.hid ht
  clear ht
  obtain ⟨s, hs⟩ : ∃ s, S (Lib.decDigits a) = s := ⟨_, rfl⟩
  have hsz2 : ¬ 9223372036854775807 < s.size + t.size := by
    have h1 : t.size = 1 := by rw [← HT2.out, S_size]; rfl
    have h2 : s.size ≤ 10240 := by rw [← hs, S_size]; exact dec_size f1
    omega
  have hsz : s.size ≤ 9223372036854775807 := by rw [← hs, S_size]; exact Nat.le_trans (dec_size f1) (by decide)
  have HPR : Hid (parO (L s) = (0, a)) := Lib.hid (by rw [← hs, L_S]; exact parO_dec f1)
  obtain ⟨f, tn, hf⟩ : ∃ f tn, Hid (giv (a * 10) = (f, tn)) := ⟨_, _, Lib.hid rfl⟩
  obtain ⟨g, sn, hg⟩ : ∃ g sn, Hid (giv (tn + d) = (g, sn)) := ⟨_, _, Lib.hid rfl⟩
  have HC := Lib.hid (back_cases hf.out hg.out)
  have HS := Lib.hid hs
  clear hd wn hs
  go_enter Tryz.func10, Tryz.ntmps10
  go_wp2_with fail
  refine HN.out.mono ?_
  rintro e w1 ⟨rfl, h0⟩
  have h := ((I1.out.below h0.out.b).has (h0.out))
  clear h0 HN
  have H1 := Lib.hid h
  clear h H0
  have HTX := text_at H1 HT A1 k1 c1 (a) (.head _) e1
  rw [HS.out] at HTX
  go_wp2_with fail
  refine HTX.mono ?_
  rintro e w2 ⟨rfl, H2⟩
  clear HTX
  clear H1
  go_wp2_with fail
  refine (Parse_x H2.out s hsz 0 a HPR).mono ?_
  rintro e w3 ⟨B3, j3, d3, rfl, b3, h⟩
  have H3 := Lib.hid h
  clear h H2
  go_wp2_with fail
  refine (rsame_h H3.out A1 k1 c1 (a) B3 j3 d3 (a) (.tail _ (.head _)) (.head _) (Nat.le_trans e1 (by decide)) (Nat.le_trans b3 (by decide)) true (Lib.hid (decide_eq_true rfl))).mono ?_
  rintro e w4 ⟨rfl, h⟩
  have H4 := Lib.hid h
  clear h H3
  have h := H4.out.one 10 (by decide) (by decide)
  have H5 := Lib.hid h
  clear h H4
  go_wp2_with fail
  refine (Mul_x H5.out A1 k1 c1 (a) _ 1 1 (10) (.tail _ (.tail _ (.head _))) (.head _) e1 (by decide) f tn hf).mono ?_
  rintro e w6 ⟨B6, j6, d6, rfl, b6, h⟩
  have H6 := Lib.hid h
  clear h H5
  go_wp2_with fail
  refine (FromUint_x H6.out d (by omega)).mono ?_
  rintro e w7 ⟨B7, j7, d7, n7, rfl, hn7, b7, h⟩
  obtain rfl : d = n7 := hn7.out.symm
  clear hn7
  have H7 := Lib.hid h
  clear h H6
  go_wp2_with fail
  refine (Add_x H7.out B6 j6 d6 (tn) B7 j7 d7 (d) (.tail _ (.head _)) (.head _) b6 (Nat.le_trans b7 (by decide)) g sn hg).mono ?_
  rintro e w8 ⟨B8, j8, d8, rfl, b8, h⟩
  have H8 := Lib.hid h
  clear h H7
  clear hf hg HPR
  rcases HC.out with rfl | ⟨rfl, rfl⟩ | ⟨rfl, rfl, rfl⟩
  · clear HC
    go_wp2_with fail
    refine (sanity_at H8 HT).mono ?_
    rintro e w9 ⟨rfl, H9⟩
    clear H8
    go_wp2_with fail
    go_ret
    exact ⟨rfl, H9.out.b⟩
  · clear HC
    go_wp2_with fail
    refine (sanity_at H8 HT).mono ?_
    rintro e w9 ⟨rfl, H9⟩
    clear H8
    go_wp2_with fail
    go_ret
    exact ⟨rfl, H9.out.b⟩
  clear HC
  by_cases ha : a = 0
  case pos =>
    obtain rfl := H8.out.void3 (.tail _ (.tail _ (.tail _ (.tail _ (.tail _ (.head _)))))) ha
    clear ha
    go_wp2_with fail
    refine (sanity_at H8 HT).mono ?_
    rintro e w9 ⟨rfl, H9⟩
    clear H8
    go_wp2_with fail
    go_ret
    exact ⟨rfl, H9.out.b⟩
  have y1 : ((k1 : Int) == 0) = false := by have := H8.out.pos3 (.tail _ (.tail _ (.tail _ (.tail _ (.tail _ (.head _)))))) ha; simp; omega
  have HD := dec_next ha ld
  rw [HS.out, HT2.out] at HD
  have HTX := text_at H8 HT B8 j8 d8 (a * 10 + d) (.head _) b8
  rw [HD] at HTX
  clear HD HS ha
  go_wp2_with fail
  refine HTX.mono ?_
  rintro e w9 ⟨rfl, H9⟩
  clear HTX
  clear H8
  go_wp2_with fail
  refine (sanity_at H9 HT).mono ?_
  rintro e w10 ⟨rfl, H10⟩
  clear H9
  have HCV := conv_digit w10 d ld t HT2.out
  go_wp2_with fail
  go_ret
  exact ⟨rfl, (H10.out.alloc _).b⟩
end Go.Proofs.YtfcfejlffmddnaaGreatDoor
end
