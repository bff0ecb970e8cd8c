/- Package nat, its reference and its laws' helpers, part 12 (NCY NCZ NDA NDB). -/
import Derived.Lib.AtoiErrMem
import Derived.BigQuiet
import Derived.Test.YtfcfejlffmddnaaGreatDoorM11
section
/- Plain: numbers out of digits. Contracts: read. -/
namespace Go.Proofs.YtfcfejlffmddnaaGreatDoor
open Go.RowKit Go.Shelf
attribute [local go_sem] Oper.semAt_some
set_option linter.unusedSimpArgs false
set_option linter.unusedVariables false

def isDg (c : UInt8) : Bool := decide (48 ≤ c.toNat ∧ c.toNat ≤ 57)
def vd (l : List UInt8) : Nat := l.foldl (fun n c => n * 10 + (c.toNat - 48)) 0
theorem vd_from (l : List UInt8) (n : Nat) : l.foldl (fun n c => n * 10 + (c.toNat - 48)) n = n * 10 ^ l.length + vd l := by
  induction l generalizing n with
  | nil => simp [vd]
  | cons c l ih =>
    rw [vd, List.foldl_cons, List.foldl_cons, ih, ih, List.length_cons, Nat.pow_succ]
    grind
theorem vd_append (a b : List UInt8) : vd (a ++ b) = vd a * 10 ^ b.length + vd b := by
  rw [vd, List.foldl_append, vd_from]; rfl
theorem vd_snoc (a : List UInt8) (c : UInt8) : vd (a ++ [c]) = vd a * 10 + (c.toNat - 48) := by
  rw [vd, List.foldl_append]; rfl
theorem vd_lt (l : List UInt8) (h : l.all isDg = true) : vd l < 10 ^ l.length := by
  induction l with
  | nil => simp [vd]
  | cons c l ih =>
    simp only [List.all_cons, Bool.and_eq_true] at h
    have h1 := ih h.2
    have h2 : c.toNat - 48 ≤ 9 := by have := h.1; simp only [isDg, decide_eq_true_eq] at this; omega
    have e : vd (c :: l) = (c.toNat - 48) * 10 ^ l.length + vd l := by
      have := vd_append [c] l
      simpa [vd] using this
    rw [e, List.length_cons, Nat.pow_succ]
    have h3 : (c.toNat - 48) * 10 ^ l.length ≤ 9 * 10 ^ l.length := Nat.mul_le_mul_right _ h2
    omega
theorem vd_len (l : List UInt8) (h : l.all isDg = true) : (dg (vd l)).length ≤ l.length := by
  refine len_of_lt (Nat.lt_of_lt_of_le (vd_lt l h) ?_)
  exact Nat.pow_le_pow_left (by decide) _
theorem decFrom_dg (l : List UInt8) (h : l.all isDg = true) : ∀ acc, Lib.decFrom acc l = some (l.foldl (fun n c => n * 10 + (c.toNat - 48)) acc) := by
  induction l with
  | nil => intro acc; rfl
  | cons c l ih =>
    intro acc
    simp only [List.all_cons, Bool.and_eq_true] at h
    have h1 := h.1
    simp only [isDg, decide_eq_true_eq] at h1
    have hd : Lib.digitVal c = some (c.toNat - 48) := by
      unfold Lib.digitVal
      simp [h1]
    rw [Lib.decFrom, hd]
    exact ih h.2 _
theorem atoi_dg (l : List UInt8) (h : l.all isDg = true) (h0 : l ≠ []) : Lib.atoi l = some ((vd l : Nat) : Int) := by
  cases l with
  | nil => exact absurd rfl h0
  | cons c r =>
    have h1 := h
    simp only [List.all_cons, Bool.and_eq_true] at h1
    have h2 := h1.1
    simp only [isDg, decide_eq_true_eq] at h2
    have n1 : (c == 45) = false := by
      rw [beq_eq_false_iff_ne]; intro e; subst e; simp at h2
    have n2 : (c == 43) = false := by
      rw [beq_eq_false_iff_ne]; intro e; subst e; simp at h2
    have h3 : Lib.decNat (c :: r) = some (vd (c :: r)) := by
      unfold Lib.decNat
      rw [List.isEmpty_cons, if_neg (by decide), decFrom_dg _ h]; rfl
    rw [Lib.atoi, n1, n2]
    simp only [Bool.false_eq_true, if_false]
    rw [h3]; rfl
theorem L_extract (s : ByteArray) (a b : Nat) : L (s.extract a b) = ((L s).take b).drop a := by
  simp only [L, ByteArray.data_extract, Array.toList_extract, List.extract_eq_drop_take']
theorem halves_str (s : ByteArray) (m : Nat) (hm : m ≤ s.size) (hall : (L s).all isDg = true) :
    (L (s.extract 0 m)).all isDg = true ∧ (L (s.extract m s.size)).all isDg = true ∧ (s.extract 0 m).size = m ∧ (s.extract m s.size).size = s.size - m ∧ vd (L s) = vd (L (s.extract 0 m)) * 10 ^ (s.size - m) + vd (L (s.extract m s.size)) := by
  have e1 : L (s.extract 0 m) = (L s).take m := by rw [L_extract, List.drop_zero]
  have e2 : L (s.extract m s.size) = (L s).drop m := by rw [L_extract, List.take_of_length_le (by rw [L_length]; exact Nat.le_refl _)]
  have hl : ((L s).drop m).length = s.size - m := by rw [List.length_drop, L_length]
  rw [List.all_eq_true] at hall
  refine ⟨?_, ?_, ?_, ?_, ?_⟩
  · rw [e1, List.all_eq_true]; exact fun x hx => hall x (List.mem_of_mem_take hx)
  · rw [e2, List.all_eq_true]; exact fun x hx => hall x (List.mem_of_mem_drop hx)
  · rw [← L_length, e1, List.length_take, L_length]; omega
  · rw [← L_length, e2, hl]
  · rw [e1, e2, ← hl, ← vd_append, List.take_append_drop]
def ReadSaid (M : Nat) : Prop := ∀ (s : ByteArray), s.size < M → 1 ≤ s.size → s.size ≤ 20000 → Hid ((L s).all isDg = true) → ∀ (w0 w : World) (l : List (Option Addr × Nat × Nat × Nat)), Has w0 w l →
  Calls Tryz.prog 91 #[.string s] w (Made w0 l (vd (L s)) s.size)
set_option maxRecDepth 10000 in
set_option maxHeartbeats 2000000 in
theorem read_short (s : ByteArray) (h1 : 1 ≤ s.size) (h9 : s.size ≤ 9) (hall : Hid ((L s).all isDg = true)) (w0 w : World) (l : List (Option Addr × Nat × Nat × Nat)) (H : Has w0 w l) :
    Calls Tryz.prog 91 #[.string s] w (Made w0 l (vd (L s)) s.size) := by
  obtain ⟨v, hv⟩ : ∃ v, vd (L s) = v := ⟨_, rfl⟩
  have hat : Lib.atoi s.data.toList = some ((v : Nat) : Int) := by
    rw [← hv]; exact atoi_dg (L s) hall.out (fun h => by have := L_length s; rw [h] at this; simp at this; omega)
  have hlt : v < 1000000000 := by
    have h := vd_lt (L s) hall.out
    rw [L_length, hv] at h
    have h2 : (10 : Nat) ^ s.size ≤ 10 ^ 9 := Nat.pow_le_pow_right (by decide) h9
    have h3 : (10 : Nat) ^ 9 = 1000000000 := rfl
    omega
  have hvl : (dg v).length ≤ s.size := by rw [← hv, ← L_length]; exact vd_len (L s) hall.out
  have HA := Lib.hid (Tryz.strconv_Atoi s v (by omega) hat w)
  have HV := Lib.hid hv
  have HVL := Lib.hid hvl
  have HH := Lib.hid H
  have hw : IntKind.u64.wrap (v : Int) = v := by rw [IntKind.wrap_u64]; omega
  have hi9 : (s.size : Int) ≤ 9 := by omega
  clear hat hv hvl H hall
  go_enter Tryz.func91, Tryz.ntmps91
  go_wp2_with fail
  refine HA.out.mono ?_
  rintro e w1 ⟨rfl, t, rfl⟩
  have hb := Lib.bytesWorld_below w 5 t
  have H1 := Lib.hid (HH.out.below hb)
  generalize Lib.bytesWorld w 5 t = w1 at hb H1
  clear hb
  go_wp2_with fail
  refine (of_h H1.out v (by omega) (by omega)).mono ?_
  rintro e w4 ⟨A7, k7, c7, n7, rfl, hn7, b7, H7⟩
  rw [Int.toNat_natCast] at hn7
  go_wp2_with fail
  go_ret
  rw [HV.out]
  exact Made.tight (K := k7) ⟨A7, k7, c7, n7, rfl, hn7, Nat.le_refl _, H7⟩ _ HVL.out
set_option maxRecDepth 10000 in
set_option maxHeartbeats 4000000 in
theorem read_long (M : Nat) (ih : ReadSaid M) (s : ByteArray) (hM : s.size ≤ M) (h9 : 9 < s.size) (hb : s.size ≤ 20000) (hall : Hid ((L s).all isDg = true)) (w0 w : World) (l : List (Option Addr × Nat × Nat × Nat)) (H : Has w0 w l) :
    Calls Tryz.prog 91 #[.string s] w (Made w0 l (vd (L s)) s.size) := by
  obtain ⟨n, hn⟩ : ∃ n, s.size = n := ⟨_, rfl⟩
  obtain ⟨k, hk⟩ : ∃ k : Nat, (n : Int) / 2 = k := ⟨n / 2, by omega⟩
  obtain ⟨m, hm⟩ : ∃ m : Nat, (n : Int) - k = m := ⟨n - k, by omega⟩
  have hmn : m ≤ n := by omega
  have hkk : n - m = k := by omega
  obtain ⟨a1, a2, a3, a4, a5⟩ := halves_str s m (by omega) hall.out
  rw [hn] at a2 a4 a5
  rw [hkk] at a4 a5
  obtain ⟨sl, hsl⟩ : ∃ sl, s.extract 0 m = sl := ⟨_, rfl⟩
  obtain ⟨sr, hsr⟩ : ∃ sr, s.extract m n = sr := ⟨_, rfl⟩
  rw [hsl] at a1 a3 a5
  rw [hsr] at a2 a4 a5
  have hvl : (dg (vd (L s))).length ≤ n := by rw [← hn, ← L_length]; exact vd_len (L s) hall.out
  have HA1 := Lib.hid a1
  have HA2 := Lib.hid a2
  have HA5 := Lib.hid a5
  have HVL := Lib.hid hvl
  have IH := Lib.hid ih
  have HH := Lib.hid H
  have hpw : ∀ j, j ≤ k → (dg (10 ^ j)).length ≤ 268435456 := fun j hj => Nat.le_trans (ten_len j) (by omega)
  have hpl : (dg (10 ^ k)).length ≤ 20001 := Nat.le_trans (ten_len k) (by omega)
  have HPW := Lib.hid hpw
  have HPL := Lib.hid hpl
  have hi9 : ¬ (n : Int) ≤ 9 := by omega
  have hwm : IntKind.i64.wrap (m : Int) = m := by rw [IntKind.wrap_i64]; omega
  have hmi : (m : Int) ≤ n := by omega
  rw [hn]
  clear a1 a2 a5 hvl ih H hall hpw hpl
  refine (callsIn_wide (n := 9)).1 ?_
  refine callsIn_of_wp Tryz.func91 rfl trivial ?_ rfl
  simp only [Tryz.ntmps91, List.size_toArray, List.length_cons, List.length_nil, Nat.reduceAdd, Nat.reduceSub, Array.replicate_succ, Array.replicate_zero, List.push_toArray, List.append_toArray, List.nil_append, List.cons_append]
  gi_wp2
  refine ⟨trivial, (callsIn_wide.2 (of_h HH.out 10 (by omega) (by omega))).mono ?_⟩
  rintro e w1 ⟨A1, k1, c1, n1, rfl, hn1, b1, H1⟩
  obtain rfl : n1 = 10 := hn1.out
  gi_wp2
  refine ⟨trivial, (callsIn_wide.2 (pow_h H1 A1 k1 c1 10 k (by simp) (by omega) (by omega) HPW.out)).mono ?_⟩
  rintro e w2 ⟨A2, k2, c2, n2, rfl, hn2, b2, H2⟩
  obtain rfl : n2 = 10 ^ k := hn2.out
  have b2' := Nat.le_trans b2 HPL.out
  have H2' := Lib.hid H2
  have H2d : Has w0 w2.drew ((A2, k2, c2, 10 ^ k) :: (A1, k1, c1, 10) :: l) := H2.below ((Below.refl _ _).drew)
  have H2D := Lib.hid H2d
  clear H1 H2 H2d hn1 hn2 b1 b2
  gi_wp2
  refine wpIn_mono (Q := fun e a' W' => e = .normal ∧ a'.defers = [] ∧ ∃ v, a'.tmps.getD 2 undef = v ∧ Made w0 l (vd (L s)) n (.returned v) W') ?_ ?_
  · refine wpIn_region_any (by kernel_rfl) ?_
    change wpAnyIn _ _ _ _ _ _ 18 #[false, false, false, false, false, false, false, false, false, false, false, false, false, false, false, false, false, false] _ (World.drew _)
    refine wpAnyIn_take (i := 0) (v := ?_) rfl rfl (by kernel_rfl) (by kernel_rfl) (by kernel_rfl) (fun _ _ _ h => by cases h.1) ⟨Or.inl ⟨by rfl, ?_⟩, fun _ => rfl⟩ ?_
    rotate_left
    · intro w'; go_simp; try with_reducible rfl
    go_simp
    refine wpAnyIn_take (i := 1) (v := ?_) rfl rfl (by kernel_rfl) (by kernel_rfl) (by kernel_rfl) (fun _ _ _ h => by cases h.1) ⟨Or.inl ⟨by rfl, ?_⟩, fun _ => rfl⟩ ?_
    rotate_left
    · intro w'; go_simp; try with_reducible rfl
    go_simp
    refine wpAnyIn_take (i := 2) (v := ?_) rfl rfl (by kernel_rfl) (by kernel_rfl) (by kernel_rfl) (fun _ _ _ h => by cases h.1) ⟨Or.inl ⟨by rfl, ?_⟩, fun _ => rfl⟩ ?_
    rotate_left
    · intro w'; go_simp; try with_reducible rfl
    go_simp
    refine wpAnyIn_take (i := 3) (v := ?_) rfl rfl (by kernel_rfl) (by kernel_rfl) (by kernel_rfl) (fun _ _ _ h => by cases h.1) ⟨Or.inl ⟨by rfl, ?_⟩, fun _ => rfl⟩ ?_
    rotate_left
    · intro w'; go_simp; try with_reducible rfl
    go_simp
    refine wpAnyIn_take (i := 4) (v := ?_) rfl rfl (by kernel_rfl) (by kernel_rfl) (by kernel_rfl) (fun _ _ _ h => by cases h.1) ⟨Or.inl ⟨by rfl, ?_⟩, fun _ => rfl⟩ ?_
    rotate_left
    · intro w'; go_simp; try with_reducible rfl
    go_simp
    refine wpAnyIn_take (i := 5) (v := ?_) rfl rfl (by kernel_rfl) (by kernel_rfl) (by kernel_rfl) (fun _ _ _ h => by cases h.1) ⟨Or.inl ⟨by rfl, ?_⟩, fun _ => rfl⟩ ?_
    rotate_left
    · intro w'; go_simp; try with_reducible rfl
    go_simp
    refine wpAnyIn_take (i := 7) (v := ?_) rfl rfl (by kernel_rfl) (by kernel_rfl) (by kernel_rfl) (fun _ _ _ h => by cases h.1) ⟨Or.inl ⟨by rfl, ?_⟩, fun _ => rfl⟩ ?_
    rotate_left
    · intro w'; go_simp; try with_reducible rfl
    go_simp
    refine wpAnyIn_take (i := 9) (v := ?_) rfl rfl (by kernel_rfl) (by kernel_rfl) (by kernel_rfl) (fun _ _ _ h => by cases h.1) ⟨Or.inl ⟨by rfl, ?_⟩, fun _ => rfl⟩ ?_
    rotate_left
    · intro w'; go_simp; try with_reducible rfl
    go_simp
    refine wpAnyIn_take (i := 10) (v := ?_) rfl rfl (by kernel_rfl) (by kernel_rfl) (by kernel_rfl) (fun _ _ _ h => by cases h.1) ⟨Or.inl ⟨by rfl, ?_⟩, fun _ => rfl⟩ ?_
    rotate_left
    · intro w'; go_simp; try with_reducible rfl
    go_simp
    refine wpAnyIn_take (i := 11) (v := ?_) rfl rfl (by kernel_rfl) (by kernel_rfl) (by kernel_rfl) (fun _ _ _ h => by cases h.1) ⟨Or.inl ⟨by rfl, ?_⟩, fun _ => rfl⟩ ?_
    rotate_left
    · intro w'; go_simp; try with_reducible rfl
    go_simp
    refine wpAnyIn_take (i := 12) (v := ?_) rfl rfl (by kernel_rfl) (by kernel_rfl) (by kernel_rfl) (fun _ _ _ h => by cases h.1) ⟨Or.inl ⟨by rfl, ?_⟩, fun _ => rfl⟩ ?_
    rotate_left
    · intro w'; go_simp; try with_reducible rfl
    go_simp
    refine wpAnyIn_take (i := 13) (v := ?_) rfl rfl (by kernel_rfl) (by kernel_rfl) (by kernel_rfl) (fun _ _ _ h => by cases h.1) ⟨Or.inl ⟨by rfl, ?_⟩, fun _ => rfl⟩ ?_
    rotate_left
    · intro w'; go_simp; try with_reducible rfl
    go_simp
    refine wpAnyIn_take (i := 14) (v := ?_) rfl rfl (by kernel_rfl) (by kernel_rfl) (by kernel_rfl) (fun _ _ _ h => by cases h.1) ⟨Or.inl ⟨by rfl, ?_⟩, fun _ => rfl⟩ ?_
    rotate_left
    · intro w'; go_simp; try with_reducible rfl
    go_simp
    refine wpAnyIn_ready (rs := [6]) (by kernel_rfl) (by simp) (AllReadyIn.cons rfl (fun K hK => ?_) AllReadyIn.nil)
    go_simp
    refine ⟨trivial, (callsIn_wide.2 (IH.out sl (by omega) (by omega) (by omega) HA1 _ _ _ H2D.out)).mono ?_⟩
    rintro e w3 ⟨A3, k3, c3, n3, rfl, hn3, b3, H3⟩
    go_simp
    refine hK _ _ ?_
    clear hK K
    refine wpAnyIn_ready (rs := [8]) (by kernel_rfl) (by simp) (AllReadyIn.cons rfl (fun K hK => ?_) AllReadyIn.nil)
    go_simp
    refine ⟨trivial, (callsIn_wide.2 (mul_h H3 A3 k3 c3 n3 A2 k2 c2 (10 ^ k) (by simp) (by simp) (by omega) (by omega))).mono ?_⟩
    rintro e w4 ⟨A4, k4, c4, n4, rfl, hn4, b4, H4⟩
    go_simp
    refine hK _ _ ?_
    clear hK K
    refine wpAnyIn_ready (rs := [15]) (by kernel_rfl) (by simp) (AllReadyIn.cons rfl (fun K hK => ?_) AllReadyIn.nil)
    go_simp
    refine ⟨trivial, (callsIn_wide.2 (IH.out sr (by omega) (by omega) (by omega) HA2 _ _ _ H4)).mono ?_⟩
    rintro e w5 ⟨A5, k5, c5, n5, rfl, hn5, b5, H5⟩
    go_simp
    refine hK _ _ ?_
    clear hK K
    refine wpAnyIn_ready (rs := [16]) (by kernel_rfl) (by simp) (AllReadyIn.cons rfl (fun K hK => ?_) AllReadyIn.nil)
    go_simp
    refine ⟨trivial, (callsIn_wide.2 (add_h H5 A4 k4 c4 n4 A5 k5 c5 n5 (by simp) (by simp) (by omega) (by omega))).mono ?_⟩
    rintro e w6 ⟨A6, k6, c6, n6, rfl, hn6, b6, H6⟩
    go_simp
    refine hK _ _ ?_
    clear hK K
    refine wpAnyIn_ready (rs := [17]) (by kernel_rfl) (by simp) (AllReadyIn.cons rfl (fun K hK => ?_) AllReadyIn.nil)
    go_simp
    refine hK _ _ ?_
    clear hK K
    refine wpAnyIn_done (by kernel_rfl) ?_ _
    refine ⟨rfl, rfl, Made.tight (K := k6) ⟨A6, k6, c6, n6, rfl, ?_, Nat.le_refl _, H6.keep (fun p hp => ?_)⟩ _ HVL.out⟩
    · refine Lib.hid ?_
      rw [hn6.out, hn4.out, hn3.out, hn5.out, HA5.out]
    · simp only [List.mem_cons] at hp ⊢
      rcases hp with rfl | hp <;> simp [*]
  · rintro e a' W' ⟨rfl, hd, v, hv, hmade⟩
    gi_wp2
    exact bodyPost_ret (v := v) (by simp [results, Tryz.results91, go_sem]; simpa using hv) hd hmade
theorem read_said (M : Nat) : ReadSaid M := by
  induction M with
  | zero => intro s h; omega
  | succ M ih =>
    intro s hM h1 hb hall w0 w l H
    by_cases h9 : s.size ≤ 9
    · exact read_short s h1 h9 hall w0 w l H
    · exact read_long M ih s (by omega) (by omega) hb hall w0 w l H
end Go.Proofs.YtfcfejlffmddnaaGreatDoor
end
section
/- Contracts: the exported Parse. -/
namespace Go.Proofs.YtfcfejlffmddnaaGreatDoor
open Go.RowKit Go.Shelf
attribute [local go_sem] Oper.semAt_some
set_option linter.unusedSimpArgs false
set_option linter.unusedVariables false

variable {w0 w : World} {l : List (Option Addr × Nat × Nat × Nat)}
theorem other_calls (c : Nat) (w : World) (b : Bool) (h : Hid (decide (48 ≤ c ∧ c ≤ 57) = b)) :
    Calls Tryz.prog 89 #[.int .u8 (c : Int)] w fun e w' => e = .returned (.bool (!b)) ∧ w = w' := by
  have hb := h.out
  by_cases h1 : c < 48
  · obtain rfl : b = false := by rw [← hb]; exact decide_eq_false (by omega)
    have d1 : decide ((c : Int) < 48) = true := decide_eq_true (by omega)
    clear hb h
    go_enter Tryz.func89, Tryz.ntmps89
    go_wp2
    go_ret
    exact ⟨rfl, rfl⟩
  · have d1 : decide ((c : Int) < 48) = false := decide_eq_false (by omega)
    by_cases h2 : 57 < c
    · obtain rfl : b = false := by rw [← hb]; exact decide_eq_false (by omega)
      have d2 : decide ((57 : Int) < c) = true := decide_eq_true (by omega)
      clear hb h
      go_enter Tryz.func89, Tryz.ntmps89
      go_wp2
      go_ret
      exact ⟨rfl, rfl⟩
    · obtain rfl : b = true := by rw [← hb]; exact decide_eq_true (by omega)
      have d2 : decide ((57 : Int) < c) = false := decide_eq_false (by omega)
      clear hb h
      go_enter Tryz.func89, Tryz.ntmps89
      go_wp2
      go_ret
      exact ⟨rfl, rfl⟩
set_option maxRecDepth 10000 in
set_option maxHeartbeats 1000000 in
theorem indexB_calls (b n cp : Nat) (l : List UInt8) (w : World) (hl : Hid (l.length = n)) (hn : n ≤ 9223372036854775807) (hc : Hid (∀ j x, l[j]? = some x → w.cell? ⟨b, j, none⟩ = some (.int .u8 (x.toNat : Int)))) :
    Calls Tryz.prog 129 #[.slice (some ⟨b, 0, none⟩) n cp, .func (.func 89) #[] #[]] w fun e w' => ∃ r : Int, e = .returned (.int .i64 r) ∧ Hid (decide (0 ≤ r) = l.any fun x => !isDg x) ∧ w = w' := by
  go_enter Tryz.func129, Tryz.ntmps129
  go_wp2_with fail
  go_loop [8] (fun v => ∃ i : Nat, i ≤ n ∧ v = .int .i64 i ∧ Hid ((l.take i).any (fun x => !isDg x) = false)) (fun v => n - (intOf v).toNat)
  case atStart => exact ⟨0, Nat.zero_le _, rfl, Lib.hid (by simp)⟩
  case round =>
    obtain ⟨i, hi, rfl, HA⟩ := hrel
    by_cases hlt : i < n
    · obtain ⟨x, hx⟩ : ∃ x, l[i]? = some x := ⟨_, List.getElem?_eq_getElem (by rw [hl.out]; exact hlt)⟩
      have hcell := hc.out i _ hx
      obtain ⟨c, hcc⟩ : ∃ c, x.toNat = c := ⟨_, rfl⟩
      rw [hcc] at hcell
      obtain ⟨bv, hbv⟩ : ∃ bv, decide (48 ≤ c ∧ c ≤ 57) = bv := ⟨_, rfl⟩
      have HT := Lib.hid (other_calls c w bv (Lib.hid hbv))
      have htk : l.take (i + 1) = l.take i ++ [x] := by rw [List.take_add_one, hx]; rfl
      have hbd : isDg x = bv := by rw [← hbv, ← hcc]; rfl
      have HTK := Lib.hid htk
      have HBV := Lib.hid hbd
      have HP := Lib.hid hx
      clear hbv htk hx hcc hbd
      cases bv
      · go_wp2_with fail
        refine HT.out.mono ?_
        rintro e w' ⟨rfl, rfl⟩
        go_wp2_with fail
        go_ret
        refine ⟨(i : Int), rfl, Lib.hid ?_, rfl⟩
        rw [show decide ((0 : Int) ≤ i) = true by simp, eq_comm, List.any_eq_true]
        exact ⟨_, List.mem_of_getElem? HP.out, by simp [HBV.out]⟩
      · go_wp2_with fail
        refine HT.out.mono ?_
        rintro e w' ⟨rfl, rfl⟩
        go_wp2_with fail
        go_round
        case rel => exact ⟨i + 1, by omega, by go_num, Lib.hid (by rw [HTK.out, List.any_append, HA.out]; simp [HBV.out])⟩
        case measure => simp [intOf]; omega
    · obtain rfl : i = n := by omega
      have hA : l.any (fun x => !isDg x) = false := by
        have := HA.out
        rwa [List.take_of_length_le (by rw [hl.out]; exact Nat.le_refl _)] at this
      have HA2 := Lib.hid hA
      clear hA
      go_wp2_with fail
      go_ret
      exact ⟨-1, rfl, Lib.hid (by rw [HA2.out]; rfl), rfl⟩
theorem containsB_calls (b n cp : Nat) (l : List UInt8) (w : World) (hl : Hid (l.length = n)) (hn : n ≤ 9223372036854775807) (hc : Hid (∀ j x, l[j]? = some x → w.cell? ⟨b, j, none⟩ = some (.int .u8 (x.toNat : Int)))) (bv : Bool) (hb : Hid ((l.any fun x => !isDg x) = bv)) :
    Calls Tryz.prog 90 #[.slice (some ⟨b, 0, none⟩) n cp, .func (.func 89) #[] #[]] w fun e w' => e = .returned (.bool bv) ∧ w = w' := by
  have H1 := Lib.hid (indexB_calls b n cp l w hl hn hc)
  clear hl hc
  go_enter Tryz.func90, Tryz.ntmps90
  go_wp2_with fail
  refine H1.out.mono ?_
  rintro e w' ⟨r, rfl, hr, rfl⟩
  have hr2 : decide (0 ≤ r) = bv := by rw [hr.out, hb.out]
  go_wp2_with fail
  go_ret
  exact ⟨rfl, rfl⟩
/-- The form of a number's text. -/
def formB (l : List UInt8) : Bool := decide (l ≠ []) && (decide (l = [48]) || decide (l.head? ≠ some 48)) && l.all isDg
/-- What Parse answers. -/
def parO (l : List UInt8) : Int × Nat := if 20000 < l.length then (2, 0) else if formB l = true then giv (vd l) else (6, 0)
theorem empty_str {t : ByteArray} (h : t.size = 0) : t = ⟨#[]⟩ := by
  have : L t = [] := List.eq_nil_of_length_eq_zero (by rw [L_length]; exact h)
  rw [← S_L t, this]; rfl
theorem toList_L (s : ByteArray) : s.toList = L s := by
  rw [L]; exact ByteArray.toList_eq s
set_option maxRecDepth 10000 in
set_option maxHeartbeats 1000000 in
theorem Parse_long (s : ByteArray) (w : World) (hs : 20000 < s.size) (hm : s.size ≤ 9223372036854775807) :
    Calls Tryz.prog 36 #[.string s] w (Gives w 2 0) := by
  obtain ⟨w1, hw1⟩ : ∃ w1, w.alloc (.cells #[.int .i64 0] 26) = w1 := ⟨_, rfl⟩
  have hE : ECell w1 w.heap.size 0 := by rw [← hw1]; exact ECell.new w 0
  have hB : Below w.heap.size w w1 := by rw [← hw1]; exact (Below.refl _ _).alloc (Nat.le_refl _) _
  have HE := Lib.hid hE
  have HB := Lib.hid hB
  have hd1 : decide ((s.size : Int) ≤ 20000) = false := decide_eq_false (by omega)
  clear hE hB
  go_enter_defers Tryz.func36, Tryz.ntmps36
  go_wp2_with fail
  refine (need_no _ _).mono ?_
  rintro e w' ⟨rfl, rfl⟩
  refine leaves_cons (f := 66) (args := #[.pointer (some ⟨w.heap.size, 0, none⟩)]) (by simp) (by simp [go_sem]) ?_
  refine (caught_fail w.heap.size 2 0 _ HE.out).mono ?_
  rintro r u' w'' ⟨rfl, rfl, rfl⟩
  have hc := (HE.out).setA 2 (.cells #[.int .i64 2] 122)
  have hb := below_setA (HB.out) (Nat.le_refl _) (.int .i64 2) (.cells #[.int .i64 2] 122)
  exact ⟨.tuple #[.slice none 0 0, .int .i64 2], by simp [results, Tryz.results36, go_sem, hc], Gives.nil 2 hb⟩
set_option maxRecDepth 10000 in
set_option maxHeartbeats 1000000 in
theorem Parse_empty (w : World) : Calls Tryz.prog 36 #[.string ⟨#[]⟩] w (Gives w 6 0) := by
  obtain ⟨w1, hw1⟩ : ∃ w1, w.alloc (.cells #[.int .i64 0] 26) = w1 := ⟨_, rfl⟩
  have hE : ECell w1 w.heap.size 0 := by rw [← hw1]; exact ECell.new w 0
  have hB : Below w.heap.size w w1 := by rw [← hw1]; exact (Below.refl _ _).alloc (Nat.le_refl _) _
  have HE := Lib.hid hE
  have HB := Lib.hid hB
  clear hE hB
  go_enter_defers Tryz.func36, Tryz.ntmps36
  go_wp2_with fail
  refine (need_ok _ _).mono ?_
  rintro e w' ⟨rfl, rfl⟩
  go_wp2_with fail
  refine (need_no _ _).mono ?_
  rintro e w' ⟨rfl, rfl⟩
  refine leaves_cons (f := 66) (args := #[.pointer (some ⟨w.heap.size, 0, none⟩)]) (by simp) (by simp [go_sem]) ?_
  refine (caught_fail w.heap.size 6 0 _ HE.out).mono ?_
  rintro r u' w'' ⟨rfl, rfl, rfl⟩
  have hc := (HE.out).setA 6 (.cells #[.int .i64 6] 122)
  have hb := below_setA (HB.out) (Nat.le_refl _) (.int .i64 6) (.cells #[.int .i64 6] 122)
  exact ⟨.tuple #[.slice none 0 0, .int .i64 6], by simp [results, Tryz.results36, go_sem, hc], Gives.nil 6 hb⟩
set_option maxRecDepth 10000 in
set_option maxHeartbeats 1000000 in
theorem Parse_zero (s : ByteArray) (w : World) (hs : s.size ≤ 20000) (h0 : 0 < s.size) (c : Nat) (hc0 : s[0].toNat = c) (hc : ((c : Int) != 48) = false) (he : s.toList.isEmpty = false) (hz : (s.toList == [48]) = false) : Calls Tryz.prog 36 #[.string s] w (Gives w 6 0) := by
  obtain ⟨w1, hw1⟩ : ∃ w1, w.alloc (.cells #[.int .i64 0] 26) = w1 := ⟨_, rfl⟩
  have hE : ECell w1 w.heap.size 0 := by rw [← hw1]; exact ECell.new w 0
  have hB : Below w.heap.size w w1 := by rw [← hw1]; exact (Below.refl _ _).alloc (Nat.le_refl _) _
  have HE := Lib.hid hE
  have HB := Lib.hid hB
  have hd1 : decide ((s.size : Int) ≤ 20000) = true := decide_eq_true (by omega)
  clear hE hB
  go_enter_defers Tryz.func36, Tryz.ntmps36
  go_wp2_with fail
  refine (need_ok _ _).mono ?_
  rintro e w' ⟨rfl, rfl⟩
  go_wp2_with fail
  refine (need_no _ _).mono ?_
  rintro e w' ⟨rfl, rfl⟩
  refine leaves_cons (f := 66) (args := #[.pointer (some ⟨w.heap.size, 0, none⟩)]) (by simp) (by simp [go_sem]) ?_
  refine (caught_fail w.heap.size 6 0 _ HE.out).mono ?_
  rintro r u' w'' ⟨rfl, rfl, rfl⟩
  have hc := (HE.out).setA 6 (.cells #[.int .i64 6] 122)
  have hb := below_setA (HB.out) (Nat.le_refl _) (.int .i64 6) (.cells #[.int .i64 6] 122)
  exact ⟨.tuple #[.slice none 0 0, .int .i64 6], by simp [results, Tryz.results36, go_sem, hc], Gives.nil 6 hb⟩
set_option maxRecDepth 10000 in
set_option maxHeartbeats 2000000 in
theorem Parse_one (s : ByteArray) (w : World) (hs : s.size ≤ 20000) (hs1 : 1 ≤ s.size) (he : s.toList.isEmpty = false) (hz : (s.toList == [48]) = true) (bv : Bool) (hb : (L s).any (fun x => !isDg x) = bv) (x : Int) (n : Nat) (hx : bv = false → giv (vd (L s)) = (x, n)) (hx2 : bv = true → ((6, 0) : Int × Nat) = (x, n)) :
    Calls Tryz.prog 36 #[.string s] w (Gives w x n) := by
  obtain ⟨w1, hw1⟩ : ∃ w1, w.alloc (.cells #[.int .i64 0] 26) = w1 := ⟨_, rfl⟩
  have hE : ECell w1 w.heap.size 0 := by rw [← hw1]; exact ECell.new w 0
  have hB : Below w.heap.size w w1 := by rw [← hw1]; exact (Below.refl _ _).alloc (Nat.le_refl _) _
  have HE := Lib.hid hE
  have HB := Lib.hid hB
  have hs1' : w1.heap.size = w.heap.size + 1 := by rw [← hw1, World.size_alloc]
  have hd1 : decide ((s.size : Int) ≤ 20000) = true := decide_eq_true (by omega)
  have hcv := Lib.run_convert_string_bytes (P := Tryz.prog) w1 9 60 5 s Tryz.underlying9 Tryz.underlying60 Tryz.underlying5
  have hcl : ∀ j y, (L s)[j]? = some y → (Lib.bytesWorld w1 5 s).cell? ⟨w1.heap.size, j, none⟩ = some (.int .u8 (y.toNat : Int)) := fun j y hy => by
    have hj : j < s.size := by have := (List.getElem?_eq_some_iff.1 hy).1; rwa [L_length] at this
    rw [Lib.bytesWorld_cell w1 5 s j hj, List.getD_eq_getElem?_getD, show s.data.toList[j]? = some y from hy]; rfl
  have hb2 := Lib.bytesWorld_below w1 5 s
  generalize Lib.bytesWorld w1 5 s = w2 at hcv hcl hb2
  generalize grownCap w1 s.size 0 5 = cp at hcv
  have HC := Lib.hid (containsB_calls w1.heap.size s.size cp (L s) w2 (Lib.hid (L_length s)) (by omega) (Lib.hid hcl) bv (Lib.hid hb))
  rw [hs1'] at hcv HC
  have HE2 := Lib.hid (hE.below hb2)
  have HB2 := Lib.hid (hB.trans (hb2.mono hB.size))
  cases bv
  · have hall : (L s).all isDg = true := by
      rw [List.all_eq_not_any_not, hb]; rfl
    have HR := Lib.hid (read_said (s.size + 1) s (Nat.lt_succ_self _) hs1 hs (Lib.hid hall) w2 w2 [] (Has.nil w2))
    have HX := Lib.hid (hx rfl)
    clear hE hB hb2 hcl hb hall hx hx2
    go_enter_defers Tryz.func36, Tryz.ntmps36
    go_wp2_with fail
    refine (need_ok _ _).mono ?_
    rintro e w' ⟨rfl, rfl⟩
    go_wp2_with fail
    refine HC.out.mono ?_
    rintro e w' ⟨rfl, rfl⟩
    go_wp2_with fail
    refine (need_ok _ _).mono ?_
    rintro e w' ⟨rfl, rfl⟩
    go_wp2_with fail
    refine HR.out.mono ?_
    rintro e w4 ⟨A4, k4, c4, n4, rfl, hn4, b4, H4⟩
    have HX2 := HX.out
    rw [← hn4.out] at HX2
    have hl4 := H4.len (A := A4) (k := k4) (c := c4) (n := n4) (by simp)
    have HE4 := Lib.hid (HE2.out.below H4.b)
    have HB4 := Lib.hid (HB2.out.trans (H4.b.mono HB2.out.size))
    have HH4 := Lib.hid H4.rebase
    clear H4
    by_cases hk : k4 ≤ 1024
    · rw [giv_ok (by omega)] at HX2
      injection HX2 with hx hm
      subst hx hm
      clear hl4
      go_wp2_with fail
      refine (given_ok HH4.out A4 k4 c4 n4 (by simp) hk).mono ?_
      rintro r w5 ⟨A5, k5, c5, n5, rfl, hn5, b5, H5⟩
      obtain rfl : n5 = n4 := hn5.out
      have hb5 := H5.b
      have hE5 : ECell w5 w.heap.size 0 := (HE4.out).below hb5
      have c5' := cell_of_one hE5
      have z5' := free_of_one hE5
      have l5' := lt_of_block hE5
      have HE5 := Lib.hid hE5
      have HH5 := Lib.hid H5
      clear hE5 H5 hb5
      go_wp2_with fail
      refine leaves_cons (f := 66) (args := #[.pointer (some ⟨w.heap.size, 0, none⟩)]) (by simp) (by simp [go_sem]) ?_
      refine (caught_idle _ _).mono ?_
      rintro r u' w'' ⟨rfl, rfl, rfl⟩
      have hc := HE5.out.set 0
      have hh : Has w w5 [(A5, k5, c5, n5)] := ⟨(HB4.out).trans (HH5.out.b.mono (HB4.out).size), fun p hp => HH5.out.r p (by
        obtain rfl := List.mem_singleton.1 hp; simp)⟩
      --HH
      exact ⟨.tuple #[.slice A5 k5 c5, .int .i64 0], by simp [results, Tryz.results36, go_sem, hc], A5, k5, c5, rfl, b5, hh.setE HE5.out (Nat.le_refl _) _⟩
    · rw [giv_no (by omega)] at HX2
      injection HX2 with hx hm
      subst hx hm
      clear hl4
      go_wp2_with fail
      refine (given_no A4 k4 c4 w4 (by omega) (by omega)).mono ?_
      rintro r w5 ⟨rfl, rfl⟩
      refine leaves_cons (f := 66) (args := #[.pointer (some ⟨w.heap.size, 0, none⟩)]) (by simp) (by simp [go_sem]) ?_
      refine (caught_fail w.heap.size 2 0 _ HE4.out).mono ?_
      rintro r u' w'' ⟨rfl, rfl, rfl⟩
      have hc := (HE4.out).setA 2 (.cells #[.int .i64 2] 122)
      have hb := below_setA (HB4.out) (Nat.le_refl _) (.int .i64 2) (.cells #[.int .i64 2] 122)
      exact ⟨.tuple #[.slice none 0 0, .int .i64 2], by simp [results, Tryz.results36, go_sem, hc], Gives.nil 2 hb⟩
  · have hq := hx2 rfl
    injection hq with hx3 hm
    subst hx3 hm
    clear hE hB hb2 hcl hb hx hx2
    go_enter_defers Tryz.func36, Tryz.ntmps36
    go_wp2_with fail
    refine (need_ok _ _).mono ?_
    rintro e w' ⟨rfl, rfl⟩
    go_wp2_with fail
    refine HC.out.mono ?_
    rintro e w' ⟨rfl, rfl⟩
    go_wp2_with fail
    refine (need_no _ _).mono ?_
    rintro e w' ⟨rfl, rfl⟩
    refine leaves_cons (f := 66) (args := #[.pointer (some ⟨w.heap.size, 0, none⟩)]) (by simp) (by simp [go_sem]) ?_
    refine (caught_fail w.heap.size 6 0 _ HE2.out).mono ?_
    rintro r u' w'' ⟨rfl, rfl, rfl⟩
    have hc := (HE2.out).setA 6 (.cells #[.int .i64 6] 122)
    have hb := below_setA (HB2.out) (Nat.le_refl _) (.int .i64 6) (.cells #[.int .i64 6] 122)
    exact ⟨.tuple #[.slice none 0 0, .int .i64 6], by simp [results, Tryz.results36, go_sem, hc], Gives.nil 6 hb⟩
set_option maxRecDepth 10000 in
set_option maxHeartbeats 2000000 in
theorem Parse_d (s : ByteArray) (w : World) (hs : s.size ≤ 20000) (hs1 : 1 ≤ s.size) (he : s.toList.isEmpty = false) (h0 : 0 < s.size) (c : Nat) (hc0 : s[0].toNat = c) (hc : ((c : Int) != 48) = true) (hz : (s.toList == [48]) = false) (bv : Bool) (hb : (L s).any (fun x => !isDg x) = bv) (x : Int) (n : Nat) (hx : bv = false → giv (vd (L s)) = (x, n)) (hx2 : bv = true → ((6, 0) : Int × Nat) = (x, n)) :
    Calls Tryz.prog 36 #[.string s] w (Gives w x n) := by
  obtain ⟨w1, hw1⟩ : ∃ w1, w.alloc (.cells #[.int .i64 0] 26) = w1 := ⟨_, rfl⟩
  have hE : ECell w1 w.heap.size 0 := by rw [← hw1]; exact ECell.new w 0
  have hB : Below w.heap.size w w1 := by rw [← hw1]; exact (Below.refl _ _).alloc (Nat.le_refl _) _
  have HE := Lib.hid hE
  have HB := Lib.hid hB
  have hs1' : w1.heap.size = w.heap.size + 1 := by rw [← hw1, World.size_alloc]
  have hd1 : decide ((s.size : Int) ≤ 20000) = true := decide_eq_true (by omega)
  have hcv := Lib.run_convert_string_bytes (P := Tryz.prog) w1 9 60 5 s Tryz.underlying9 Tryz.underlying60 Tryz.underlying5
  have hcl : ∀ j y, (L s)[j]? = some y → (Lib.bytesWorld w1 5 s).cell? ⟨w1.heap.size, j, none⟩ = some (.int .u8 (y.toNat : Int)) := fun j y hy => by
    have hj : j < s.size := by have := (List.getElem?_eq_some_iff.1 hy).1; rwa [L_length] at this
    rw [Lib.bytesWorld_cell w1 5 s j hj, List.getD_eq_getElem?_getD, show s.data.toList[j]? = some y from hy]; rfl
  have hb2 := Lib.bytesWorld_below w1 5 s
  generalize Lib.bytesWorld w1 5 s = w2 at hcv hcl hb2
  generalize grownCap w1 s.size 0 5 = cp at hcv
  have HC := Lib.hid (containsB_calls w1.heap.size s.size cp (L s) w2 (Lib.hid (L_length s)) (by omega) (Lib.hid hcl) bv (Lib.hid hb))
  rw [hs1'] at hcv HC
  have HE2 := Lib.hid (hE.below hb2)
  have HB2 := Lib.hid (hB.trans (hb2.mono hB.size))
  cases bv
  · have hall : (L s).all isDg = true := by
      rw [List.all_eq_not_any_not, hb]; rfl
    have HR := Lib.hid (read_said (s.size + 1) s (Nat.lt_succ_self _) hs1 hs (Lib.hid hall) w2 w2 [] (Has.nil w2))
    have HX := Lib.hid (hx rfl)
    clear hE hB hb2 hcl hb hall hx hx2
    go_enter_defers Tryz.func36, Tryz.ntmps36
    go_wp2_with fail
    refine (need_ok _ _).mono ?_
    rintro e w' ⟨rfl, rfl⟩
    go_wp2_with fail
    refine HC.out.mono ?_
    rintro e w' ⟨rfl, rfl⟩
    go_wp2_with fail
    refine (need_ok _ _).mono ?_
    rintro e w' ⟨rfl, rfl⟩
    go_wp2_with fail
    refine HR.out.mono ?_
    rintro e w4 ⟨A4, k4, c4, n4, rfl, hn4, b4, H4⟩
    have HX2 := HX.out
    rw [← hn4.out] at HX2
    have hl4 := H4.len (A := A4) (k := k4) (c := c4) (n := n4) (by simp)
    have HE4 := Lib.hid (HE2.out.below H4.b)
    have HB4 := Lib.hid (HB2.out.trans (H4.b.mono HB2.out.size))
    have HH4 := Lib.hid H4.rebase
    clear H4
    by_cases hk : k4 ≤ 1024
    · rw [giv_ok (by omega)] at HX2
      injection HX2 with hx hm
      subst hx hm
      clear hl4
      go_wp2_with fail
      refine (given_ok HH4.out A4 k4 c4 n4 (by simp) hk).mono ?_
      rintro r w5 ⟨A5, k5, c5, n5, rfl, hn5, b5, H5⟩
      obtain rfl : n5 = n4 := hn5.out
      have hb5 := H5.b
      have hE5 : ECell w5 w.heap.size 0 := (HE4.out).below hb5
      have c5' := cell_of_one hE5
      have z5' := free_of_one hE5
      have l5' := lt_of_block hE5
      have HE5 := Lib.hid hE5
      have HH5 := Lib.hid H5
      clear hE5 H5 hb5
      go_wp2_with fail
      refine leaves_cons (f := 66) (args := #[.pointer (some ⟨w.heap.size, 0, none⟩)]) (by simp) (by simp [go_sem]) ?_
      refine (caught_idle _ _).mono ?_
      rintro r u' w'' ⟨rfl, rfl, rfl⟩
      have hc := HE5.out.set 0
      have hh : Has w w5 [(A5, k5, c5, n5)] := ⟨(HB4.out).trans (HH5.out.b.mono (HB4.out).size), fun p hp => HH5.out.r p (by
        obtain rfl := List.mem_singleton.1 hp; simp)⟩
      --HH
      exact ⟨.tuple #[.slice A5 k5 c5, .int .i64 0], by simp [results, Tryz.results36, go_sem, hc], A5, k5, c5, rfl, b5, hh.setE HE5.out (Nat.le_refl _) _⟩
    · rw [giv_no (by omega)] at HX2
      injection HX2 with hx hm
      subst hx hm
      clear hl4
      go_wp2_with fail
      refine (given_no A4 k4 c4 w4 (by omega) (by omega)).mono ?_
      rintro r w5 ⟨rfl, rfl⟩
      refine leaves_cons (f := 66) (args := #[.pointer (some ⟨w.heap.size, 0, none⟩)]) (by simp) (by simp [go_sem]) ?_
      refine (caught_fail w.heap.size 2 0 _ HE4.out).mono ?_
      rintro r u' w'' ⟨rfl, rfl, rfl⟩
      have hc := (HE4.out).setA 2 (.cells #[.int .i64 2] 122)
      have hb := below_setA (HB4.out) (Nat.le_refl _) (.int .i64 2) (.cells #[.int .i64 2] 122)
      exact ⟨.tuple #[.slice none 0 0, .int .i64 2], by simp [results, Tryz.results36, go_sem, hc], Gives.nil 2 hb⟩
  · have hq := hx2 rfl
    injection hq with hx3 hm
    subst hx3 hm
    clear hE hB hb2 hcl hb hx hx2
    go_enter_defers Tryz.func36, Tryz.ntmps36
    go_wp2_with fail
    refine (need_ok _ _).mono ?_
    rintro e w' ⟨rfl, rfl⟩
    go_wp2_with fail
    refine HC.out.mono ?_
    rintro e w' ⟨rfl, rfl⟩
    go_wp2_with fail
    refine (need_no _ _).mono ?_
    rintro e w' ⟨rfl, rfl⟩
    refine leaves_cons (f := 66) (args := #[.pointer (some ⟨w.heap.size, 0, none⟩)]) (by simp) (by simp [go_sem]) ?_
    refine (caught_fail w.heap.size 6 0 _ HE2.out).mono ?_
    rintro r u' w'' ⟨rfl, rfl, rfl⟩
    have hc := (HE2.out).setA 6 (.cells #[.int .i64 6] 122)
    have hb := below_setA (HB2.out) (Nat.le_refl _) (.int .i64 6) (.cells #[.int .i64 6] 122)
    exact ⟨.tuple #[.slice none 0 0, .int .i64 6], by simp [results, Tryz.results36, go_sem, hc], Gives.nil 6 hb⟩
theorem Parse_x (H : Has w0 w l) (s : ByteArray) (hm : s.size ≤ 9223372036854775807) (x : Int) (n : Nat) (hx : Hid (parO (L s) = (x, n))) :
    Calls Tryz.prog 36 #[.string s] w (Gave w0 l x n) := by
  refine Calls.mono (R := Gives w x n) ?_ (fun e w' h => h.gave H)
  have hx := hx.out
  unfold parO at hx
  rw [L_length] at hx
  by_cases hl : 20000 < s.size
  · rw [if_pos hl] at hx
    injection hx with h1 h2
    subst h1 h2
    exact Parse_long s w hl hm
  · rw [if_neg hl] at hx
    rcases Nat.eq_zero_or_pos s.size with h0 | h0
    · obtain rfl := empty_str h0
      have : formB (L ⟨#[]⟩) = false := rfl
      rw [this] at hx
      injection hx with h1 h2
      subst h1 h2
      exact Parse_empty w
    · have hne : L s ≠ [] := fun h => by have := L_length s; rw [h] at this; simp at this; omega
      have he : s.toList.isEmpty = false := by
        rw [toList_L]; cases h : L s with
        | nil => exact absurd h hne
        | cons a r => rfl
      have hh : (L s).head? = some s[0] := by
        rw [List.head?_eq_getElem?]
        simp [L, h0]; rfl
      obtain ⟨bv, hb⟩ : ∃ bv, (L s).any (fun x => !isDg x) = bv := ⟨_, rfl⟩
      have hall : (L s).all isDg = !bv := by rw [List.all_eq_not_any_not, hb]
      unfold formB at hx
      rw [hall, decide_eq_true hne] at hx
      by_cases h1 : L s = [48]
      · rw [decide_eq_true h1] at hx
        refine Parse_one s w (by omega) h0 he (by rw [toList_L, h1]; rfl) bv hb x n (fun h => ?_) (fun h => ?_)
        · subst h; simpa using hx
        · subst h; simpa using hx
      · rw [decide_eq_false h1, hh] at hx
        have hz : (s.toList == [48]) = false := by rw [toList_L]; exact beq_eq_false_iff_ne.2 h1
        by_cases h2 : s[0] = 48
        · have : decide (some s[0] ≠ some 48) = false := decide_eq_false (by rw [h2]; simp)
          rw [this] at hx
          simp at hx
          obtain ⟨h3, h4⟩ := hx
          subst h3 h4
          exact Parse_zero s w (by omega) h0 _ rfl (by rw [h2]; rfl) he hz
        · have : decide (some s[0] ≠ some 48) = true := decide_eq_true (by simpa using h2)
          rw [this] at hx
          have hc : (((s[0].toNat : Nat) : Int) != 48) = true := by
            rw [bne_iff_ne]; intro h; apply h2
            exact UInt8.toNat_inj.1 (by show s[0].toNat = 48; omega)
          refine Parse_d s w (by omega) h0 he h0 _ rfl hc hz bv hb x n (fun h => ?_) (fun h => ?_)
          · subst h; simpa using hx
          · subst h; simpa using hx
end Go.Proofs.YtfcfejlffmddnaaGreatDoor
end
section
/- Contracts of the reference: at, Same, Trim, Of. -/
namespace Go.Proofs.YtfcfejlffmddnaaGreatDoor
open Go.RowKit
set_option linter.unusedSimpArgs false
set_option linter.unusedVariables false

set_option maxHeartbeats 400000 in
theorem rat_calls (A : Option Addr) (c k : Nat) (l : List Int) (i : Nat) (w : World) (xi : Int) (hk : Hid (l.length = k)) (hl : k ≤ 9223372036854775807) (hR : Rd .u32 w A l) (hd : Hid (dgs l)) (h : Hid (l.getD i 0 = xi)) :
    Calls Tryz.prog 81 #[.slice A k c, .int .i64 i] w fun e w' => e = .returned (.int .u64 xi) ∧ w = w' := by
  obtain ⟨d0, d1⟩ := dgs_getD hd.out i
  rw [h.out] at d0 d1
  by_cases hlt : i < k
  · obtain ⟨x, hx⟩ : ∃ x, l[i]? = some x := ⟨_, List.getElem?_eq_getElem (by rw [hk.out]; exact hlt)⟩
    obtain ⟨b, o, rfl, hcc⟩ := hR (by rintro rfl; simp at hx)
    have hcell := hcc i x hx
    obtain rfl : xi = x := by rw [← h.out, List.getD_eq_getElem?_getD, hx]; rfl
    have hni : ¬ (k : Int) ≤ i := by omega
    clear hcc hx h hR hd hk
    go_enter Tryz.func81, Tryz.ntmps81
    go_wp2
    go_ret
    exact ⟨rfl, rfl⟩
  · obtain rfl : xi = 0 := by rw [← h.out, List.getD_eq_getElem?_getD, List.getElem?_eq_none (by rw [hk.out]; omega)]; rfl
    have hni : (k : Int) ≤ i := by omega
    clear h hR hd hk
    go_enter Tryz.func81, Tryz.ntmps81
    go_wp2
    go_ret
    exact ⟨rfl, rfl⟩
variable {w0 w : World} {l : List (Option Addr × Nat × Nat × Nat)}
theorem rat_h (H : Has w0 w l) (A1 : Option Addr) (k1 c1 x : Nat) (i : Nat) (h1 : (A1, k1, c1, x) ∈ l) (b1 : k1 ≤ 1099511627776) (xi : Int) (h : Hid ((dg x).getD i 0 = xi)) :
    Calls Tryz.prog 81 #[.slice A1 k1 c1, .int .i64 i] w fun e w' => e = .returned (.int .u64 xi) ∧ w = w' := by
  obtain ⟨r1, e1, _, _⟩ := H.at h1
  exact rat_calls A1 c1 k1 (dg x) i w xi (Lib.hid e1) (by omega) r1 (Lib.hid (dgs_dg x)) h
theorem same_lists (x y k : Nat) (h1 : (dg x).length = k) (h2 : (dg y).length = k) (h : (dg x).take k = (dg y).take k) : x = y := by
  rw [List.take_of_length_le (by omega), List.take_of_length_le (by omega)] at h
  exact dg_inj h
set_option maxRecDepth 10000 in
set_option maxHeartbeats 1000000 in
theorem rsame_h (H : Has w0 w l) (A1 : Option Addr) (k1 c1 x : Nat) (A2 : Option Addr) (k2 c2 y : Nat) (h1 : (A1, k1, c1, x) ∈ l) (h2 : (A2, k2, c2, y) ∈ l) (b1 : k1 ≤ 1099511627776) (b2 : k2 ≤ 1099511627776) (b : Bool) (hb : Hid (decide (x = y) = b)) :
    Calls Tryz.prog 31 #[.slice A1 k1 c1, .slice A2 k2 c2] w fun e w' => e = .returned (.bool b) ∧ Has w0 w' l := by
  obtain ⟨r1, e1, _, _⟩ := H.at h1
  obtain ⟨r2, e2, _, _⟩ := H.at h2
  have HH := Lib.hid H
  have R1 := Lib.hid r1
  have R2 := Lib.hid r2
  have E1 := Lib.hid e1
  have E2 := Lib.hid e2
  clear H r1 r2 e1 e2 h1 h2
  by_cases hk : k1 = k2
  · subst hk
    have hkk : ((k1 : Int) != k1) = false := by simp
    go_enter Tryz.func31, Tryz.ntmps31
    go_wp2
    go_loopw [5] (fun v wr => ∃ i : Nat, i ≤ k1 ∧ v = .int .i64 i ∧ Hid ((dg x).take i = (dg y).take i) ∧ Hid (Below w.heap.size w wr)) (fun v wr => k1 - (intOf v).toNat)
    case atStart => exact ⟨0, Nat.zero_le _, rfl, Lib.hid (by simp), Lib.hid (Below.refl _ _)⟩
    case round =>
      obtain ⟨i, hi, rfl, HA, HB⟩ := hrel
      by_cases hlt : i < k1
      · obtain ⟨xi, hxi⟩ : ∃ z, (dg x)[i]? = some z := ⟨_, List.getElem?_eq_getElem (by rw [E1.out]; exact hlt)⟩
        obtain ⟨yi, hyi⟩ : ∃ z, (dg y)[i]? = some z := ⟨_, List.getElem?_eq_getElem (by rw [E2.out]; exact hlt)⟩
        obtain ⟨ba, oa, rfl, hca⟩ := (R1.out.below HB.out) (by intro h; rw [h] at hxi; simp at hxi)
        obtain ⟨bb, ob, rfl, hcb⟩ := (R2.out.below HB.out) (by intro h; rw [h] at hyi; simp at hyi)
        have cx := hca i _ hxi
        have cy := hcb i _ hyi
        have HX := Lib.hid hxi
        have HY := Lib.hid hyi
        clear hca hcb hxi hyi
        by_cases he : xi = yi
        · subst he
          have hee : (xi != xi) = false := by simp
          have HN : Hid ((dg x).take (i + 1) = (dg y).take (i + 1)) := Lib.hid (by rw [List.take_add_one, List.take_add_one, HA.out, HX.out, HY.out])
          go_wp2
          go_quiet (fail)
          go_wp2
          go_roundw
          case rel => exact ⟨i + 1, by omega, by go_num, HN, Lib.hid (below_drewN HB.out _)⟩
          case measure => simp [intOf]; omega
        · have hee : (xi != yi) = true := by simpa using he
          obtain rfl : b = false := by
            rw [← hb.out, decide_eq_false_iff_not]
            intro h
            subst h
            have := HX.out.symm.trans HY.out
            injection this with this
            exact he this
          clear HX HY
          go_wp2
          go_quiet (fail)
          go_wp2
          go_ret
          exact ⟨rfl, HH.out.below (below_drewN HB.out _)⟩
      · obtain rfl : i = k1 := by omega
        obtain rfl : b = true := by
          rw [← hb.out, decide_eq_true_iff]
          exact same_lists x y i E1.out E2.out HA.out
        go_wp2
        go_ret
        exact ⟨rfl, HH.out.below HB.out⟩
  · have hkk : ((k1 : Int) != k2) = true := by simp; omega
    obtain rfl : b = false := by
      rw [← hb.out, decide_eq_false_iff_not]
      intro h
      subst h
      exact hk (E1.out.symm.trans E2.out)
    go_enter Tryz.func31, Tryz.ntmps31
    go_wp2
    go_ret
    exact ⟨rfl, HH.out⟩
theorem eqnilN (A : Option Addr) (n c n' c' : Nat) (w : World) : (binOp .eql 23 (.slice A n c) (.slice none n' c')).run Tryz.prog w = .ok (.bool A.isNone) w := Lib.run_eql_slice_nil w _ _ A n c n' c' Tryz.underlying23
set_option maxRecDepth 10000 in
set_option maxHeartbeats 2000000 in
theorem rtrim_calls (A : Option Addr) (c k : Nat) (g : List Int) (x : Nat) (w : World) (hk : g.length = k) (hkc : k ≤ c) (hcm : c ≤ 9223372036854775807) (hkb : k ≤ 1099511627776) (hd : dgs g) (hv : vl g = x) (hR : Rd .u32 w A g) :
    Calls Tryz.prog 74 #[.slice A k c] w fun e w' => ∃ A' c', e = .returned (.slice A' (dg x).length c') ∧ Rd .u32 w' A' (dg x) ∧ (dg x).length ≤ c' ∧ c' ≤ 9223372036854775807 ∧ Below w.heap.size w w' := by
  obtain ⟨i0, hi, hz0, hz1, hz2⟩ : ∃ i, Tryz.prog.info? 57 = some i ∧ i.zero = some (.int .u32 0) ∧ i.size = 1 ∧ i.bytes = 4 := by
    obtain ⟨i, hi, hzz⟩ := Option.map_eq_some_iff.1 info57
    simp only [Prod.mk.injEq] at hzz
    exact ⟨i, hi, hzz.1, hzz.2.1, hzz.2.2⟩
  have hfin : ∀ m, m ≤ k → (∀ j z, m ≤ j → g[j]? = some z → z = 0) → (∀ z, 0 < m → g[m - 1]? = some z → z ≠ 0) → m = (dg x).length ∧ g.take m = dg x := fun m h1 h2 h3 => by
    have h4 := trim_end g hd m (by omega) h2 h3 x hv
    have h5 := congrArg List.length h4
    rw [List.length_take, Nat.min_eq_left (by omega)] at h5
    exact ⟨h5, h4⟩
  have HF := Lib.hid hfin
  have HK := Lib.hid hk
  have HR := Lib.hid hR
  clear hfin hk hR hd hv
  go_enter Tryz.func74, Tryz.ntmps74
  go_wp2_with fail
  go_loop [3] (fun v => ∃ m : Nat, m ≤ k ∧ v = .int .i64 m ∧ Hid (∀ j z, m ≤ j → g[j]? = some z → z = 0)) (fun v => (intOf v).toNat)
  case atStart => exact ⟨k, Nat.le_refl _, rfl, Lib.hid (fun j z hj hz => by
    have := (List.getElem?_eq_some_iff.1 hz).1
    rw [HK.out] at this; omega)⟩
  case round =>
    obtain ⟨m, hm, rfl, hz⟩ := hrel
    by_cases hm0 : m = 0
    · subst hm0
      obtain ⟨f1, f2⟩ := HF.out 0 (Nat.zero_le _) hz.out (fun z h => absurd h (by omega))
      have F1 := Lib.hid f1
      have F2 := Lib.hid f2
      clear f1 f2
      cases A with
      | none =>
        clear hi hz0 hz1 hz2
        go_wp2_with fail
        go_ret
        refine ⟨some ⟨w.heap.size, 0, none⟩, 0, by rw [← F1.out]; rfl, ?_, by rw [← F1.out]; exact Nat.zero_le _, by omega, (Below.refl _ w).alloc (Nat.le_refl _) _⟩
        rw [← F2.out, List.take_zero]; exact Rd.nil
      | some a =>
        go_wp2_with (at_builtin; refine wpList_append_own _ rfl _ _ 23 rfl w.heap.size 57 i0 (.int .u32 0) 1 4 Tryz.underlying23 hi hz0 hz1 hz2 rfl (by decide) _ _ _ rfl (World.ownsRow_made w #[] 0 (Nat.le_refl _) (Nat.zero_le _) rfl) a 0 c [] rfl (by simp) (by simp) (by simp) (by simp) (by simp) (by simp) ?_)
        intro v' w1 hown hgrow hnil
        clear hi hz0 hz1 hz2 hnil
        go_wp2
        go_ret
        obtain ⟨A', c', rfl, h1, h2, h3⟩ := row_rd (l := []) rfl hown
        refine ⟨A', c', by rw [← F1.out]; rfl, ?_, by rw [← F1.out]; exact Nat.zero_le _, h3, ((Below.refl _ w).alloc (Nat.le_refl _) _).grown hgrow (by simp) (by intro k hk; simp [Value.ownBlock] at hk; omega)⟩
        rw [← F2.out]; exact h1
    · obtain ⟨m, rfl⟩ : ∃ m', m = m' + 1 := ⟨m - 1, by omega⟩
      obtain ⟨z, hx⟩ : ∃ z, g[m]? = some z := ⟨_, List.getElem?_eq_getElem (by rw [HK.out]; omega)⟩
      obtain ⟨b, o, rfl, hcc⟩ := HR.out (by rintro rfl; simp at hx)
      have hcell := hcc m z hx
      have hmm : ((m + 1 : Nat) : Int) - 1 = m := by omega
      by_cases hzz : z = 0
      · have Hx : Hid (g[m]? = some 0) := by rw [hzz] at hx; exact Lib.hid hx
        have hzb : (z == 0) = true := beq_iff_eq.2 hzz
        clear hcc hx hzz hi hz0 hz1 hz2
        go_wp2_with fail
        go_round
        case rel => exact ⟨m, by omega, by first | rfl | (congr 1), Lib.hid (fun j y hj hy => by
          by_cases e : j = m
          · subst e; rw [Hx.out] at hy; injection hy with hy; exact hy.symm
          · exact hz.out j y (by omega) hy)⟩
        case measure => simp [intOf]
      · have hzb : (z == 0) = false := beq_eq_false_iff_ne.2 hzz
        obtain ⟨f1, f2⟩ := HF.out (m + 1) hm hz.out (fun y _ hy => by
          rw [Nat.add_sub_cancel, hx] at hy; injection hy with hy; rw [← hy]; exact hzz)
        have F1 := Lib.hid f1
        have F2 := Lib.hid f2
        have HC := Lib.hid hcc
        clear f1 f2 hcc hx hzz
        obtain ⟨gl, hgl⟩ : ∃ gl, g.take (m + 1) = gl := ⟨_, rfl⟩
        have HGL := Lib.hid hgl
        have hrow : Hid (∀ j u, (gl.map (Value.int .u32))[j]? = some u → (w.alloc (.cells #[] 57)).cell? ((⟨b, o, none⟩ : Addr).add j) = some u) := Lib.hid (fun j u hj => by
          rw [List.getElem?_map] at hj
          obtain ⟨y, hy, rfl⟩ := Option.map_eq_some_iff.1 hj
          rw [show (⟨b, o, none⟩ : Addr).add j = ⟨b, o + j, none⟩ from by unfold Addr.add; split <;> simp_all]
          rw [← hgl, List.getElem?_take] at hy
          split at hy
          · exact Lib.cell?_alloc_some _ (HC.out j y hy)
          · cases hy)
        have hlen : (gl.map (Value.int .u32)).length = (m + 1) * 1 := by rw [List.length_map, ← hgl, List.length_take, HK.out]; omega
        have HLEN := Lib.hid hlen
        clear hlen hgl
        go_wp2_with (at_builtin; refine wpList_append_own _ rfl _ _ 23 rfl w.heap.size 57 i0 (.int .u32 0) 1 4 Tryz.underlying23 hi hz0 hz1 hz2 rfl (by decide) _ _ _ rfl (World.ownsRow_made w #[] 0 (Nat.le_refl _) (Nat.zero_le _) rfl) ⟨b, o, none⟩ (m + 1) c (gl.map (Value.int .u32)) rfl HLEN.out hrow.out (fun u hu => by obtain ⟨x, _, rfl⟩ := List.mem_map.1 hu; rfl) (by unfold maxLen; omega) (by omega) (by simp) ?_)
        intro v' w1 hown hgrow hnil
        clear hi hz0 hz1 hz2 hnil
        go_wp2
        go_ret
        obtain ⟨A', c', rfl, h1, h2, h3⟩ := row_rd (l := gl) (by have := HLEN.out; rwa [List.length_map, Nat.mul_one] at this) hown
        refine ⟨A', c', by rw [← F1.out]; rfl, ?_, by rw [← F1.out]; exact h2, h3, ((Below.refl _ w).alloc (Nat.le_refl _) _).grown hgrow (by simp) (by intro k hk; simp [Value.ownBlock] at hk; omega)⟩
        rw [← F2.out, HGL.out]; exact h1
theorem rtrim_h (H : Has w0 w l) (A1 : Option Addr) (k1 c1 x : Nat) (h1 : (A1, k1, c1, x) ∈ l) (b1 : k1 ≤ 1099511627776) :
    Calls Tryz.prog 74 #[.slice A1 k1 c1] w (Made w0 l x k1) := by
  obtain ⟨r1, e1, p1, q1⟩ := H.at h1
  refine (rtrim_calls A1 c1 k1 (dg x) x w e1 p1 q1 b1 (dgs_dg x) (vl_dg x) r1).mono ?_
  rintro e w' ⟨A', c', rfl, hr, h2, h3, hb⟩
  exact ⟨A', _, c', x, rfl, Lib.hid rfl, by omega, (H.below hb).cons hr rfl h2 h3⟩
theorem shr32_u64 (n : Nat) (h : n < 18446744073709551616) : (n : Int) / 4294967296 % 4294967296 = ((n / 4294967296 : Nat) : Int) := by omega
set_option maxRecDepth 10000 in
theorem rof_h (H : Has w0 w l) (n : Nat) (hn : n < 18446744073709551616) :
    Calls Tryz.prog 58 #[.int .u64 n] w (Made w0 l n 2) := by
  obtain ⟨x0, hx0⟩ : ∃ x0 : Nat, (n : Int) % 4294967296 = x0 := ⟨n % 4294967296, by omega⟩
  obtain ⟨x1, hx1⟩ : ∃ x1 : Nat, (n : Int) / 4294967296 = x1 := ⟨n / 4294967296, by omega⟩
  have hx1m : (x1 : Int) % 4294967296 = x1 := by omega
  obtain ⟨w1, hw1⟩ : ∃ w1, w.alloc (.cells #[.int .u32 x0, .int .u32 x1] 57) = w1 := ⟨_, rfl⟩
  have hb1 : Below w.heap.size w w1 := by rw [← hw1]; exact (Below.refl _ _).alloc (Nat.le_refl _) _
  have hr : Rd .u32 w1 (some ⟨w.heap.size, 0, none⟩) [(x0 : Int), (x1 : Int)] := by
    rw [← hw1]
    intro _
    refine ⟨_, 0, rfl, fun j y hy => ?_⟩
    rw [Lib.cell_of_heap (World.alloc_heap_new w _)]
    match j, hy with
    | 0, hy => simp at hy; subst hy; rfl
    | 1, hy => simp at hy; subst hy; rfl
  have hT := rtrim_calls (some ⟨w.heap.size, 0, none⟩) 2 2 [(x0 : Int), (x1 : Int)] n w1 rfl (Nat.le_refl _) (by omega) (by omega) (by intro y hy; simp at hy; omega) (by simp [vl]; omega) hr
  have HT := Lib.hid hT
  have HH := Lib.hid (H.below hb1)
  have hln : (dg n).length ≤ 2 := len_of_lt (by rw [show (4294967296 : Nat) ^ 2 = 18446744073709551616 from rfl]; exact hn)
  have HL := Lib.hid hln
  clear hT hr hb1 H hln
  go_enter Tryz.func58, Tryz.ntmps58
  go_wp2_with fail
  refine HT.out.mono ?_
  rintro e w' ⟨A', c', rfl, hr, h2, h3, hb⟩
  go_wp2_with fail
  go_ret
  exact ⟨A', _, c', n, rfl, Lib.hid rfl, HL.out, (HH.out.below hb).cons hr rfl h2 h3⟩
end Go.Proofs.YtfcfejlffmddnaaGreatDoor
end
section
/- The law's helpers: light, refused, is, alike, numbers; the reference's Fits, Valid. -/
namespace Go.Proofs.YtfcfejlffmddnaaGreatDoor
open Go.RowKit
set_option linter.unusedSimpArgs false
set_option linter.unusedVariables false

variable {w0 w : World} {l : List (Option Addr × Nat × Nat × Nat)}
theorem light_calls (A : Option Addr) (k c : Nat) (m : Nat) (w : World) (b : Bool) (hb : Hid (decide (k ≤ m) = b)) :
    Calls Tryz.prog 19 #[.slice A k c, .int .i64 m] w fun e w' => e = .returned (.bool b) ∧ w = w' := by
  have hd : decide ((k : Int) ≤ m) = b := by
    rw [← hb.out]
    by_cases h : k ≤ m
    · rw [decide_eq_true h, decide_eq_true (by omega)]
    · rw [decide_eq_false h, decide_eq_false (by omega)]
  have hd2 := hb.out
  clear hb
  go_enter Tryz.func19, Tryz.ntmps19
  go_wp2
  go_ret
  exact ⟨rfl, rfl⟩
theorem fits_calls (A : Option Addr) (k c : Nat) (w : World) (b : Bool) (hb : Hid (decide (k ≤ 1024) = b)) :
    Calls Tryz.prog 73 #[.slice A k c] w fun e w' => e = .returned (.bool b) ∧ w = w' := by
  have hd : decide ((k : Int) ≤ 1024) = b := by
    rw [← hb.out]
    by_cases h : k ≤ 1024
    · rw [decide_eq_true h, decide_eq_true (by omega)]
    · rw [decide_eq_false h, decide_eq_false (by omega)]
  clear hb
  go_enter Tryz.func73, Tryz.ntmps73
  go_wp2
  go_ret
  exact ⟨rfl, rfl⟩
theorem refused_calls (A : Option Addr) (c : Nat) (x y : Int) (w : World) (b : Bool) (hb : Hid (decide (x = y) = b)) :
    Calls Tryz.prog 24 #[.slice A 0 c, .int .i64 x, .int .i64 y] w fun e w' => e = .returned (.bool b) ∧ w = w' := by
  by_cases h : x = y
  · subst h
    obtain rfl : b = true := by rw [← hb.out]; simp
    clear hb
    go_enter Tryz.func24, Tryz.ntmps24
    go_wp2
    go_ret
    exact ⟨rfl, rfl⟩
  · obtain rfl : b = false := by rw [← hb.out]; simp [h]
    have hxy : (x == y) = false := by simpa using h
    clear hb
    go_enter Tryz.func24, Tryz.ntmps24
    go_wp2
    go_ret
    exact ⟨rfl, rfl⟩
theorem alike_h (H : Has w0 w l) (A1 : Option Addr) (k1 c1 x : Nat) (A2 : Option Addr) (k2 c2 y : Nat) (h1 : (A1, k1, c1, x) ∈ l) (h2 : (A2, k2, c2, y) ∈ l) (b1 : k1 ≤ 1099511627776) (b2 : k2 ≤ 1099511627776) (e f : Int) (b : Bool) (hb : Hid (decide (e = f ∧ x = y) = b)) :
    Calls Tryz.prog 45 #[.slice A1 k1 c1, .int .i64 e, .slice A2 k2 c2, .int .i64 f] w fun r w' => r = .returned (.bool b) ∧ Has w0 w' l := by
  have HS := Lib.hid (rsame_h H A1 k1 c1 x A2 k2 c2 y h1 h2 b1 b2 b)
  have HH := Lib.hid H
  clear H h1 h2
  by_cases h : e = f
  · subst h
    have hs : Hid (decide (x = y) = b) := Lib.hid (by rw [← hb.out]; simp)
    clear hb
    cases b
    all_goals
      go_enter Tryz.func45, Tryz.ntmps45
      go_wp2_with fail
      refine (HS.out hs).mono ?_
      rintro r w' ⟨rfl, H1⟩
      go_wp2_with fail
      go_ret
      exact ⟨rfl, H1⟩
  · obtain rfl : b = false := by rw [← hb.out]; simp [h]
    have hxy : (e == f) = false := by simpa using h
    clear hb HS
    go_enter Tryz.func45, Tryz.ntmps45
    go_wp2
    go_ret
    exact ⟨rfl, HH.out⟩
theorem is_fit (H : Has w0 w l) (A1 : Option Addr) (k1 c1 x : Nat) (A2 : Option Addr) (k2 c2 y : Nat) (h1 : (A1, k1, c1, x) ∈ l) (h2 : (A2, k2, c2, y) ∈ l) (b1 : k1 ≤ 1099511627776) (b2 : k2 ≤ 1024) (b : Bool) (hb : Hid (decide (x = y) = b)) :
    Calls Tryz.prog 26 #[.slice A1 k1 c1, .int .i64 0, .slice A2 k2 c2] w fun r w' => r = .returned (.bool b) ∧ Has w0 w' l := by
  have HS := Lib.hid (rsame_h H A1 k1 c1 x A2 k2 c2 y h1 h2 b1 (by omega) b hb)
  have HF := Lib.hid (fits_calls A2 k2 c2 w true (Lib.hid (decide_eq_true b2)))
  clear H h1 h2 hb
  cases b
  all_goals
    go_enter Tryz.func26, Tryz.ntmps26
    go_wp2_with fail
    refine HF.out.mono ?_
    rintro r w' ⟨rfl, rfl⟩
    go_wp2_with fail
    refine HS.out.mono ?_
    rintro r w' ⟨rfl, H1⟩
    go_wp2_with fail
    go_ret
    exact ⟨rfl, H1⟩
theorem is_big (A1 : Option Addr) (c1 : Nat) (A2 : Option Addr) (k2 c2 : Nat) (w : World) (b2 : 1024 < k2) :
    Calls Tryz.prog 26 #[.slice A1 0 c1, .int .i64 2, .slice A2 k2 c2] w fun r w' => r = .returned (.bool true) ∧ w = w' := by
  have HF := Lib.hid (fits_calls A2 k2 c2 w false (Lib.hid (decide_eq_false (by omega))))
  go_enter Tryz.func26, Tryz.ntmps26
  go_wp2_with fail
  refine HF.out.mono ?_
  rintro r w' ⟨rfl, rfl⟩
  go_wp2_with fail
  go_ret
  exact ⟨rfl, rfl⟩
/-- The word on is, for a number that was given by giv. -/
theorem is_giv (H : Has w0 w l) (A1 : Option Addr) (k1 c1 n : Nat) (A2 : Option Addr) (k2 c2 y : Nat) (x : Int) (h1 : (A1, k1, c1, n) ∈ l) (h2 : (A2, k2, c2, y) ∈ l) (b1 : k1 ≤ 1024) (hg : Hid (giv y = (x, n))) (b : Bool) (hb : b = true) :
    Calls Tryz.prog 26 #[.slice A1 k1 c1, .int .i64 x, .slice A2 k2 c2] w fun r w' => r = .returned (.bool b) ∧ Has w0 w' l := by
  subst hb
  have e1 := H.len h1
  have e2 := H.len h2
  have hg := hg.out
  by_cases hk : k2 ≤ 1024
  · rw [giv_ok (by omega)] at hg
    injection hg with hx hn
    subst hx hn
    exact is_fit H A1 k1 c1 y A2 k2 c2 y h1 h2 (by omega) hk true (Lib.hid (by simp))
  · rw [giv_no (by omega)] at hg
    injection hg with hx hn
    subst hx hn
    obtain rfl : k1 = 0 := by rw [← e1, dg_zero]; rfl
    exact (is_big A1 c1 A2 k2 c2 w (by omega)).mono (by rintro e w' ⟨rfl, rfl⟩; exact ⟨rfl, H⟩)
end Go.Proofs.YtfcfejlffmddnaaGreatDoor
end
