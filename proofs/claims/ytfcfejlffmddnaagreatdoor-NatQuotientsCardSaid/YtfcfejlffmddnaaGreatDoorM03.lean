/- Package nat, its reference and its laws' helpers, part 3 (NN NO NP NQ NR NS NT). -/
import Derived.Test.YtfcfejlffmddnaaGreatDoorM02
section
/- Contracts: cmp. -/
namespace Go.Proofs.YtfcfejlffmddnaaGreatDoor
open Go.RowKit Go.Shelf
attribute [local go_sem] Oper.semAt_some
set_option linter.unusedSimpArgs false
set_option linter.unusedVariables false

theorem backward_calls (A : Option Addr) (c k : Nat) (w : World) :
    Calls Tryz.prog 109 #[.slice A k c] w fun r w' => r = .returned (.func (.func 133) #[] #[.pointer (some ⟨w.heap.size, 0, none⟩)]) ∧ w.alloc (.cells #[.slice A k c] 78) = w' := by
  have hmf : ∀ (fn : Fn) (first cap : Array Value) (w : World), (Instr.makeFunc fn first cap).run Tryz.prog w = .ok (.func fn first cap) w := fun _ _ _ _ => rfl
  go_enter Tryz.func109, Tryz.ntmps109
  go_wp2
  go_ret
  exact ⟨rfl, rfl⟩
def cmpI (x y : Nat) : Int := if x < y then -1 else if y < x then 1 else 0
/-- Between two rounds. -/
structure CI (w : World) (A1 : Option Addr) (c1 x : Nat) (A2 : Option Addr) (c2 y : Nat) (k0 k : Nat) (W : World) : Prop where
  b3 : Boxed W w.heap.size 78 (.slice A2 k0 c2)
  b4 : ∃ v, Boxed W (w.heap.size + 1) 3 v
  b5 : Boxed W (w.heap.size + 2) 78 (.slice A1 k0 c1)
  bl : Below w.heap.size w W
  hk : k ≤ k0
  eq : (dg x).drop (k0 - k) = (dg y).drop (k0 - k)
/-- Where a round has returned. -/
structure CE (w : World) (r : Int) (W : World) : Prop where
  b4 : Boxed W (w.heap.size + 1) 3 (.int .i64 r)
  bl : Below w.heap.size w W
theorem CE.turn {w : World} {r : Int} {W : World} (h : CE w r W) {l : Nat} {o : Obj} (o' : Obj) (hl : W.heap[l]? = some o) (ho : o.isCells = false) (hle : w.heap.size ≤ l) : CE w r (W.putObj l o') :=
  ⟨Boxed.turn h.b4 o' hl ho, below_turn h.bl o' hl (Nat.le_refl _) hle⟩
theorem CI.turn {w : World} {A1 : Option Addr} {c1 x : Nat} {A2 : Option Addr} {c2 y : Nat} {k0 k : Nat} {W : World} (h : CI w A1 c1 x A2 c2 y k0 k W) {l : Nat} {o : Obj} (o' : Obj) (hl : W.heap[l]? = some o) (ho : o.isCells = false) (hle : w.heap.size ≤ l) : CI w A1 c1 x A2 c2 y k0 k (W.putObj l o') := by
  obtain ⟨v, hv⟩ := h.b4
  exact ⟨Boxed.turn h.b3 o' hl ho, ⟨v, Boxed.turn hv o' hl ho⟩, Boxed.turn h.b5 o' hl ho, below_turn h.bl o' hl (Nat.le_refl _) hle, h.hk, h.eq⟩
theorem CI.alloc {w : World} {A1 : Option Addr} {c1 x : Nat} {A2 : Option Addr} {c2 y : Nat} {k0 k : Nat} {W : World} (h : CI w A1 c1 x A2 c2 y k0 k W) (o : Obj) : CI w A1 c1 x A2 c2 y k0 k (W.alloc o) := by
  obtain ⟨v, hv⟩ := h.b4
  exact ⟨h.b3.alloc o, ⟨v, hv.alloc o⟩, h.b5.alloc o, h.bl.alloc h.bl.size o, h.hk, h.eq⟩
theorem cmp_top (x y k0 i : Nat) (xi yi : Int) (h1 : (dg x).length = k0) (h2 : (dg y).length = k0) (hx : (dg x)[i]? = some xi) (hy : (dg y)[i]? = some yi) (he : (dg x).drop (i + 1) = (dg y).drop (i + 1)) :
    (xi < yi → x < y) ∧ (yi < xi → y < x) ∧ (xi = yi → (dg x).drop i = (dg y).drop i) := by
  refine ⟨fun h => ?_, fun h => ?_, fun h => ?_⟩
  · have := vl_cmp (dg x) (dg y) (dgs_dg x) (dgs_dg y) i xi yi hx hy he h
    rw [vl_dg, vl_dg] at this; omega
  · have := vl_cmp (dg y) (dg x) (dgs_dg y) (dgs_dg x) i yi xi hy hx he.symm h
    rw [vl_dg, vl_dg] at this; omega
  · have e1 := List.drop_eq_getElem_cons (List.getElem?_eq_some_iff.1 hx).1
    have e2 := List.drop_eq_getElem_cons (List.getElem?_eq_some_iff.1 hy).1
    rw [e1, e2, (List.getElem?_eq_some_iff.1 hx).2, (List.getElem?_eq_some_iff.1 hy).2, h, he]

set_option maxRecDepth 10000 in
set_option maxHeartbeats 4000000 in
theorem cmp_calls (A1 A2 : Option Addr) (c1 c2 x y : Nat) (w : World) (hx : (dg x).length ≤ 1099511627776) (hy : (dg y).length ≤ 1099511627776) (h1 : Rd .u32 w A1 (dg x)) (h2 : Rd .u32 w A2 (dg y)) :
    Calls Tryz.prog 69 #[.slice A1 (dg x).length c1, .slice A2 (dg y).length c2] w fun e w' => e = .returned (.int .i64 (cmpI x y)) ∧ Below w.heap.size w w' := by
  have hbb : ∀ v, Below w.heap.size w ((w.alloc (.cells #[.slice A2 (dg y).length c2] 78)).alloc (.cells #[v] 3)) := fun v =>
    ((Below.refl _ _).alloc (Nat.le_refl _) _).alloc (by simp) _
  rcases Nat.lt_trichotomy (dg x).length (dg y).length with hl | hl | hl
  · have hlt := cmp_len hl
    have hr : cmpI x y = -1 := by rw [cmpI, if_pos hlt]
    rw [hr]
    have hz : ((dg x).length : Int) < (dg y).length := by omega
    clear h1 h2 hlt hr
    go_enter Tryz.func69, Tryz.ntmps69
    go_wp2
    exact bodyPost_ret (v := .int .i64 (-1)) (by simp [results, Tryz.results69, go_sem]) rfl ⟨rfl, hbb _⟩
  · obtain ⟨k0, hk0⟩ : ∃ k, (dg x).length = k := ⟨_, rfl⟩
    rw [hk0] at hl hx
    rw [hk0, ← hl]
    obtain ⟨w3, hw3⟩ : ∃ w3, w3 = ((w.alloc (.cells #[.slice A2 k0 c2] 78)).alloc (.cells #[.int .i64 0] 3)).alloc (.cells #[.slice A1 k0 c1] 78) := ⟨_, rfl⟩
    have hs3 : w3.heap.size = w.heap.size + 3 := by subst hw3; simp
    have h3 : CI w A1 c1 x A2 c2 y k0 0 w3 := by
      subst hw3
      have nb : ∀ (W : World) (n : Nat) (t : TypeId) (v : Value), W.heap.size = n → Boxed (W.alloc (.cells #[v] t)) n t v := fun W n t v h => by subst h; exact Boxed.new W t v
      refine ⟨((nb _ _ _ _ rfl).alloc _).alloc _, ⟨_, (nb _ _ 3 _ (by simp)).alloc _⟩, nb _ _ _ _ (by simp), (((Below.refl _ _).alloc (Nat.le_refl _) _).alloc (by simp) _).alloc (by simp; omega) _, Nat.zero_le _, ?_⟩
      rw [List.drop_of_length_le (by omega), List.drop_of_length_le (by omega)]
    have HK := Lib.hid hk0
    have HL := Lib.hid hl
    clear hk0 hl hbb
    refine (callsIn_wide (n := 9)).1 ?_
    refine callsIn_of_wp_marks Tryz.func69 rfl trivial ?_ rfl
    simp only [Tryz.ntmps69, List.size_toArray, List.length_cons, List.length_nil, Nat.reduceAdd, Nat.reduceSub, Array.replicate_succ, Array.replicate_zero, List.push_toArray, List.append_toArray, List.nil_append, List.cons_append]
    gi_wp2_with (refine ⟨trivial, ?_⟩; gi_at_call 109; refine (callsIn_wide.2 (backward_calls A1 c1 k0 _)).mono ?_; rintro r w1 ⟨rfl, rfl⟩)
    simp only [Nat.add_assoc, Nat.reduceAdd]
    rw [← hw3]
    clear hw3
    refine range_seq (n := 9) (by omega) (gf := 133) (lb := #[.pointer (some ⟨w.heap.size + 2, 0, none⟩)]) rfl (enters_of Tryz.func133 (by kernel_rfl) rfl)
      (enc := fun k => #[.int .i64 ((k0 - 1 - k : Nat) : Int), .int .u32 ((dg x).getD (k0 - 1 - k) 0)]) (fun _ => rfl) (S := fun k => k = k0) (N := k0)
      (fun k W => CI w A1 c1 x A2 c2 y k0 k W)
      (fun c' k W => c' = .ret ∧ CE w (cmpI x y) W)
      (fun k W l o o' h hle hl ho => h.turn o' hl ho (by omega))
      (fun c' k W l o o' h hle hl ho => by obtain ⟨h1, h2⟩ := h; exact ⟨h1, h2.turn o' hl ho (by omega)⟩)
      ?iter (fun o => (h3.alloc _).alloc o)
      (fun k => { tmps := #[.slice A1 k0 c1, .slice A2 k0 c2, undef, .pointer (some ⟨w.heap.size, 0, none⟩), .pointer (some ⟨w.heap.size + 1, 0, none⟩), .int .i64 ((k0 - 1 - k : Nat) : Int), .int .u32 ((dg x).getD (k0 - 1 - k) 0), .bool false, .slice A1 k0 c1, .int .i64 k0, .slice A2 k0 c2, .int .i64 k0, .bool false, .bool false, .slice A1 k0 c1, .int .i64 k0, .slice A2 k0 c2, .int .i64 k0, .bool false, .slice A1 k0 c1, .func (.func 133) #[] #[.pointer (some ⟨w.heap.size + 2, 0, none⟩)], .int .i64 ((k0 - 1 - k : Nat) : Int), .int .u32 ((dg x).getD (k0 - 1 - k) 0), undef, undef, undef, undef, undef, undef, undef, undef, undef, undef, undef, undef, undef, undef], defers := [] })
      ?assign ?body ?done ?stop
    case iter =>
      intro l J Jx hJ hY W h0
      exact back_seq 8 (by omega) A1 c1 k0 (dg x) l (w.heap.size + 2) HK.out hx J Jx (fun k W h => ⟨(hJ k W h).b5, h1.below (hJ k W h).bl⟩) hY W h0
    case assign =>
      intro l k W K hK
      gi_wp2
      exact hK
    case body =>
      rintro l k W hI hk
      obtain ⟨j, hj⟩ : ∃ j, k0 - 1 - k = j := ⟨_, rfl⟩
      obtain ⟨xi, hxi⟩ : ∃ z, (dg x)[j]? = some z := ⟨_, List.getElem?_eq_getElem (by rw [HK.out]; omega)⟩
      obtain ⟨yi, hyi⟩ : ∃ z, (dg y)[j]? = some z := ⟨_, List.getElem?_eq_getElem (by rw [← HL.out]; omega)⟩
      have hgd : (dg x).getD j 0 = xi := by rw [List.getD_eq_getElem?_getD, hxi]; rfl
      obtain ⟨b3, ⟨v4, b4⟩, b5, bl, hkk, heq⟩ := hI
      obtain ⟨t1, t2, t3⟩ := cmp_top x y k0 j xi yi HK.out HL.out.symm hxi hyi (by rw [show j + 1 = k0 - k by omega]; exact heq)
      have q3 := Boxed.cell b3
      have q4 := Boxed.cell b4
      have z4 := Boxed.frozen b4
      obtain ⟨ba, o, rfl, hc⟩ := (h2.below bl) (by intro h; rw [h] at hyi; simp at hyi)
      have hcy := hc _ yi hyi
      have hjk : (j : Int) < k0 := by omega
      rw [hj, hgd]
      have hce : ∀ r, CE w r (W.setCell ⟨w.heap.size + 1, 0, none⟩ (.int .i64 r)) := fun r => ⟨Boxed.set _ b4, bl.setCell (p := ⟨w.heap.size + 1, 0, none⟩) (Nat.le_succ _) _⟩
      have hci : xi = yi → CI w A1 c1 x (some ⟨ba, o, none⟩) c2 y k0 (k + 1) W := fun h => ⟨b3, ⟨v4, b4⟩, b5, bl, by omega, by rw [show k0 - (k + 1) = j by omega]; exact t3 h⟩
      have HCE := Lib.hid hce
      have HCI := Lib.hid hci
      have T1 := Lib.hid t1
      have T2 := Lib.hid t2
      clear h3 hs3 h1 h2 hxi hyi hgd b3 b4 b5 bl hkk heq t1 t2 t3 hc hj hce hci
      rcases Int.lt_trichotomy xi yi with h | h | h
      · have hr : cmpI x y = -1 := by rw [cmpI, if_pos (T1.out h)]
        rw [hr]
        clear hr
        gi_wp2
        exact ⟨KeepsOthers.setCell _ _ _, rfl, HCE.out _⟩
      · subst h
        have hl1 : ¬ xi < xi := by omega
        gi_wp2
        exact ⟨KeepsOthers.refl _, by omega, HCI.out trivial⟩
      · have hr : cmpI x y = 1 := by have := T2.out h; rw [cmpI, if_neg (by omega), if_pos this]
        rw [hr]
        have hl1 : ¬ xi < yi := by omega
        clear hr
        gi_wp2
        exact ⟨KeepsOthers.setCell _ _ _, rfl, HCE.out _⟩
    case done =>
      rintro D k W rfl hI hD hK
      obtain ⟨b3, ⟨v4, b4⟩, b5, bl, hkk, heq⟩ := hI
      have hxy : x = y := by
        rw [Nat.sub_self, List.drop_zero, List.drop_zero] at heq
        exact dg_inj heq
      have hr : cmpI x y = 0 := by subst hxy; rw [cmpI, if_neg (by omega), if_neg (by omega)]
      have q4 := Boxed.cell b4
      have z4 := Boxed.frozen b4
      have hce : CE w 0 (W.setCell ⟨w.heap.size + 1, 0, none⟩ (.int .i64 0)) := ⟨Boxed.set _ b4, bl.setCell (p := ⟨w.heap.size + 1, 0, none⟩) (Nat.le_succ _) _⟩
      have hK2 : (W.setCell ⟨w.heap.size + 1, 0, none⟩ (.int .i64 0)).heap[D]? = some (.deferred (some [])) :=
        (Below.heap_setCell _ _ _ _ (by show D ≠ w.heap.size + 1; omega)).trans hK
      have hwD : w.heap.size ≤ D := by omega
      have c4 := Boxed.cell (Boxed.turn hce.b4 (.deferred none) hK2 rfl)
      have HBL := Lib.hid hce.bl
      have HR := Lib.hid hr
      have HC4 := Lib.hid c4
      clear h3 hs3 h1 h2 b3 b4 b5 bl hkk heq hxy hr hce c4
      gi_wp2
      refine ⟨by simp, .inl ⟨_, _, rfl, run_takeDeferred hK2, ?_⟩⟩
      have c4 := HC4.out
      exact ⟨.int .i64 0, by simp [results, Tryz.results69, go_sem, c4], by rw [HR.out], below_turn HBL.out _ hK2 (Nat.le_refl _) hwD⟩
    case stop =>
      rintro D c' k W ⟨rfl, hI⟩ hD hK
      have c4 := Boxed.cell (Boxed.turn hI.b4 (.deferred none) hK rfl)
      have hwD : w.heap.size ≤ D := by omega
      have HBL := Lib.hid hI.bl
      clear h3 hs3 h1 h2 hI
      gi_wp2
      refine ⟨by simp, .inl ⟨_, _, rfl, run_takeDeferred hK, ?_⟩⟩
      exact ⟨.int .i64 (cmpI x y), by simp [results, Tryz.results69, go_sem, c4], rfl, below_turn HBL.out _ hK (Nat.le_refl _) hwD⟩
  · have hlt := cmp_len hl
    have hr : cmpI x y = 1 := by rw [cmpI, if_neg (by omega), if_pos hlt]
    rw [hr]
    have hz : ((dg y).length : Int) < (dg x).length := by omega
    have hz2 : ¬ ((dg x).length : Int) < (dg y).length := by omega
    clear h1 h2 hlt hr
    go_enter Tryz.func69, Tryz.ntmps69
    go_wp2
    exact bodyPost_ret (v := .int .i64 1) (by simp [results, Tryz.results69, go_sem]) rfl ⟨rfl, hbb _⟩
end Go.Proofs.YtfcfejlffmddnaaGreatDoor
end
section
/- What is alive: numbers in memory, all that the contracts ask, in one word. -/
namespace Go.Proofs.YtfcfejlffmddnaaGreatDoor
open Go.RowKit
set_option linter.unusedSimpArgs false
set_option linter.unusedVariables false

/-- Between a world and a later one: the older blocks are as they were; these slices hold these numbers. -/
structure Has (w0 w : World) (l : List (Option Addr × Nat × Nat × Nat)) : Prop where
  b : Below w0.heap.size w0 w
  r : ∀ p, p ∈ l → Rd .u32 w p.1 (dg p.2.2.2) ∧ (dg p.2.2.2).length = p.2.1 ∧ p.2.1 ≤ p.2.2.1 ∧ p.2.2.1 ≤ 9223372036854775807
theorem Has.nil (w : World) : Has w w [] := ⟨Below.refl _ _, fun p hp => by cases hp⟩
theorem Has.below {w0 w w' : World} {l : List (Option Addr × Nat × Nat × Nat)} (h : Has w0 w l) (hb : Below w.heap.size w w') : Has w0 w' l :=
  ⟨h.b.trans (hb.mono h.b.size), fun p hp => ⟨(h.r p hp).1.below hb, (h.r p hp).2⟩⟩
theorem Has.at {w0 w : World} {l : List (Option Addr × Nat × Nat × Nat)} (h : Has w0 w l) {A : Option Addr} {k c n : Nat} (hm : (A, k, c, n) ∈ l) : Rd .u32 w A (dg n) ∧ (dg n).length = k ∧ k ≤ c ∧ c ≤ 9223372036854775807 := h.r _ hm
theorem Has.cons {w0 w : World} {l : List (Option Addr × Nat × Nat × Nat)} (h : Has w0 w l) {A : Option Addr} {k c n : Nat} (hr : Rd .u32 w A (dg n)) (hk : (dg n).length = k) (h1 : k ≤ c) (h2 : c ≤ 9223372036854775807) : Has w0 w ((A, k, c, n) :: l) :=
  ⟨h.b, fun p hp => by
    rcases List.mem_cons.1 hp with rfl | hp
    · exact ⟨hr, hk, h1, h2⟩
    · exact h.r p hp⟩
theorem Has.len {w0 w : World} {l : List (Option Addr × Nat × Nat × Nat)} (h : Has w0 w l) {A : Option Addr} {k c n : Nat} (hm : (A, k, c, n) ∈ l) : (dg n).length = k := (h.at hm).2.1
theorem Has.keep {w0 w : World} {l l' : List (Option Addr × Nat × Nat × Nat)} (h : Has w0 w l) (hs : ∀ p, p ∈ l' → p ∈ l) : Has w0 w l' := ⟨h.b, fun p hp => h.r p (hs p hp)⟩
/-- The post of a function that makes a number. -/
def Made (w0 : World) (l : List (Option Addr × Nat × Nat × Nat)) (r K : Nat) (e : Ending) (w' : World) : Prop := ∃ A k c n, e = .returned (.slice A k c) ∧ Hid (n = r) ∧ k ≤ K ∧ Has w0 w' ((A, k, c, n) :: l)
/-! ### How long results are -/
theorem lt_of_len {n k : Nat} (h : (dg n).length ≤ k) : n < 4294967296 ^ k := by
  have := (dg_len_le n k).1 h
  rw [BB_nat] at this; exact_mod_cast this
theorem len_of_lt {n k : Nat} (h : n < 4294967296 ^ k) : (dg n).length ≤ k := by
  rw [dg_len_le, BB_nat]; exact_mod_cast h
theorem len_mono {a b : Nat} (h : a ≤ b) : (dg a).length ≤ (dg b).length := len_of_lt (Nat.lt_of_le_of_lt h (lt_of_len (Nat.le_refl _)))
theorem len_add (a b : Nat) : (dg (a + b)).length ≤ max (dg a).length (dg b).length + 1 := by
  refine len_of_lt ?_
  have h1 := lt_of_len (Nat.le_max_left (dg a).length (dg b).length)
  have h2 := lt_of_len (Nat.le_max_right (dg a).length (dg b).length)
  rw [Nat.pow_succ]; omega
theorem len_mul (a b : Nat) : (dg (a * b)).length ≤ (dg a).length + (dg b).length := by
  refine len_of_lt ?_
  rw [Nat.pow_add]
  by_cases hb : b = 0
  · subst hb; rw [Nat.mul_zero]; exact Nat.mul_pos (Nat.pow_pos (by decide)) (Nat.pow_pos (by decide))
  · exact Nat.mul_lt_mul'' (lt_of_len (Nat.le_refl _)) (lt_of_len (Nat.le_refl _))
theorem len_shl (a s : Nat) : (dg (a * 2 ^ s)).length ≤ (dg a).length + s / 32 + 1 := by
  refine len_of_lt ?_
  have h1 := lt_of_len (Nat.le_refl (dg a).length)
  have e : (4294967296 : Nat) ^ (s / 32 + 1) = 2 ^ (32 * (s / 32 + 1)) := by rw [Nat.pow_mul]
  have h2 : (2 : Nat) ^ s ≤ 4294967296 ^ (s / 32 + 1) := by rw [e]; exact Nat.pow_le_pow_right (by decide) (by omega)
  have h3 : 0 < (2 : Nat) ^ s := Nat.two_pow_pos s
  rw [Nat.add_assoc, Nat.pow_add]
  exact Nat.mul_lt_mul_of_lt_of_le h1 h2 (Nat.pow_pos (by decide))
theorem len_div (a b : Nat) : (dg (a / b)).length ≤ (dg a).length := len_mono (Nat.div_le_self _ _)
theorem len_mod (a b : Nat) : (dg (a % b)).length ≤ (dg a).length := len_mono (Nat.mod_le _ _)
theorem len_sub (a b : Nat) : (dg (a - b)).length ≤ (dg a).length := len_mono (Nat.sub_le _ _)
theorem len_modB (a k : Nat) : (dg (a % 4294967296 ^ k)).length ≤ k := len_of_lt (Nat.mod_lt _ (Nat.pow_pos (by decide)))
theorem len_divB (a k : Nat) : (dg (a / 4294967296 ^ k)).length = (dg a).length - k := by rw [← (dg_cut a k).1, List.length_drop]

theorem Made.of {w0 w w' : World} {l : List (Option Addr × Nat × Nat × Nat)} (h : Has w0 w l) {v : Value} {r K : Nat} (hn : Num w' v r) (hb : Below w.heap.size w w') (hK : (dg r).length ≤ K) : Made w0 l r K (.returned v) w' := by
  obtain ⟨A, c, rfl, hr, h1, h2⟩ := hn
  exact ⟨A, _, c, r, rfl, Lib.hid rfl, hK, (h.below hb).cons hr rfl h1 h2⟩

/-! ### The contracts, of what is alive -/
variable {w0 w : World} {l : List (Option Addr × Nat × Nat × Nat)}
theorem of_h (H : Has w0 w l) (x : Int) (h0 : 0 ≤ x) (h1 : x < 18446744073709551616) : Calls Tryz.prog 95 #[.int .u64 x] w (Made w0 l x.toNat (2)) :=
  (of_calls x w h0 h1).mono (by rintro e w' ⟨v, rfl, hn, hb⟩; exact Made.of H hn hb (len_of_lt (by omega)))
theorem add_h (H : Has w0 w l) (A1 : Option Addr) (k1 c1 x : Nat) (A2 : Option Addr) (k2 c2 y : Nat) (h1 : (A1, k1, c1, x) ∈ l) (h2 : (A2, k2, c2, y) ∈ l) (b1 : k1 ≤ 1099511627776) (b2 : k2 ≤ 1099511627776) :
    Calls Tryz.prog 93 #[.slice A1 k1 c1, .slice A2 k2 c2] w (Made w0 l (x + y) (max k1 k2 + 1)) := by
  obtain ⟨r1, e1, _, _⟩ := H.at h1
  obtain ⟨r2, e2, _, _⟩ := H.at h2
  subst e1 e2
  exact (add_calls A1 A2 c1 c2 x y w b1 b2 r1 r2).mono (by rintro e w' ⟨v, rfl, hn, hb⟩; exact Made.of H hn hb (len_add x y))
theorem sub_h (H : Has w0 w l) (A1 : Option Addr) (k1 c1 x : Nat) (A2 : Option Addr) (k2 c2 y : Nat) (h1 : (A1, k1, c1, x) ∈ l) (h2 : (A2, k2, c2, y) ∈ l) (b1 : k1 ≤ 1099511627776) (b2 : k2 ≤ 1099511627776) (hxy : y ≤ x) :
    Calls Tryz.prog 83 #[.slice A1 k1 c1, .slice A2 k2 c2] w (Made w0 l (x - y) (k1)) := by
  obtain ⟨r1, e1, _, _⟩ := H.at h1
  obtain ⟨r2, e2, _, _⟩ := H.at h2
  subst e1 e2
  exact (sub_calls A1 A2 c1 c2 x y w b1 b2 hxy r1 r2).mono (by rintro e w' ⟨v, rfl, hn, hb⟩; exact Made.of H hn hb (len_sub x y))
theorem school_h (H : Has w0 w l) (A1 : Option Addr) (k1 c1 x : Nat) (A2 : Option Addr) (k2 c2 y : Nat) (h1 : (A1, k1, c1, x) ∈ l) (h2 : (A2, k2, c2, y) ∈ l) (b1 : k1 ≤ 1099511627776) (b2 : k2 ≤ 1099511627776) :
    Calls Tryz.prog 96 #[.slice A1 k1 c1, .slice A2 k2 c2] w (Made w0 l (x * y) (k1 + k2)) := by
  obtain ⟨r1, e1, _, _⟩ := H.at h1
  obtain ⟨r2, e2, _, _⟩ := H.at h2
  subst e1 e2
  exact (school_calls A1 A2 c1 c2 x y w b1 b2 r1 r2).mono (by rintro e w' ⟨v, rfl, hn, hb⟩; exact Made.of H hn hb (len_mul x y))
theorem shl_h (H : Has w0 w l) (A1 : Option Addr) (k1 c1 x : Nat) (s : Int) (h1 : (A1, k1, c1, x) ∈ l) (b1 : k1 ≤ 1099511627776) (s0 : 0 ≤ s) (s1 : s ≤ 1099511627776) :
    Calls Tryz.prog 100 #[.slice A1 k1 c1, .int .i64 s] w (Made w0 l (x * 2 ^ s.toNat) (k1 + s.toNat / 32 + 1)) := by
  obtain ⟨r1, e1, _, _⟩ := H.at h1
  subst e1
  exact (shl_calls A1 c1 x s w b1 s0 s1 r1).mono (by rintro e w' ⟨v, rfl, hn, hb⟩; exact Made.of H hn hb (len_shl x _))
theorem shr_h (H : Has w0 w l) (A1 : Option Addr) (k1 c1 x : Nat) (s : Int) (h1 : (A1, k1, c1, x) ∈ l) (b1 : k1 ≤ 1099511627776) (s0 : 0 ≤ s) :
    Calls Tryz.prog 101 #[.slice A1 k1 c1, .int .i64 s] w (Made w0 l (x / 2 ^ s.toNat) (k1)) := by
  obtain ⟨r1, e1, _, _⟩ := H.at h1
  subst e1
  exact (shr_calls A1 c1 x s w b1 s0 r1).mono (by rintro e w' ⟨v, rfl, hn, hb⟩; exact Made.of H hn hb (len_div x _))
theorem high_h (H : Has w0 w l) (A1 : Option Addr) (k1 c1 x : Nat) (s : Int) (h1 : (A1, k1, c1, x) ∈ l) (b1 : k1 ≤ 1099511627776) (s0 : 0 ≤ s) :
    Calls Tryz.prog 113 #[.slice A1 k1 c1, .int .i64 s] w (Made w0 l (x / 4294967296 ^ s.toNat) (k1 - s.toNat)) := by
  obtain ⟨r1, e1, q1, _⟩ := H.at h1
  subst e1
  exact (high_calls A1 c1 x s w b1 s0 r1 q1).mono (by rintro e w' ⟨v, rfl, hn, hb⟩; exact Made.of H hn hb (Nat.le_of_eq (len_divB x _)))
theorem low_h (H : Has w0 w l) (A1 : Option Addr) (k1 c1 x : Nat) (s : Int) (h1 : (A1, k1, c1, x) ∈ l) (b1 : k1 ≤ 1099511627776) (s0 : 0 ≤ s) :
    Calls Tryz.prog 114 #[.slice A1 k1 c1, .int .i64 s] w (Made w0 l (x % 4294967296 ^ s.toNat) (min k1 s.toNat)) := by
  obtain ⟨r1, e1, q1, _⟩ := H.at h1
  subst e1
  exact (low_calls A1 c1 x s w b1 s0 r1 q1).mono (by rintro e w' ⟨v, rfl, hn, hb⟩; exact Made.of H hn hb (Nat.le_min.2 ⟨len_mod x _, len_modB x _⟩))
theorem size_h (H : Has w0 w l) (A1 : Option Addr) (k1 c1 x : Nat) (h1 : (A1, k1, c1, x) ∈ l) (b1 : k1 ≤ 1099511627776) :
    Calls Tryz.prog 71 #[.slice A1 k1 c1] w fun e w' => e = .returned (.int .i64 (bl x)) ∧ w = w' := by
  obtain ⟨r1, e1, _, _⟩ := H.at h1
  subst e1
  exact size_calls A1 c1 x w b1 r1
theorem cmp_h (H : Has w0 w l) (A1 : Option Addr) (k1 c1 x : Nat) (A2 : Option Addr) (k2 c2 y : Nat) (h1 : (A1, k1, c1, x) ∈ l) (h2 : (A2, k2, c2, y) ∈ l) (b1 : k1 ≤ 1099511627776) (b2 : k2 ≤ 1099511627776) (r : Int) (hr : Hid (cmpI x y = r)) :
    Calls Tryz.prog 69 #[.slice A1 k1 c1, .slice A2 k2 c2] w fun e w' => e = .returned (.int .i64 r) ∧ Has w0 w' l := by
  obtain ⟨r1, e1, _, _⟩ := H.at h1
  obtain ⟨r2, e2, _, _⟩ := H.at h2
  subst e1 e2
  rw [← hr.out]
  exact (cmp_calls A1 A2 c1 c2 x y w b1 b2 r1 r2).mono (by rintro e w' ⟨rfl, hb⟩; exact ⟨rfl, H.below hb⟩)
end Go.Proofs.YtfcfejlffmddnaaGreatDoor
end
section
/- Contracts: karatsuba, mul. -/
namespace Go.Proofs.YtfcfejlffmddnaaGreatDoor
open Go.RowKit
set_option linter.unusedSimpArgs false
set_option linter.unusedVariables false

theorem halves_mul (x y W : Nat) (hW : 0 < W) : let hi := (x / W) * (y / W); let lo := (x % W) * (y % W); let bo := (x % W + x / W) * (y % W + y / W); hi ≤ bo ∧ lo ≤ bo - hi ∧ hi * (W * W) + (bo - hi - lo) * W + lo = x * y := by
  intro hi lo bo
  obtain ⟨a, ha⟩ : ∃ a, x / W = a := ⟨_, rfl⟩
  obtain ⟨b, hb⟩ : ∃ b, x % W = b := ⟨_, rfl⟩
  obtain ⟨c, hc⟩ : ∃ c, y / W = c := ⟨_, rfl⟩
  obtain ⟨d, hd⟩ : ∃ d, y % W = d := ⟨_, rfl⟩
  have e1 : x = a * W + b := by have := Nat.div_add_mod x W; rw [ha, hb, Nat.mul_comm] at this; omega
  have e2 : y = c * W + d := by have := Nat.div_add_mod y W; rw [hc, hd, Nat.mul_comm] at this; omega
  have h1 : hi = a * c := by show (x / W) * (y / W) = _; rw [ha, hc]
  have h2 : lo = b * d := by show (x % W) * (y % W) = _; rw [hb, hd]
  have h3 : bo = a * c + b * d + (b * c + a * d) := by show (x % W + x / W) * (y % W + y / W) = _; rw [ha, hb, hc, hd]; grind
  have h4 : bo - hi - lo = b * c + a * d := by omega
  refine ⟨by omega, by omega, ?_⟩
  rw [h4, h1, h2, e1, e2]
  grind
theorem pow_64 (s : Nat) : (2 : Nat) ^ (64 * s) = 4294967296 ^ s * 4294967296 ^ s := by
  rw [← Nat.pow_add, show (4294967296 : Nat) = 2 ^ 32 by decide, ← Nat.pow_mul]; congr 1; omega
theorem pow_32 (s : Nat) : (2 : Nat) ^ (32 * s) = 4294967296 ^ s := by rw [Nat.pow_mul]
theorem part_lt {x s : Nat} (h : s < (dg x).length) (hs : 0 < s) : x / 4294967296 ^ s < x ∧ x % 4294967296 ^ s < x ∧ x % 4294967296 ^ s + x / 4294967296 ^ s < x := by
  have h1 := (dg_len_lt x s).1 h
  rw [BB_nat] at h1
  have hW : 4294967296 ^ s ≤ x := by exact_mod_cast h1
  have hp : 0 < 4294967296 ^ s := Nat.pow_pos (by decide)
  have h2 : 2 ≤ 4294967296 ^ s := by
    have : 4294967296 ^ 1 ≤ 4294967296 ^ s := Nat.pow_le_pow_right (by decide) hs
    omega
  have e := Nat.div_add_mod x (4294967296 ^ s)
  have h3 : 1 ≤ x / 4294967296 ^ s := by rw [Nat.le_div_iff_mul_le hp]; omega
  have h4 : 2 * (x / 4294967296 ^ s) ≤ 4294967296 ^ s * (x / 4294967296 ^ s) := Nat.mul_le_mul_right _ h2
  have h5 := Nat.mod_lt x hp
  omega
theorem part_le (x s : Nat) : x / 4294967296 ^ s ≤ x ∧ x % 4294967296 ^ s ≤ x ∧ x % 4294967296 ^ s + x / 4294967296 ^ s ≤ x := by
  have hp : 0 < 4294967296 ^ s := Nat.pow_pos (by decide)
  have e := Nat.div_add_mod x (4294967296 ^ s)
  have h4 : 1 * (x / 4294967296 ^ s) ≤ 4294967296 ^ s * (x / 4294967296 ^ s) := Nat.mul_le_mul_right _ hp
  exact ⟨Nat.div_le_self _ _, Nat.mod_le _ _, by omega⟩
theorem max_cast (m k : Nat) : max (m : Int) (k : Int) = ((max m k : Nat) : Int) := by omega

def KarSaid (N : Nat) : Prop := ∀ (x y : Nat), x + y < N → ∀ (w0 w : World) (l : List (Option Addr × Nat × Nat × Nat)), Has w0 w l → ∀ (A1 : Option Addr) (k1 c1 : Nat) (A2 : Option Addr) (k2 c2 : Nat), (A1, k1, c1, x) ∈ l → (A2, k2, c2, y) ∈ l → k1 ≤ 1073741824 → k2 ≤ 1073741824 → ∀ cut : Int, 2 ≤ cut →
  Calls Tryz.prog 99 #[.slice A1 k1 c1, .slice A2 k2 c2, .int .i64 cut] w (Made w0 l (x * y) (k1 + k2))

set_option maxRecDepth 10000 in
set_option maxHeartbeats 4000000 in
theorem kar_step (N : Nat) (ih : KarSaid N) : KarSaid (N + 1) := by
  intro x y hxy w0 w l H A1 k1 c1 A2 k2 c2 h1 h2 b1 b2 cut hcut
  obtain ⟨mn, hmn⟩ : ∃ m, min k1 k2 = m := ⟨_, rfl⟩
  have hmin := min_cast k1 k2
  rw [hmn] at hmin
  by_cases hlt : (mn : Int) < cut
  · clear hmn
    go_enter Tryz.func99, Tryz.ntmps99
    go_wp2_with fail
    refine (school_h H A1 k1 c1 x A2 k2 c2 y h1 h2 (by omega) (by omega)).mono ?_
    rintro e w1 ⟨A3, k3, c3, n3, rfl, hn3, b3, H1⟩
    go_wp2_with fail
    go_ret
    exact ⟨A3, k3, c3, n3, rfl, hn3, b3, H1⟩
  · obtain ⟨mx, hmx⟩ : ∃ m, max k1 k2 = m := ⟨_, rfl⟩
    have hmax := max_cast k1 k2
    rw [hmx] at hmax
    obtain ⟨s, hs⟩ : ∃ s : Nat, ((mx : Int) + 1) / 2 = s := ⟨(((mx : Int) + 1) / 2).toNat, by omega⟩
    have hs1 : 1 ≤ s := by omega
    have hsm : s < mx := by omega
    have hmxb : mx ≤ 1073741824 := by omega
    have e1 := (H.at h1).2.1
    have e2 := (H.at h2).2.1
    have p1 := part_le x s
    have p2 := part_le y s
    have q1 : s < k1 → x % 4294967296 ^ s + x / 4294967296 ^ s < x ∧ x / 4294967296 ^ s < x ∧ x % 4294967296 ^ s < x := fun h => by
      have := part_lt (by rw [e1]; exact h) hs1; omega
    have q2 : s < k2 → y % 4294967296 ^ s + y / 4294967296 ^ s < y ∧ y / 4294967296 ^ s < y ∧ y % 4294967296 ^ s < y := fun h => by
      have := part_lt (by rw [e2]; exact h) hs1; omega
    have hdis : s < k1 ∨ s < k2 := by omega
    obtain ⟨m1, m2, m3⟩ : x / 4294967296 ^ s + y / 4294967296 ^ s < N ∧ x % 4294967296 ^ s + y % 4294967296 ^ s < N ∧ (x % 4294967296 ^ s + x / 4294967296 ^ s) + (y % 4294967296 ^ s + y / 4294967296 ^ s) < N := by
      rcases hdis with h | h
      · have := q1 h; omega
      · have := q2 h; omega
    obtain ⟨hm1, hm2, hm3⟩ := halves_mul x y (4294967296 ^ s) (Nat.pow_pos (by decide))
    have M1 := Lib.hid m1
    have M2 := Lib.hid m2
    have M3 := Lib.hid m3
    have HM1 := Lib.hid hm1
    have HM2 := Lib.hid hm2
    have HM3 := Lib.hid hm3
    have IH := Lib.hid ih
    have hsn : (s : Int).toNat = s := Int.toNat_natCast s
    have HSN := Lib.hid hsn
    have hs64 : (64 * (s : Int)).toNat = 64 * s := by omega
    have hs32 : (32 * (s : Int)).toNat = 32 * s := by omega
    have HS64 := Lib.hid hs64
    have HS32 := Lib.hid hs32
    clear hmn hmx ih m1 m2 m3 hm1 hm2 hm3 p1 p2 q1 q2 e1 e2 hsn hs64 hs32 hxy
    go_enter Tryz.func99, Tryz.ntmps99
    go_wp2_with fail
    refine (high_h H A1 k1 c1 x _ h1 (by omega) (by omega)).mono ?_
    rintro e w1 ⟨A3, k3, c3, n3, rfl, hn3, b3, H3⟩
    rw [HSN.out] at hn3 b3
    go_wp2_with fail
    refine (high_h H3 A2 k2 c2 y _ (by simp [h2]) (by omega) (by omega)).mono ?_
    rintro e w2 ⟨A4, k4, c4, n4, rfl, hn4, b4, H4⟩
    rw [HSN.out] at hn4 b4
    go_wp2_with fail
    refine (IH.out n3 n4 (by rw [hn3.out, hn4.out]; exact M1.out) _ _ _ H4 A3 k3 c3 A4 k4 c4 (by simp) (by simp) (by omega) (by omega) cut hcut).mono ?_
    rintro e w3 ⟨A5, k5, c5, n5, rfl, hn5, b5, H5⟩
    go_wp2_with fail
    refine (low_h H5 A1 k1 c1 x _ (by simp [h1]) (by omega) (by omega)).mono ?_
    rintro e w4 ⟨A6, k6, c6, n6, rfl, hn6, b6, H6⟩
    rw [HSN.out] at hn6 b6
    go_wp2_with fail
    refine (low_h H6 A2 k2 c2 y _ (by simp [h2]) (by omega) (by omega)).mono ?_
    rintro e w5 ⟨A7, k7, c7, n7, rfl, hn7, b7, H7⟩
    rw [HSN.out] at hn7 b7
    go_wp2_with fail
    refine (IH.out n6 n7 (by rw [hn6.out, hn7.out]; exact M2.out) _ _ _ H7 A6 k6 c6 A7 k7 c7 (by simp) (by simp) (by omega) (by omega) cut hcut).mono ?_
    rintro e w6 ⟨A8, k8, c8, n8, rfl, hn8, b8, H8⟩
    go_wp2_with fail
    refine (low_h H8 A1 k1 c1 x _ (by simp [h1]) (by omega) (by omega)).mono ?_
    rintro e w7 ⟨A9, k9, c9, n9, rfl, hn9, b9, H9⟩
    rw [HSN.out] at hn9 b9
    go_wp2_with fail
    refine (high_h H9 A1 k1 c1 x _ (by simp [h1]) (by omega) (by omega)).mono ?_
    rintro e w8 ⟨A10, k10, c10, n10, rfl, hn10, b10, H10⟩
    rw [HSN.out] at hn10 b10
    go_wp2_with fail
    refine (add_h H10 A9 k9 c9 n9 A10 k10 c10 n10 (by simp) (by simp) (by omega) (by omega)).mono ?_
    rintro e w9 ⟨A11, k11, c11, n11, rfl, hn11, b11, H11⟩
    go_wp2_with fail
    refine (low_h H11 A2 k2 c2 y _ (by simp [h2]) (by omega) (by omega)).mono ?_
    rintro e w10 ⟨A12, k12, c12, n12, rfl, hn12, b12, H12⟩
    rw [HSN.out] at hn12 b12
    go_wp2_with fail
    refine (high_h H12 A2 k2 c2 y _ (by simp [h2]) (by omega) (by omega)).mono ?_
    rintro e w11 ⟨A13, k13, c13, n13, rfl, hn13, b13, H13⟩
    rw [HSN.out] at hn13 b13
    go_wp2_with fail
    refine (add_h H13 A12 k12 c12 n12 A13 k13 c13 n13 (by simp) (by simp) (by omega) (by omega)).mono ?_
    rintro e w12 ⟨A14, k14, c14, n14, rfl, hn14, b14, H14⟩
    go_wp2_with fail
    refine (IH.out n11 n14 (by rw [hn11.out, hn14.out, hn9.out, hn10.out, hn12.out, hn13.out]; exact M3.out) _ _ _ H14 A11 k11 c11 A14 k14 c14 (by simp) (by simp) (by omega) (by omega) cut hcut).mono ?_
    rintro e w13 ⟨A15, k15, c15, n15, rfl, hn15, b15, H15⟩
    have g1 : n5 ≤ n15 := by rw [hn5.out, hn15.out, hn3.out, hn4.out, hn11.out, hn14.out, hn9.out, hn10.out, hn12.out, hn13.out]; exact HM1.out
    have G1 := Lib.hid g1
    clear g1
    go_wp2_with fail
    refine (sub_h H15 A15 k15 c15 n15 A5 k5 c5 n5 (by simp) (by simp) (by omega) (by omega) G1.out).mono ?_
    rintro e w14 ⟨A16, k16, c16, n16, rfl, hn16, b16, H16⟩
    have g2 : n8 ≤ n16 := by rw [hn16.out, hn8.out, hn5.out, hn15.out, hn3.out, hn4.out, hn6.out, hn7.out, hn11.out, hn14.out, hn9.out, hn10.out, hn12.out, hn13.out]; exact HM2.out
    have G2 := Lib.hid g2
    clear g2
    go_wp2_with fail
    refine (sub_h H16 A16 k16 c16 n16 A8 k8 c8 n8 (by simp) (by simp) (by omega) (by omega) G2.out).mono ?_
    rintro e w15 ⟨A17, k17, c17, n17, rfl, hn17, b17, H17⟩
    go_wp2_with fail
    refine (shl_h H17 A5 k5 c5 n5 _ (by simp) (by omega) (by omega) (by omega)).mono ?_
    rintro e w16 ⟨A18, k18, c18, n18, rfl, hn18, b18, H18⟩
    rw [HS64.out] at hn18 b18
    go_wp2_with fail
    refine (shl_h H18 A17 k17 c17 n17 _ (by simp) (by omega) (by omega) (by omega)).mono ?_
    rintro e w17 ⟨A19, k19, c19, n19, rfl, hn19, b19, H19⟩
    rw [HS32.out] at hn19 b19
    go_wp2_with fail
    refine (add_h H19 A18 k18 c18 n18 A19 k19 c19 n19 (by simp) (by simp) (by omega) (by omega)).mono ?_
    rintro e w18 ⟨A20, k20, c20, n20, rfl, hn20, b20, H20⟩
    go_wp2_with fail
    refine (add_h H20 A20 k20 c20 n20 A8 k8 c8 n8 (by simp) (by simp) (by omega) (by omega)).mono ?_
    rintro e w19 ⟨A21, k21, c21, n21, rfl, hn21, b21, H21⟩
    go_wp2_with fail
    go_ret
    have hv : n21 = x * y := by
      rw [hn21.out, hn20.out, hn18.out, hn19.out, hn17.out, hn16.out, hn8.out, hn5.out, hn15.out, hn3.out, hn4.out, hn6.out, hn7.out, hn11.out, hn14.out, hn9.out, hn10.out, hn12.out, hn13.out, pow_64, pow_32]; exact HM3.out
    refine ⟨A21, k21, c21, n21, rfl, Lib.hid hv, ?_, H21.keep (fun p hp => ?_)⟩
    · have e21 := (H21.at (A := A21) (k := k21) (c := c21) (n := n21) (by simp)).2.1
      rw [← e21, hv, ← (H.at h1).2.1, ← (H.at h2).2.1]; exact len_mul x y
    · rcases List.mem_cons.1 hp with rfl | hp
      · simp
      · simp [hp]
theorem kar_said (N : Nat) : KarSaid N := by
  induction N with
  | zero => intro x y h; omega
  | succ N ih => exact kar_step N ih
variable {w0 w : World} {l : List (Option Addr × Nat × Nat × Nat)}
theorem kar_h (H : Has w0 w l) (A1 : Option Addr) (k1 c1 x : Nat) (A2 : Option Addr) (k2 c2 y : Nat) (h1 : (A1, k1, c1, x) ∈ l) (h2 : (A2, k2, c2, y) ∈ l) (b1 : k1 ≤ 1073741824) (b2 : k2 ≤ 1073741824) (cut : Int) (hc : 2 ≤ cut) :
    Calls Tryz.prog 99 #[.slice A1 k1 c1, .slice A2 k2 c2, .int .i64 cut] w (Made w0 l (x * y) (k1 + k2)) := kar_said _ x y (Nat.lt_succ_self _) w0 w l H A1 k1 c1 A2 k2 c2 h1 h2 b1 b2 cut hc
set_option maxHeartbeats 400000 in
theorem mul_h (H : Has w0 w l) (A1 : Option Addr) (k1 c1 x : Nat) (A2 : Option Addr) (k2 c2 y : Nat) (h1 : (A1, k1, c1, x) ∈ l) (h2 : (A2, k2, c2, y) ∈ l) (b1 : k1 ≤ 1073741824) (b2 : k2 ≤ 1073741824) :
    Calls Tryz.prog 65 #[.slice A1 k1 c1, .slice A2 k2 c2] w (Made w0 l (x * y) (k1 + k2)) := by
  go_enter Tryz.func65, Tryz.ntmps65
  go_wp2_with fail
  refine (kar_h H A1 k1 c1 x A2 k2 c2 y h1 h2 b1 b2 _ (by omega)).mono ?_
  rintro e w1 ⟨A3, k3, c3, n3, rfl, hn3, b3, H1⟩
  go_wp2_with fail
  go_ret
  exact ⟨A3, k3, c3, n3, rfl, hn3, b3, H1⟩
end Go.Proofs.YtfcfejlffmddnaaGreatDoor
end
section
/- Contracts: pow. -/
namespace Go.Proofs.YtfcfejlffmddnaaGreatDoor
open Go.RowKit
set_option linter.unusedSimpArgs false
set_option linter.unusedVariables false

theorem dg_one : dg 1 = [1] := by rw [dg_pos (by decide), dg_zero]; rfl
theorem dg_small {n : Nat} (h0 : n ≠ 0) (h : n < 4294967296) : dg n = [(n : Int)] := by
  rw [dg_pos h0, Nat.mod_eq_of_lt h, Nat.div_eq_of_lt h, dg_zero]
variable {w0 w : World} {l : List (Option Addr × Nat × Nat × Nat)}
theorem Has.one (H : Has w0 w l) (n : Nat) (h0 : n ≠ 0) (h : n < 4294967296) : Has w0 (w.alloc (.cells #[.int .u32 n] 57)) ((some ⟨w.heap.size, 0, none⟩, 1, 1, n) :: l) := by
  refine (H.below ((Below.refl _ _).alloc (Nat.le_refl _) _)).cons ?_ (by rw [dg_small h0 h]; rfl) (Nat.le_refl _) (by omega)
  rw [dg_small h0 h]
  intro _
  refine ⟨_, 0, rfl, fun j y hy => ?_⟩
  rw [Lib.cell_of_heap (World.alloc_heap_new w _)]
  match j, hy with
  | 0, hy => simp at hy; subst hy; rfl
  | j + 1, hy => simp at hy
theorem and_one (a : Nat) (h : a < 9223372036854775808) : bits .and .i64 (a : Int) 1 = ((a % 2 : Nat) : Int) := by
  have e1 : (BitVec.ofInt 64 (a : Int)).toNat = a := by rw [BitVec.ofInt_natCast, BitVec.toNat_ofNat]; exact Nat.mod_eq_of_lt (by omega)
  show IntKind.i64.wrap ((BitVec.ofInt 64 (a : Int) &&& BitVec.ofInt 64 (1 : Int)).toNat : Int) = _
  have e2 : (BitVec.ofInt 64 (1 : Int)).toNat = 1 := by decide
  rw [BitVec.toNat_and, e1, e2, nat_mask1, IntKind.wrap_i64]
  omega

theorem pow_bit (x n j : Nat) : (n / 2 ^ j % 2 = 0 → x ^ (n / 2 ^ (j + 1)) * x ^ (n / 2 ^ (j + 1)) = x ^ (n / 2 ^ j)) ∧ x ^ (n / 2 ^ (j + 1)) * x ^ (n / 2 ^ (j + 1)) = x ^ (2 * (n / 2 ^ (j + 1))) ∧ (n / 2 ^ j % 2 = 1 → x ^ (n / 2 ^ (j + 1)) * x ^ (n / 2 ^ (j + 1)) * x = x ^ (n / 2 ^ j)) ∧ 2 * (n / 2 ^ (j + 1)) ≤ n := by
  have e : n / 2 ^ (j + 1) = n / 2 ^ j / 2 := by rw [Nat.pow_succ, Nat.div_div_eq_div_mul]
  have h1 := Nat.div_le_self n (2 ^ j)
  rw [e, ← Nat.pow_add, ← Nat.pow_succ]
  refine ⟨fun h => ?_, ?_, fun h => ?_, by omega⟩ <;> congr 1 <;> omega

set_option maxRecDepth 10000 in
set_option maxHeartbeats 1000000 in
theorem pow_h (H : Has w0 w l) (A1 : Option Addr) (k1 c1 x : Nat) (n : Nat) (h1 : (A1, k1, c1, x) ∈ l) (b1 : k1 ≤ 268435456) (hn : n ≤ 9223372036854775807) (hb : ∀ j, j ≤ n → (dg (x ^ j)).length ≤ 268435456) :
    Calls Tryz.prog 72 #[.slice A1 k1 c1, .int .i64 n] w (Made w0 l (x ^ n) (dg (x ^ n)).length) := by
  obtain ⟨K, hK⟩ : ∃ K, (dg (x ^ n)).length = K := ⟨_, rfl⟩
  rw [hK]
  have hL0 : Lib.bitLen n ≤ 63 := Lib.bitLen_le n 63 (by omega) (by omega)
  have hL1 : n < 2 ^ Lib.bitLen n := by
    by_cases h : n = 0
    · subst h; decide
    · exact (Lib.bitLenAux_bounds 64 n (by omega) h).2.2
  obtain ⟨L, hL⟩ : ∃ L, Lib.bitLen n = L := ⟨_, rfl⟩
  rw [hL] at hL0 hL1
  have hone := H.one 1 (by decide) (by decide)
  have HO := Lib.hid hone
  have HK := Lib.hid hK
  have HL1 := Lib.hid hL1
  have HL := Lib.hid hL
  have HB := Lib.hid hb
  have hnn : (n : Int) ≤ 9223372036854775807 := by omega
  clear hone hL1 hL hb hK
  go_enter Tryz.func72, Tryz.ntmps72
  go_wp2_with fail
  refine (Go.Proofs.Tryz.bits_Len _ _ (by omega) (by omega)).mono ?_
  rintro e w' ⟨rfl, rfl⟩
  rw [Int.toNat_natCast, HL.out]
  go_wp2_with fail
  go_loopw [5, 6] (fun v5 v6 wr => ∃ (A : Option Addr) (k c m j : Nat), v5 = .slice A k c ∧ v6 = .int .i64 ((j : Int) - 1) ∧ j ≤ L ∧ Hid (m = x ^ (n / 2 ^ j)) ∧ Has w0 wr ((A, k, c, m) :: l)) (fun v5 v6 wr => (intOf v6 + 1).toNat)
  case atStart => exact ⟨_, 1, 1, 1, L, rfl, rfl, Nat.le_refl _, Lib.hid (by rw [Nat.div_eq_of_lt HL1.out, Nat.pow_zero]), HO.out⟩
  case round =>
    obtain ⟨A, k, c, m, j, rfl, rfl, hj, hm, H1⟩ := hrel
    cases j with
    | zero =>
      have hz : ¬ (0 : Int) ≤ ((0 : Nat) : Int) - 1 := by omega
      go_wp2_with fail
      go_ret
      refine ⟨A, k, c, m, rfl, Lib.hid (by rw [hm.out, Nat.pow_zero, Nat.div_one]), ?_, H1⟩
      have := (H1.at (A := A) (k := k) (c := c) (n := m) (by simp)).2.1
      rw [hm.out, Nat.pow_zero, Nat.div_one, HK.out] at this
      omega
    | succ j =>
      have hz : ((j + 1 : Nat) : Int) - 1 = j := by omega
      have hk : k ≤ 268435456 := by
        rw [← (H1.at (A := A) (k := k) (c := c) (n := m) (by simp)).2.1, hm.out]
        exact HB.out _ (Nat.div_le_self _ _)
      rw [hz]
      clear hz
      go_wp2_with fail
      refine (mul_h H1 A k c m A k c m (by simp) (by simp) (by omega) (by omega)).mono ?_
      rintro e w1 ⟨A2, k2, c2, m2, rfl, hm2, b2, H2⟩
      have hbit : ((n : Int) / 2 ^ j) = ((n / 2 ^ j : Nat) : Int) := by push_cast; rfl
      have hlt : n / 2 ^ j < 9223372036854775808 := Nat.lt_of_le_of_lt (Nat.div_le_self _ _) (by omega)
      have hpar := and_one (n / 2 ^ j) hlt
      have hstep := pow_bit x n j
      have HS := Lib.hid hstep
      clear hlt hstep
      rcases Nat.mod_two_eq_zero_or_one (n / 2 ^ j) with hb0 | hb0
      · have hd : (bits .and .i64 ((n : Int) / 2 ^ j) 1 == 1) = false := by rw [hbit, hpar, hb0]; rfl
        have HD0 := Lib.hid hb0
        clear hbit hpar hb0
        go_wp2_with fail
        go_roundw
        case rel => exact ⟨A2, k2, c2, m2, j, rfl, rfl, by omega, Lib.hid (by rw [hm2.out, hm.out]; exact (HS.out).1 HD0.out), H2.keep (by simp; intros; simp_all)⟩
        case measure => simp [intOf]
      · have hd : (bits .and .i64 ((n : Int) / 2 ^ j) 1 == 1) = true := by rw [hbit, hpar, hb0]; rfl
        have HD0 := Lib.hid hb0
        have hk2 : k2 ≤ 268435456 := by
          rw [← (H2.at (A := A2) (k := k2) (c := c2) (n := m2) (by simp)).2.1, hm2.out, hm.out, HS.out.2.1]
          exact HB.out _ HS.out.2.2.2
        clear hbit hpar hb0
        go_wp2_with fail
        refine (mul_h H2 A2 k2 c2 m2 A1 k1 c1 x (by simp) (by simp [h1]) (by omega) (by omega)).mono ?_
        rintro e w3 ⟨A3, k3, c3, m3, rfl, hm3, b3, H3⟩
        go_wp2_with fail
        go_roundw
        case rel => exact ⟨A3, k3, c3, m3, j, rfl, rfl, by omega, Lib.hid (by rw [hm3.out, hm2.out, hm.out]; exact (HS.out).2.2.1 HD0.out), H3.keep (by simp; intros; simp_all)⟩
        case measure => simp [intOf]
end Go.Proofs.YtfcfejlffmddnaaGreatDoor
end
section
/- Contracts: short. -/
namespace Go.Proofs.YtfcfejlffmddnaaGreatDoor
open Go.RowKit
set_option linter.unusedSimpArgs false
set_option linter.unusedVariables false

/-- The border of a division by one digit, from above: `j` digits are left. -/
structure ShortInv (x b j : Nat) (hi : List Int) (rest : Nat) : Prop where
  len : hi.length = (dg x).length - j
  ok : dgs hi
  val : vl hi = ((x / 4294967296 ^ j / b : Nat) : Int)
  left : rest = x / 4294967296 ^ j % b
theorem ShortInv.start (x b : Nat) : ShortInv x b (dg x).length [] 0 := by
  have h := lt_of_len (Nat.le_refl (dg x).length)
  exact ⟨by simp, dgs_nil, by rw [Nat.div_eq_of_lt h, Nat.zero_div]; rfl, by rw [Nat.div_eq_of_lt h, Nat.zero_mod]⟩
theorem ShortInv.step {x b j : Nat} {hi : List Int} {rest : Nat} (hb : 0 < b) (hj : j < (dg x).length) (h : ShortInv x b (j + 1) hi rest) (d s : Nat) (hd : (dg x).getD j 0 = (d : Int)) (hs : s = rest * 4294967296 + d) :
    ShortInv x b j (((s / b : Nat) : Int) :: hi) (s % b) ∧ s / b < 4294967296 ∧ rest < b := by
  obtain ⟨X, hX⟩ : ∃ X, x / 4294967296 ^ (j + 1) = X := ⟨_, rfl⟩
  have e1 : x / 4294967296 ^ j / 4294967296 = X := by rw [← hX, Nat.pow_succ, Nat.div_div_eq_div_mul]
  rw [dg_getD] at hd
  have e2 : x / 4294967296 ^ j % 4294967296 = d := by exact_mod_cast hd
  have e3 : x / 4294967296 ^ j = 4294967296 * X + d := by omega
  have hd1 : d < 4294967296 := by omega
  obtain ⟨h1, h2, h3, h4⟩ := h
  rw [hX] at h3 h4
  have hlt : rest < b := by rw [h4]; exact Nat.mod_lt _ hb
  have e4 : 4294967296 * X + d = s + b * (4294967296 * (X / b)) := by
    have := Nat.div_add_mod X b
    rw [hs, h4]
    grind
  have e5 : (4294967296 * X + d) / b = s / b + 4294967296 * (X / b) := by rw [e4, Nat.add_mul_div_left _ _ hb]
  have e6 : (4294967296 * X + d) % b = s % b := by rw [e4, Nat.add_mul_mod_self_left]
  have hsm : s / b < 4294967296 := by
    rw [Nat.div_lt_iff_lt_mul hb, hs]
    have : (rest + 1) * 4294967296 ≤ b * 4294967296 := Nat.mul_le_mul_right _ hlt
    omega
  refine ⟨⟨by simp [h1]; omega, dgs_cons.2 ⟨⟨Int.natCast_nonneg _, Int.ofNat_lt.2 hsm⟩, h2⟩, ?_, ?_⟩, hsm, hlt⟩
  · rw [vl_cons, h3, e3, e5, Int.natCast_add, Int.natCast_mul]; rfl
  · rw [e3, e6]
theorem low_set (hi : List Int) (j : Nat) (v : Int) : (List.replicate (j + 1) 0 ++ hi).set j v = List.replicate j 0 ++ v :: hi := by
  rw [List.replicate_succ', List.append_assoc, List.set_append_right _ _ (by simp)]; simp
theorem low_get (hi : List Int) (j : Nat) : (List.replicate (j + 1) 0 ++ hi)[j]? = some (0 : Int) := by
  rw [List.getElem?_append_left (by simp)]; simp
/-- The post of a function that makes a quotient and a rest. -/
def Made2 (w0 : World) (l : List (Option Addr × Nat × Nat × Nat)) (q r K L : Nat) (e : Ending) (w' : World) : Prop := ∃ A k c n A' k' c' n', e = .returned (.tuple #[.slice A k c, .slice A' k' c']) ∧ Hid (n = q) ∧ Hid (n' = r) ∧ k ≤ K ∧ k' ≤ L ∧ Has w0 w' ((A, k, c, n) :: (A', k', c', n') :: l)
theorem or_shl32' (a b : Int) (a0 : 0 ≤ a) (a1 : a < 4294967296) (b0 : 0 ≤ b) (b1 : b < 4294967296) : bits .or .u64 (b * 4294967296) a = a + b * 4294967296 := by
  rw [u64_or _ a (by omega) (by omega) a0 (by omega)]
  rw [or_join (b * 4294967296) a 32 (by omega) a0 (by omega) (by omega)]; omega

variable {w0 w : World} {l : List (Option Addr × Nat × Nat × Nat)}
set_option maxRecDepth 10000 in
set_option maxHeartbeats 1000000 in
theorem short_h (H : Has w0 w l) (A1 : Option Addr) (k1 c1 x : Nat) (b : Nat) (h1 : (A1, k1, c1, x) ∈ l) (b1 : k1 ≤ 1099511627776) (hb0 : 0 < b) (hb1 : b < 4294967296) :
    Calls Tryz.prog 116 #[.slice A1 k1 c1, .int .u32 b] w (Made2 w0 l (x / b) (x % b) k1 2) := by
  obtain ⟨hr, hk, _, _⟩ := H.at h1
  have hmk := fun N (h : N ≤ 9223372036854775807) (h4 : 4 * N ≤ 281474976710656) => run_make_row' (P := Tryz.prog) 78 57 (.int .u32 0) 4 Tryz.underlying78 info57 rfl .i64 .i64 N h4 h
  have m1 := hmk k1 (by omega) (by omega)
  have HK := Lib.hid hk
  have HR := Lib.hid hr
  have HH := Lib.hid H
  clear hmk hk hr H
  go_enter Tryz.func116, Tryz.ntmps116
  go_upto_region 1 with fail
  go_cut [6] (fun v wc => v = .slice (some ⟨w.heap.size, 0, none⟩) k1 k1 ∧ Hid (Wr wc w.heap.size 0 (List.replicate k1 0)) ∧ Hid (Below w.heap.size w wc))
  case first =>
    go_wp2_with fail
    go_meet
    case rel => exact ⟨rfl, Lib.hid (Wr.made _ _ _), Lib.hid ((Below.refl _ _).alloc (Nat.le_refl _) _)⟩
  case rest =>
    obtain ⟨rfl, HW, HB⟩ := hcut
    clear m1
    go_wp2_with fail
    go_loopw [7, 8] (fun v7 v8 wr => ∃ (j : Nat) (hi : List Int) (rest : Nat), j ≤ k1 ∧ v8 = .int .i64 ((j : Int) - 1) ∧ v7 = .int .u64 (rest : Int) ∧ rest < 4294967296 ∧ Hid (ShortInv x b j hi rest) ∧ Hid (Wr wr w.heap.size 0 (List.replicate j 0 ++ hi)) ∧ Hid (Below w.heap.size w wr)) (fun v7 v8 wr => (intOf v8 + 1).toNat)
    case atStart => exact ⟨k1, [], 0, Nat.le_refl _, rfl, rfl, by omega, Lib.hid (by rw [← HK.out]; exact ShortInv.start x b), by rw [List.append_nil]; exact HW, HB⟩
    case round =>
      obtain ⟨j, hi, rest, hj, rfl, rfl, hrest, HA, HW2, HB2⟩ := hrel
      cases j with
      | zero =>
        have hz : ¬ (0 : Int) ≤ ((0 : Nat) : Int) - 1 := by omega
        have hA := HA.out
        have hv : vl hi = ((x / b : Nat) : Int) := by rw [hA.val, Nat.pow_zero, Nat.div_one]
        have hl2 : rest = x % b := by rw [hA.left, Nat.pow_zero, Nat.div_one]
        have hlen : hi.length = k1 := by rw [hA.len, HK.out]; omega
        have hw2 : Wr wr w.heap.size 0 hi := by have := HW2.out; simpa using this
        have HV := Lib.hid hv
        have HL := Lib.hid hl2
        have HLE := Lib.hid hlen
        have HW3 := Lib.hid hw2
        have hA2 := Lib.hid hA.ok
        clear hv hl2 hlen hw2 hA HA
        go_wp2_with fail
        refine (trim_calls _ k1 k1 hi (x / b) wr HLE.out (Nat.le_refl _) (by omega) hA2.out HV.out HW3.out.rd).mono ?_
        rintro e w' ⟨rfl, rfl⟩
        go_wp2_with fail
        have hH1 : Has w0 wr ((some ⟨w.heap.size, 0, none⟩, (dg (x / b)).length, k1, x / b) :: l) := (HH.out.below HB2.out).cons (by rw [← (take_dg hi (x / b) hA2.out HV.out).2]; exact HW3.out.rd.take _) rfl (by rw [← HK.out]; exact len_div x b) (by omega)
        have H1 := Lib.hid hH1
        clear hH1
        refine (of_h H1.out rest (by omega) (by omega)).mono ?_
        rintro e w1 ⟨A3, k3, c3, n3, rfl, hn3, b3, H3⟩
        go_wp2_with fail
        go_ret2
        exact ⟨_, _, _, x / b, _, _, _, n3, rfl, Lib.hid rfl, Lib.hid (by rw [hn3.out, Int.toNat_natCast, HL.out]), by rw [← HK.out]; exact len_div x b, b3, H3.keep (by simp; intros; simp_all)⟩
      | succ j =>
        have hz : ((j + 1 : Nat) : Int) - 1 = j := by omega
        rw [hz]
        clear hz
        obtain ⟨d, hd⟩ : ∃ d : Nat, (dg x).getD j 0 = (d : Int) := ⟨((dg x).getD j 0).toNat, by have := digit_lt x j; omega⟩
        have hd1 : d < 4294967296 := by have := digit_lt x j; omega
        have hjk : j < (dg x).length := by rw [HK.out]; omega
        obtain ⟨s, hs⟩ : ∃ s, rest * 4294967296 + d = s := ⟨_, rfl⟩
        obtain ⟨hA, hsb, hrb⟩ := ShortInv.step hb0 hjk HA.out d s hd hs.symm
        obtain ⟨b1', o1, hA1, hcell0⟩ := HR.out (by intro h; rw [h] at hjk; simp at hjk)
        subst hA1
        have hc0 := hcell0 j d (by rw [List.getElem?_eq_getElem hjk, ← hd, List.getD_eq_getElem?_getD, List.getElem?_eq_getElem hjk]; rfl)
        have hc0' : wr.cell? ⟨b1', o1 + j, none⟩ = some (.int .u32 d) := by rw [HB2.out.cell (p := ⟨b1', o1 + j, none⟩) (World.block_lt_of_cell? w _ hc0)]; exact hc0
        have hcell := HW2.out j 0 (low_get hi j)
        rw [Nat.zero_add] at hcell
        obtain ⟨hc1, hc2⟩ := hcell
        have hor := or_shl32' d rest (by omega) (by omega) (by omega) (by omega)
        have hsum : (d : Int) + (rest : Int) * 4294967296 = s := by omega
        rw [hsum] at hor
        have hq : ((s : Int) / b) = ((s / b : Nat) : Int) := by push_cast; rfl
        have hr2 : ((s : Int) % b) = ((s % b : Nat) : Int) := by push_cast; rfl
        have hrl : s % b < 4294967296 := Nat.lt_trans (Nat.mod_lt _ hb0) hb1
        obtain ⟨q, hqq⟩ : ∃ q, s / b = q := ⟨_, rfl⟩
        obtain ⟨r, hrr⟩ : ∃ r, s % b = r := ⟨_, rfl⟩
        rw [hqq] at hq hsb hA
        rw [hrr] at hr2 hrl hA
        have hw : Wr (Go.World.setCell wr ⟨w.heap.size, j, none⟩ (.int .u32 q)) w.heap.size 0 (List.replicate j 0 ++ (q : Int) :: hi) := by
          have := HW2.out.set j q
          rwa [Nat.zero_add, low_set] at this
        have hb : ∀ v, Below w.heap.size w (Go.World.setCell wr ⟨w.heap.size, j, none⟩ v) := fun v => HB2.out.setCell (p := ⟨w.heap.size, j, none⟩) (Nat.le_refl _) v
        have HAS := Lib.hid hA
        have HWS := Lib.hid hw
        have HBS := Lib.hid hb
        clear hd hjk hs hA hrb hcell0 hc0 hsum hqq hrr hw hb HA HW2
        go_wp2_with fail
        rw [hr2]
        exact ⟨⟨j, _, r, by omega, rfl, rfl, hrl, HAS, HWS, Lib.hid (HBS.out _)⟩, by simp [intOf]⟩
end Go.Proofs.YtfcfejlffmddnaaGreatDoor
end
section
/- Plain laws: a multiple is taken off a row, and given back. -/
namespace Go.Proofs.YtfcfejlffmddnaaGreatDoor
set_option linter.unusedSimpArgs false
set_option linter.unusedVariables false

structure TakeInv (r d : List Int) (q : Int) (i : Nat) (out : List Int) (c b : Int) : Prop where
  len : out.length = i
  ok : dgs out
  c0 : 0 ≤ c
  c1 : c < 4294967296
  b0 : 0 ≤ b
  b1 : b ≤ 1
  over : ∃ p, 0 ≤ p ∧ p < BB i ∧ q * vl (d.take i) = p + BB i * c
  eq : vl (r.take i) + BB i * (b + c) = vl out + q * vl (d.take i)
theorem TakeInv.start (r d : List Int) (q : Int) : TakeInv r d q 0 [] 0 0 := ⟨rfl, dgs_nil, by omega, by omega, by omega, by omega, ⟨0, by simp [vl_nil, BB_zero]⟩, by simp [vl_nil]⟩
theorem TakeInv.sum {r d : List Int} {q : Int} {i : Nat} {out : List Int} {c b : Int} (hd : dgs d) (q0 : 0 ≤ q) (q1 : q < 4294967296) (h : TakeInv r d q i out c b) : 0 ≤ q * d.getD i 0 ∧ q * d.getD i 0 ≤ 18446744065119617025 := by
  obtain ⟨d0, d1⟩ := dgs_getD hd i
  exact mul_lt_BB q0 q1 d0 d1
theorem TakeInv.step {r d : List Int} {q : Int} {i : Nat} {out : List Int} {c b : Int} (hr : dgs r) (hd : dgs d) (q0 : 0 ≤ q) (q1 : q < 4294967296) (h : TakeInv r d q i out c b) (s x : Int) (hs : s = c + q * d.getD i 0) (hx : x = r.getD i 0 - s % 4294967296 - b) :
    TakeInv r d q (i + 1) (out ++ [x % 4294967296]) (s / 4294967296) (if x < 0 then 1 else 0) := by
  obtain ⟨m0, m1⟩ := h.sum hd q0 q1
  obtain ⟨r0, r1⟩ := dgs_getD hr i
  obtain ⟨h1, h2, h3, h4, h5, h6, ⟨p, p0, p1, p2⟩, h7⟩ := h
  have hb : (if x < 0 then (1 : Int) else 0) = -(x / 4294967296) := by split <;> omega
  have hp := BB_pos i
  have hq1 : q * vl (d.take (i + 1)) = q * vl (d.take i) + BB i * (q * d.getD i 0) := by
    rw [vl_take_succ, Int.mul_add, Int.mul_left_comm]
  have hm := split_mul (BB i) s
  have hm2 := split_mul (BB i) x
  have hbs : BB i * s = BB i * c + BB i * (q * d.getD i 0) := by rw [hs, Int.mul_add]
  have hbx : BB i * x = BB i * r.getD i 0 - BB i * (s % 4294967296) - BB i * b := by rw [hx, Int.mul_sub, Int.mul_sub]
  refine ⟨by simp [h1], dgs_snoc h2 (by omega) (by omega), by omega, by omega, by split <;> omega, by split <;> omega, ⟨p + BB i * (s % 4294967296), ?_, ?_, ?_⟩, ?_⟩
  · have := Int.mul_nonneg (Int.le_of_lt hp) (show 0 ≤ s % 4294967296 by omega); omega
  · have : BB i * (s % 4294967296) ≤ BB i * 4294967295 := Int.mul_le_mul_of_nonneg_left (by omega) (Int.le_of_lt hp)
    rw [BB_succ]; omega
  · rw [hq1, p2, BB_succ]; omega
  · rw [hq1, vl_snoc, h1, BB_succ, vl_take_succ, hb, Int.mul_add, Int.mul_neg]
    rw [Int.mul_add] at h7
    omega
theorem TakeInv.fin {r : List Int} {y : Nat} {q : Int} {N : Nat} {out : List Int} {c b : Int} (hr : dgs r) (hN : r.length = N) (hy : (dg y).length < N) (q0 : 0 ≤ q) (q1 : q < 4294967296) (h : TakeInv r (dg y) q N out c b) :
    vl out = vl r - q * y + BB N * b ∧ decide (0 < b) = decide (vl r < q * y) := by
  obtain ⟨h1, h2, h3, h4, h5, h6, ⟨p, p0, p1, p2⟩, h7⟩ := h
  rw [vl_take_all _ _ (by omega), vl_dg] at p2
  rw [vl_take_all r _ (by omega), vl_take_all (dg y) _ (by omega), vl_dg] at h7
  obtain ⟨M, rfl⟩ : ∃ M, N = M + 1 := ⟨N - 1, by omega⟩
  have hyM := (dg_len_le y M).1 (by omega)
  have hp := BB_pos M
  have hqy : q * y ≤ 4294967295 * y := Int.mul_le_mul_of_nonneg_right (by omega) (by omega)
  have hB := BB_succ M
  have hc : c = 0 := by
    rcases Int.lt_or_le 0 c with h | h
    · have : BB (M + 1) * 1 ≤ BB (M + 1) * c := Int.mul_le_mul_of_nonneg_left (by omega) (by omega)
      omega
    · omega
  have hv0 := vl_nonneg h2
  have hv1 := vl_lt h2
  rw [h1] at hv1
  rw [hc, Int.add_zero] at h7
  refine ⟨by omega, ?_⟩
  have : b = 0 ∨ b = 1 := by omega
  rcases this with rfl | rfl
  · rw [Int.mul_zero] at h7
    have : ¬ vl r < q * y := by omega
    simp [this]
  · rw [Int.mul_one] at h7
    have : vl r < q * y := by omega
    simp [this]
/-- The row between the rounds: what is done, and what is still as it was. -/
theorem part_get (out r : List Int) (hi : out.length < r.length) : (out ++ r.drop out.length)[out.length]? = some (r.getD out.length 0) := by
  rw [List.getElem?_append_right (Nat.le_refl _), Nat.sub_self, List.getElem?_drop, Nat.add_zero, List.getD_eq_getElem?_getD, List.getElem?_eq_getElem hi]; rfl
theorem part_set (out r : List Int) (v : Int) (hi : out.length < r.length) : (out ++ r.drop out.length).set out.length v = (out ++ [v]) ++ r.drop (out.length + 1) := by
  rw [List.set_append_right _ _ (Nat.le_refl _), Nat.sub_self, List.drop_eq_getElem_cons hi, List.set_cons_zero, List.append_assoc]; rfl
/-- The row with the multiple given back. -/
theorem AddInv.back {r : List Int} {y : Nat} {N : Nat} {out : List Int} {c : Int} (hN : r.length = N) (hy : (dg y).length ≤ N) (h : AddInv r (dg y) N out c) : vl out + BB N * c = vl r + y := by
  obtain ⟨h1, h2, h3, h4, h5⟩ := h
  rw [vl_take_all _ _ (by omega), vl_take_all _ _ (by omega), vl_dg] at h5
  exact h5
end Go.Proofs.YtfcfejlffmddnaaGreatDoor
end
section
/- Contracts: takes. -/
namespace Go.Proofs.YtfcfejlffmddnaaGreatDoor
open Go.RowKit
set_option linter.unusedSimpArgs false
set_option linter.unusedVariables false

set_option maxRecDepth 10000 in
set_option maxHeartbeats 1000000 in
theorem takes_calls (g o c N : Nat) (r : List Int) (A2 : Option Addr) (k2 c2 y : Nat) (q : Int) (w : World) (hN : Hid (r.length = N)) (hNb : N ≤ 1099511627776) (hr : Hid (dgs r)) (hW : Hid (Wr w g o r)) (h2 : Hid (Rd .u32 w A2 (dg y))) (hk : Hid ((dg y).length = k2)) (hlt : k2 < N) (hg : Hid (∀ a, A2 = some a → a.block ≠ g)) (q0 : 0 ≤ q) (q1 : q < 4294967296) :
    Calls Tryz.prog 136 #[.slice (some ⟨g, o, none⟩) N c, .slice A2 k2 c2, .int .u64 q] w fun e w' => ∃ (b : Bool) (r' : List Int), e = .returned (.bool b) ∧ Only w w' g o N ∧ Wr w' g o r' ∧ r'.length = N ∧ dgs r' ∧ vl r' = vl r - q * y + (if b then BB N else 0) ∧ b = decide (vl r < q * y) := by
  go_enter Tryz.func136, Tryz.ntmps136
  go_wp2_with fail
  go_loopw [7, 8, 13] (fun v7 v8 v13 wr => ∃ (i : Nat) (out : List Int) (cy bw : Int), i ≤ N ∧ v13 = .int .i64 i ∧ v7 = .int .u64 cy ∧ v8 = .int .u64 bw ∧ 0 ≤ cy ∧ cy < 4294967296 ∧ 0 ≤ bw ∧ bw ≤ 1 ∧ Hid (TakeInv r (dg y) q i out cy bw) ∧ Hid (Wr wr g o (out ++ r.drop i)) ∧ Hid (Only w wr g o N)) (fun v7 v8 v13 wr => N - (intOf v13).toNat)
  case atStart => exact ⟨0, [], 0, 0, Nat.zero_le _, rfl, rfl, rfl, by omega, by omega, by omega, by omega, Lib.hid (TakeInv.start _ _ _), hW, Lib.hid (Only.refl _ _ _ _)⟩
  case round =>
    obtain ⟨i, out, cy, bw, hi, rfl, rfl, rfl, cy0, cy1, bw0, bw1, HA, HW2, HO⟩ := hrel
    by_cases hltN : i < N
    · obtain ⟨xi, hxi⟩ : ∃ z, r.getD i 0 = z := ⟨_, rfl⟩
      obtain ⟨yi, hyi⟩ : ∃ z, (dg y).getD i 0 = z := ⟨_, rfl⟩
      obtain ⟨x0, x1⟩ := dgs_getD hr.out i
      obtain ⟨y0, y1⟩ := dgs_getD (dgs_dg y) i
      rw [hxi] at x0 x1
      rw [hyi] at y0 y1
      obtain ⟨m0, m1⟩ := HA.out.sum (dgs_dg y) q0 q1
      rw [hyi] at m0 m1
      obtain ⟨hc1, hc2⟩ := HW2.out i xi (by
        have h := part_get out r (by rw [HA.out.len, hN.out]; exact hltN)
        rw [HA.out.len, hxi] at h; exact h)
      obtain ⟨s, hs⟩ : ∃ s, cy + q * yi = s := ⟨_, rfl⟩
      have s0 : 0 ≤ s := by omega
      have s1 : s ≤ 18446744069414584320 := by omega
      have hmw : IntKind.u64.wrap (q * yi) = q * yi := by rw [IntKind.wrap_u64]; omega
      have hsw : IntKind.u64.wrap (cy + q * yi) = s := by rw [IntKind.wrap_u64]; omega
      have hA := TakeInv.step hr.out (dgs_dg y) q0 q1 HA.out s (xi - s % 4294967296 - bw) (by rw [hyi, ← hs]) (by rw [hxi])
      obtain ⟨r1, hr1⟩ : ∃ r, IntKind.u64.wrap (xi - s % 4294967296) = r := ⟨_, rfl⟩
      obtain ⟨r2, hr2⟩ : ∃ r, IntKind.u64.wrap (r1 - bw) = r := ⟨_, rfl⟩
      obtain ⟨e1, e2⟩ := sub_wrap xi (s % 4294967296) bw x0 x1 (by omega) (by omega) bw0 bw1 r1 r2 hr1 hr2
      have E1 := Lib.hid e1
      have E2 := Lib.hid e2
      have hw : ∀ v, Wr (Go.World.setCell wr ⟨g, o + i, none⟩ (.int .u32 v)) g o ((out ++ [v]) ++ r.drop (i + 1)) := fun v => by
        have := HW2.out.set i v
        rw [← HA.out.len, part_set out r v (by rw [HA.out.len, hN.out]; exact hltN), HA.out.len] at this
        exact this
      have ho : ∀ v, Only w (Go.World.setCell wr ⟨g, o + i, none⟩ v) g o N := fun v => HO.out.set i hltN v
      have hrd : Rd .u32 wr A2 (dg y) := HO.out.rd h2.out hg.out
      have HAS := Lib.hid hA
      have HWS := Lib.hid hw
      have HOS := Lib.hid ho
      have HY := Lib.hid hyi
      have HR := Lib.hid hrd
      have HSM := Lib.hid hs
      clear e1 e2 hA hw ho hxi hyi hrd hs
      go_wp2_with fail
      refine (at_num A2 c2 k2 y i _ yi hk (by omega) (by omega) HR.out HY).mono ?_
      rintro e w' ⟨rfl, rfl⟩
      go_wp2_with fail
      exact ⟨⟨i + 1, _, _, _, by omega, by go_num, rfl, rfl, by omega, by omega, by rw [E2.out]; split <;> omega, by rw [E2.out]; split <;> omega, by rw [E2.out]; exact HAS, by rw [E1.out]; exact Lib.hid (HWS.out _), Lib.hid (HOS.out _)⟩, by simp [intOf]; omega⟩
    · obtain rfl : i = N := by omega
      obtain ⟨f1, f2⟩ := TakeInv.fin hr.out hN.out (by rw [hk.out]; exact hlt) q0 q1 HA.out
      have hw : Wr wr g o out := by have := HW2.out; rwa [← hN.out, List.drop_length, List.append_nil] at this
      have F1 := Lib.hid f1
      have F2 := Lib.hid f2
      have HW3 := Lib.hid hw
      clear f1 f2 hw
      go_wp2_with fail
      go_ret
      refine ⟨_, out, rfl, HO.out, HW3.out, HA.out.len, HA.out.ok, ?_, F2.out⟩
      rw [F1.out]
      have : bw = 0 ∨ bw = 1 := by omega
      rcases this with rfl | rfl <;> simp
end Go.Proofs.YtfcfejlffmddnaaGreatDoor
end
